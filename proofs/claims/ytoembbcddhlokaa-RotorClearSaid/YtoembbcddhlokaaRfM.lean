/- Contracts: CheckAir, needs, Needs, Has, Margin, Up of the reference of rotors. -/
import Derived.Test.YtoembbcddhlokaaRfL
import Derived.Test.YtoembbcddhlokaaRfG
import Derived.Test.YtoembbcddhlokaaRoN
set_option linter.all false
namespace Go.Proofs.Ytoembbcddhlokaa
open Go Go.RowKit Go.Proofs
set_option maxRecDepth 100000
set_option maxHeartbeats 4000000

def airE (S : Tabs) (cl bu : Int) (wl wh tl th el eh nl nh : Int) : Int := chkE (rotB S cl bu) (airB wl wh tl th el eh nl nh) false false
theorem airE_zero {S : Tabs} {cl bu wl wh tl th el eh nl nh : Int} (h : airE S cl bu wl wh tl th el eh nl nh = 0) : rotB S cl bu = true ∧ vspan wl wh = true ∧ vspan tl th = true ∧ vspan el eh = true ∧ vspan nl nh = true := by
  obtain ⟨h1, h2, -, -⟩ := chkE_zero h
  unfold airB at h2; simp only [Bool.and_eq_true] at h2
  exact ⟨h1, h2.1.1.1, h2.1.1.2, h2.1.2, h2.2⟩
theorem airE_pass {S : Tabs} {cl bu wl wh tl th el eh nl nh : Int} (a b : Bool) (h : airE S cl bu wl wh tl th el eh nl nh ≠ 0) : chkE (rotB S cl bu) (airB wl wh tl th el eh nl nh) a b = airE S cl bu wl wh tl th el eh nl nh := by
  unfold airE at *
  cases h1 : rotB S cl bu <;> cases h2 : airB wl wh tl th el eh nl nh <;> simp [chkE, h1, h2] at h ⊢
theorem airE_then {S : Tabs} {cl bu wl wh tl th el eh nl nh : Int} (a b : Bool) (h : airE S cl bu wl wh tl th el eh nl nh = 0) : chkE (rotB S cl bu) (airB wl wh tl th el eh nl nh) a b = if a || b then 1 else 0 := by
  obtain ⟨h1, h2, -, -⟩ := chkE_zero h
  rw [h1, h2]; rfl

theorem rf2_CheckAir_c (hx hy hv gx gy gv lx ly lv px py pv nx ny nv ax ay av cx cy cv dx dy dv : Value) (cl bu : Int) (wl wh tl th el eh nl nh : Int) (S : Tabs) (w : World) (hR : RotAt w hx hy hv gx gy gv lx ly lv px py pv nx ny nv ax ay av cx cy cv dx dy dv cl bu S) :
   Calls Try.prog 23 #[.agg #[hx, hy, hv, gx, gy, gv, lx, ly, lv, px, py, pv, nx, ny, nv, ax, ay, av, cx, cy, cv, dx, dy, dv, .int .i64 cl, .int .i64 bu], .agg #[.int .i64 wl, .int .i64 wh, .int .i64 tl, .int .i64 th, .int .i64 el, .int .i64 eh, .int .i64 nl, .int .i64 nh]] w fun e w' => e = .returned (.int .i64 (airE S cl bu wl wh tl th el eh nl nh)) ∧ Below w.heap.size w w' := by
  have HR := Lib.hid hR
  have hc := fun w1 hR => rf_Check_c hx hy hv gx gy gv lx ly lv px py pv nx ny nv ax ay av cx cy cv dx dy dv cl bu S w1 hR
  clear hR
  unfold airE airB
  cases h1 : rotB S cl bu
  · rw [h1, rotE_f] at hc
    have HC := Lib.hid hc
    clear hc
    go_enter Try.func23, Try.ntmps23
    go_wp2_with (first | (refine wpl_row rfl 27 _ rfl _ rfl #[hx, hy, hv, gx, gy, gv, lx, ly, lv, px, py, pv, nx, ny, nv, ax, ay, av, cx, cy, cv, dx, dy, dv, .int .i64 cl, .int .i64 bu] 26 ?_ Try.rowRot rfl ?_; (focus exact (by repeat (first | (refine Blk.newAt _ _ _ ?_; first | rfl | (simp; done)) | refine Blk.alloc ?_ _))); simp only [Act.put]) | (go_at_call 18; (with_reducible refine (HC.out _ (HR.out.below (by repeat' (first | exact Below.refl _ _ | assumption | refine Below.drew ?_ | refine bdn ?_ _ | refine bal ?_ _ | refine Below.setCell ?_ (by first | (simp; done) | omega | (simp; omega)) _)))).mono ?_); rintro e w1 ⟨rfl, hb1⟩; have hB1 := bthen (show Below w.heap.size w _ from (by repeat' (first | exact Below.refl _ _ | assumption | refine Below.drew ?_ | refine bdn ?_ _ | refine bal ?_ _ | refine Below.setCell ?_ (by first | (simp; done) | omega | (simp; omega)) _))) hb1; have hz1 := hb1.size; (try simp at hz1); obtain ⟨hc1, hf1⟩ := bcell hb1; first | (have hE1 := bthen2 hE (by repeat' (first | exact Below.refl _ _ | refine Below.drew ?_ | refine bdn ?_ _ | refine bal ?_ _ | refine Below.setCell ?_ (by first | (simp; done) | omega | (simp; omega)) _)) hb1; clear hE; have hE := hE1; clear hE1; obtain ⟨hd1, hg1⟩ := bcell hE) | (have hE := hb1)))
    go_ret
    exact ⟨rfl, (by repeat' (first | exact Below.refl _ _ | assumption | refine Below.drew ?_ | refine bdn ?_ _ | refine bal ?_ _ | refine Below.setCell ?_ (by first | (simp; done) | omega | (simp; omega)) _))⟩
  · rw [h1, rotE_t] at hc
    have HC := Lib.hid hc
    clear hc
    cases h2 : vspan wl wh
    case true =>
      cases h3 : vspan tl th
      case true =>
        cases h4 : vspan el eh
        case true =>
          cases h5 : vspan nl nh
          all_goals
            go_enter Try.func23, Try.ntmps23
            go_wp2_with (first | (refine wpl_row rfl 27 _ rfl _ rfl #[hx, hy, hv, gx, gy, gv, lx, ly, lv, px, py, pv, nx, ny, nv, ax, ay, av, cx, cy, cv, dx, dy, dv, .int .i64 cl, .int .i64 bu] 26 ?_ Try.rowRot rfl ?_; (focus exact (by repeat (first | (refine Blk.newAt _ _ _ ?_; first | rfl | (simp; done)) | refine Blk.alloc ?_ _))); simp only [Act.put]) | (go_at_call 18; (with_reducible refine (HC.out _ (HR.out.below (by repeat' (first | exact Below.refl _ _ | assumption | refine Below.drew ?_ | refine bdn ?_ _ | refine bal ?_ _ | refine Below.setCell ?_ (by first | (simp; done) | omega | (simp; omega)) _)))).mono ?_); rintro e w1 ⟨rfl, hb1⟩; have hB1 := bthen (show Below w.heap.size w _ from (by repeat' (first | exact Below.refl _ _ | assumption | refine Below.drew ?_ | refine bdn ?_ _ | refine bal ?_ _ | refine Below.setCell ?_ (by first | (simp; done) | omega | (simp; omega)) _))) hb1; have hz1 := hb1.size; (try simp at hz1); obtain ⟨hc1, hf1⟩ := bcell hb1; first | (have hE1 := bthen2 hE (by repeat' (first | exact Below.refl _ _ | refine Below.drew ?_ | refine bdn ?_ _ | refine bal ?_ _ | refine Below.setCell ?_ (by first | (simp; done) | omega | (simp; omega)) _)) hb1; clear hE; have hE := hE1; clear hE1; obtain ⟨hd1, hg1⟩ := bcell hE) | (have hE := hb1)) | (go_at_call 24; (with_reducible refine (rf_Valid_c _ _ _).mono ?_); rintro e w1 ⟨rfl, hb1⟩; have hB1 := bthen (show Below w.heap.size w _ from (by repeat' (first | exact Below.refl _ _ | assumption | refine Below.drew ?_ | refine bdn ?_ _ | refine bal ?_ _ | refine Below.setCell ?_ (by first | (simp; done) | omega | (simp; omega)) _))) hb1; have hz1 := hb1.size; (try simp at hz1); obtain ⟨hc1, hf1⟩ := bcell hb1; first | (have hE1 := bthen2 hE (by repeat' (first | exact Below.refl _ _ | refine Below.drew ?_ | refine bdn ?_ _ | refine bal ?_ _ | refine Below.setCell ?_ (by first | (simp; done) | omega | (simp; omega)) _)) hb1; clear hE; have hE := hE1; clear hE1; obtain ⟨hd1, hg1⟩ := bcell hE) | (have hE := hb1)))
            go_ret
            exact ⟨rfl, (by repeat' (first | exact Below.refl _ _ | assumption | refine Below.drew ?_ | refine bdn ?_ _ | refine bal ?_ _ | refine Below.setCell ?_ (by first | (simp; done) | omega | (simp; omega)) _))⟩
        go_enter Try.func23, Try.ntmps23
        go_wp2_with (first | (refine wpl_row rfl 27 _ rfl _ rfl #[hx, hy, hv, gx, gy, gv, lx, ly, lv, px, py, pv, nx, ny, nv, ax, ay, av, cx, cy, cv, dx, dy, dv, .int .i64 cl, .int .i64 bu] 26 ?_ Try.rowRot rfl ?_; (focus exact (by repeat (first | (refine Blk.newAt _ _ _ ?_; first | rfl | (simp; done)) | refine Blk.alloc ?_ _))); simp only [Act.put]) | (go_at_call 18; (with_reducible refine (HC.out _ (HR.out.below (by repeat' (first | exact Below.refl _ _ | assumption | refine Below.drew ?_ | refine bdn ?_ _ | refine bal ?_ _ | refine Below.setCell ?_ (by first | (simp; done) | omega | (simp; omega)) _)))).mono ?_); rintro e w1 ⟨rfl, hb1⟩; have hB1 := bthen (show Below w.heap.size w _ from (by repeat' (first | exact Below.refl _ _ | assumption | refine Below.drew ?_ | refine bdn ?_ _ | refine bal ?_ _ | refine Below.setCell ?_ (by first | (simp; done) | omega | (simp; omega)) _))) hb1; have hz1 := hb1.size; (try simp at hz1); obtain ⟨hc1, hf1⟩ := bcell hb1; first | (have hE1 := bthen2 hE (by repeat' (first | exact Below.refl _ _ | refine Below.drew ?_ | refine bdn ?_ _ | refine bal ?_ _ | refine Below.setCell ?_ (by first | (simp; done) | omega | (simp; omega)) _)) hb1; clear hE; have hE := hE1; clear hE1; obtain ⟨hd1, hg1⟩ := bcell hE) | (have hE := hb1)) | (go_at_call 24; (with_reducible refine (rf_Valid_c _ _ _).mono ?_); rintro e w1 ⟨rfl, hb1⟩; have hB1 := bthen (show Below w.heap.size w _ from (by repeat' (first | exact Below.refl _ _ | assumption | refine Below.drew ?_ | refine bdn ?_ _ | refine bal ?_ _ | refine Below.setCell ?_ (by first | (simp; done) | omega | (simp; omega)) _))) hb1; have hz1 := hb1.size; (try simp at hz1); obtain ⟨hc1, hf1⟩ := bcell hb1; first | (have hE1 := bthen2 hE (by repeat' (first | exact Below.refl _ _ | refine Below.drew ?_ | refine bdn ?_ _ | refine bal ?_ _ | refine Below.setCell ?_ (by first | (simp; done) | omega | (simp; omega)) _)) hb1; clear hE; have hE := hE1; clear hE1; obtain ⟨hd1, hg1⟩ := bcell hE) | (have hE := hb1)))
        go_ret
        exact ⟨rfl, (by repeat' (first | exact Below.refl _ _ | assumption | refine Below.drew ?_ | refine bdn ?_ _ | refine bal ?_ _ | refine Below.setCell ?_ (by first | (simp; done) | omega | (simp; omega)) _))⟩
      go_enter Try.func23, Try.ntmps23
      go_wp2_with (first | (refine wpl_row rfl 27 _ rfl _ rfl #[hx, hy, hv, gx, gy, gv, lx, ly, lv, px, py, pv, nx, ny, nv, ax, ay, av, cx, cy, cv, dx, dy, dv, .int .i64 cl, .int .i64 bu] 26 ?_ Try.rowRot rfl ?_; (focus exact (by repeat (first | (refine Blk.newAt _ _ _ ?_; first | rfl | (simp; done)) | refine Blk.alloc ?_ _))); simp only [Act.put]) | (go_at_call 18; (with_reducible refine (HC.out _ (HR.out.below (by repeat' (first | exact Below.refl _ _ | assumption | refine Below.drew ?_ | refine bdn ?_ _ | refine bal ?_ _ | refine Below.setCell ?_ (by first | (simp; done) | omega | (simp; omega)) _)))).mono ?_); rintro e w1 ⟨rfl, hb1⟩; have hB1 := bthen (show Below w.heap.size w _ from (by repeat' (first | exact Below.refl _ _ | assumption | refine Below.drew ?_ | refine bdn ?_ _ | refine bal ?_ _ | refine Below.setCell ?_ (by first | (simp; done) | omega | (simp; omega)) _))) hb1; have hz1 := hb1.size; (try simp at hz1); obtain ⟨hc1, hf1⟩ := bcell hb1; first | (have hE1 := bthen2 hE (by repeat' (first | exact Below.refl _ _ | refine Below.drew ?_ | refine bdn ?_ _ | refine bal ?_ _ | refine Below.setCell ?_ (by first | (simp; done) | omega | (simp; omega)) _)) hb1; clear hE; have hE := hE1; clear hE1; obtain ⟨hd1, hg1⟩ := bcell hE) | (have hE := hb1)) | (go_at_call 24; (with_reducible refine (rf_Valid_c _ _ _).mono ?_); rintro e w1 ⟨rfl, hb1⟩; have hB1 := bthen (show Below w.heap.size w _ from (by repeat' (first | exact Below.refl _ _ | assumption | refine Below.drew ?_ | refine bdn ?_ _ | refine bal ?_ _ | refine Below.setCell ?_ (by first | (simp; done) | omega | (simp; omega)) _))) hb1; have hz1 := hb1.size; (try simp at hz1); obtain ⟨hc1, hf1⟩ := bcell hb1; first | (have hE1 := bthen2 hE (by repeat' (first | exact Below.refl _ _ | refine Below.drew ?_ | refine bdn ?_ _ | refine bal ?_ _ | refine Below.setCell ?_ (by first | (simp; done) | omega | (simp; omega)) _)) hb1; clear hE; have hE := hE1; clear hE1; obtain ⟨hd1, hg1⟩ := bcell hE) | (have hE := hb1)))
      go_ret
      exact ⟨rfl, (by repeat' (first | exact Below.refl _ _ | assumption | refine Below.drew ?_ | refine bdn ?_ _ | refine bal ?_ _ | refine Below.setCell ?_ (by first | (simp; done) | omega | (simp; omega)) _))⟩
    go_enter Try.func23, Try.ntmps23
    go_wp2_with (first | (refine wpl_row rfl 27 _ rfl _ rfl #[hx, hy, hv, gx, gy, gv, lx, ly, lv, px, py, pv, nx, ny, nv, ax, ay, av, cx, cy, cv, dx, dy, dv, .int .i64 cl, .int .i64 bu] 26 ?_ Try.rowRot rfl ?_; (focus exact (by repeat (first | (refine Blk.newAt _ _ _ ?_; first | rfl | (simp; done)) | refine Blk.alloc ?_ _))); simp only [Act.put]) | (go_at_call 18; (with_reducible refine (HC.out _ (HR.out.below (by repeat' (first | exact Below.refl _ _ | assumption | refine Below.drew ?_ | refine bdn ?_ _ | refine bal ?_ _ | refine Below.setCell ?_ (by first | (simp; done) | omega | (simp; omega)) _)))).mono ?_); rintro e w1 ⟨rfl, hb1⟩; have hB1 := bthen (show Below w.heap.size w _ from (by repeat' (first | exact Below.refl _ _ | assumption | refine Below.drew ?_ | refine bdn ?_ _ | refine bal ?_ _ | refine Below.setCell ?_ (by first | (simp; done) | omega | (simp; omega)) _))) hb1; have hz1 := hb1.size; (try simp at hz1); obtain ⟨hc1, hf1⟩ := bcell hb1; first | (have hE1 := bthen2 hE (by repeat' (first | exact Below.refl _ _ | refine Below.drew ?_ | refine bdn ?_ _ | refine bal ?_ _ | refine Below.setCell ?_ (by first | (simp; done) | omega | (simp; omega)) _)) hb1; clear hE; have hE := hE1; clear hE1; obtain ⟨hd1, hg1⟩ := bcell hE) | (have hE := hb1)) | (go_at_call 24; (with_reducible refine (rf_Valid_c _ _ _).mono ?_); rintro e w1 ⟨rfl, hb1⟩; have hB1 := bthen (show Below w.heap.size w _ from (by repeat' (first | exact Below.refl _ _ | assumption | refine Below.drew ?_ | refine bdn ?_ _ | refine bal ?_ _ | refine Below.setCell ?_ (by first | (simp; done) | omega | (simp; omega)) _))) hb1; have hz1 := hb1.size; (try simp at hz1); obtain ⟨hc1, hf1⟩ := bcell hb1; first | (have hE1 := bthen2 hE (by repeat' (first | exact Below.refl _ _ | refine Below.drew ?_ | refine bdn ?_ _ | refine bal ?_ _ | refine Below.setCell ?_ (by first | (simp; done) | omega | (simp; omega)) _)) hb1; clear hE; have hE := hE1; clear hE1; obtain ⟨hd1, hg1⟩ := bcell hE) | (have hE := hb1)))
    go_ret
    exact ⟨rfl, (by repeat' (first | exact Below.refl _ _ | assumption | refine Below.drew ?_ | refine bdn ?_ _ | refine bal ?_ _ | refine Below.setCell ?_ (by first | (simp; done) | omega | (simp; omega)) _))⟩

def rneedR (w0 g : Nat) (t1 a1 a2 b1 t2 a3 a4 b2 : Value) : Nat → Value → World → Prop
  | 0, v, _ => v = .pointer (some ⟨g, 0, none⟩)
  | 1, v, _ => v = t1
  | 2, v, _ => v = .pointer (some ⟨g + 1, 0, none⟩)
  | 3, v, _ => v = a1
  | 4, v, _ => v = .pointer (some ⟨g + 1, 2, none⟩)
  | 5, v, _ => v = a2
  | 6, v, _ => v = b1
  | 7, v, _ => v = .pointer (some ⟨g, 3, none⟩)
  | 8, v, _ => v = t2
  | 9, v, _ => v = a3
  | 10, v, _ => v = .pointer (some ⟨g + 1, 6, none⟩)
  | 11, v, _ => v = a4
  | 12, v, _ => v = b2
  | 13, v, w => NewBlk w0 34 #[.int .i64 0, .int .i64 0] v w
  | 14, v, w => NewBlk w0 34 #[.int .i64 0, .int .i64 0] v w
  | _, _, _ => True
theorem rneedR_below {w0 g : Nat} {t1 a1 a2 b1 t2 a3 a4 b2 : Value} (k : Nat) (v : Value) (w w' : World) (hb : Below w.heap.size w w') (h : rneedR w0 g t1 a1 a2 b1 t2 a3 a4 b2 k v w) : rneedR w0 g t1 a1 a2 b1 t2 a3 a4 b2 k v w' := by
  unfold rneedR at *
  split at h <;> first | exact h | exact NewBlk.below hb h


theorem rf2_needs_c (hx hy hv gx gy gv lx ly lv px py pv nx ny nv ax ay av cx cy cv dx dy dv : Value) (cl bu : Int) (wl wh tl th el eh nl nh : Int) (sl sh : Int) (S : Tabs) (w : World) (hR : RotAt w hx hy hv gx gy gv lx ly lv px py pv nx ny nv ax ay av cx cy cv dx dy dv cl bu S) (h1 : rightB S.h 0 100000 = true) (h2 : rightB S.g 0 100 = true)
    (hH : Fits S.h wl wh tl th) (hG : Fits S.g sl sh nl nh) :
   Calls Try.prog 76 #[.agg #[hx, hy, hv, gx, gy, gv, lx, ly, lv, px, py, pv, nx, ny, nv, ax, ay, av, cx, cy, cv, dx, dy, dv, .int .i64 cl, .int .i64 bu], .agg #[.int .i64 wl, .int .i64 wh, .int .i64 tl, .int .i64 th, .int .i64 el, .int .i64 eh, .int .i64 nl, .int .i64 nh], .agg #[.int .i64 sl, .int .i64 sh]] w fun e w' => e = .returned (.agg #[.int .i64 (needLo S wl wh tl th nl nh sl sh), .int .i64 (needHi S wl wh tl th nl nh sl sh)]) ∧ Below w.heap.size w w' := by
  have HH := Lib.hid hH
  have HG := Lib.hid hG
  have HR := Lib.hid hR
  have l1 := bnd_lim h1 hH
  have l2 := bnd_lim h2 hG
  clear hH hG hR h1 h2
  unfold needLo needHi
  have c1 := fun w1 x y v => rf2_bound_c x y v S.h wl wh tl th w1
  have c2 := fun w1 x y v => rf2_bound_c x y v S.g sl sh nl nh w1
  generalize bLo S.h wl wh tl th = p0 at *
  generalize bHi S.h wl wh tl th = p1 at *
  generalize bLo S.g sl sh nl nh = g0 at *
  generalize bHi S.g sl sh nl nh = g1 at *
  have C1 := Lib.hid c1
  have C2 := Lib.hid c2
  clear c1 c2
  have m1 := mul_bd (a := p0) (b := g0) (A := 100000) (B := 100) (by omega) (by omega) (by omega) (by omega)
  have m2 := mul_bd (a := p1) (b := g1) (A := 100000) (B := 100) (by omega) (by omega) (by omega) (by omega)
  have m3 : 0 ≤ p0 * g0 := Int.mul_nonneg (by omega) (by omega)
  have m4 : 0 ≤ p1 * g1 := Int.mul_nonneg (by omega) (by omega)
  have F := Lib.hid (fun w => (show Calls Try.prog 90 #[.int .i64 (p1 * g1), .int .i64 100] w fun e w' => e = .returned (.int .i64 ((p1 * g1 + 99) / 100)) ∧ w = w' by
    have := rf_up_c (p1 * g1) 100 w (by omega) (by omega) (by omega) (by omega)
    rwa [← up_eq (by omega), show p1 * g1 + 100 - 1 = p1 * g1 + 99 by omega] at this))
  go_enter Try.func76, Try.ntmps76
  go_wp2
  have bM : Blk ((((w.alloc (.cells #[hx, hy, hv, gx, gy, gv, lx, ly, lv, px, py, pv, nx, ny, nv, ax, ay, av, cx, cy, cv, dx, dy, dv, .int .i64 cl, .int .i64 bu] 27)).alloc (.cells #[.int .i64 wl, .int .i64 wh, .int .i64 tl, .int .i64 th, .int .i64 el, .int .i64 eh, .int .i64 nl, .int .i64 nh] 36)).alloc (.cells #[.int .i64 sl, .int .i64 sh] 34)).alloc (.cells #[.int .i64 0, .int .i64 0] 34)) w.heap.size 27 #[hx, hy, hv, gx, gy, gv, lx, ly, lv, px, py, pv, nx, ny, nv, ax, ay, av, cx, cy, cv, dx, dy, dv, .int .i64 cl, .int .i64 bu] := (by repeat (first | (refine Blk.newAt _ _ _ ?_; first | rfl | (simp; done)) | refine Blk.alloc ?_ _))
  have bA : Blk ((((w.alloc (.cells #[hx, hy, hv, gx, gy, gv, lx, ly, lv, px, py, pv, nx, ny, nv, ax, ay, av, cx, cy, cv, dx, dy, dv, .int .i64 cl, .int .i64 bu] 27)).alloc (.cells #[.int .i64 wl, .int .i64 wh, .int .i64 tl, .int .i64 th, .int .i64 el, .int .i64 eh, .int .i64 nl, .int .i64 nh] 36)).alloc (.cells #[.int .i64 sl, .int .i64 sh] 34)).alloc (.cells #[.int .i64 0, .int .i64 0] 34)) (w.heap.size + 1) 36 #[.int .i64 wl, .int .i64 wh, .int .i64 tl, .int .i64 th, .int .i64 el, .int .i64 eh, .int .i64 nl, .int .i64 nh] := (by repeat (first | (refine Blk.newAt _ _ _ ?_; first | rfl | (simp; done)) | refine Blk.alloc ?_ _))
  have bS : Blk ((((w.alloc (.cells #[hx, hy, hv, gx, gy, gv, lx, ly, lv, px, py, pv, nx, ny, nv, ax, ay, av, cx, cy, cv, dx, dy, dv, .int .i64 cl, .int .i64 bu] 27)).alloc (.cells #[.int .i64 wl, .int .i64 wh, .int .i64 tl, .int .i64 th, .int .i64 el, .int .i64 eh, .int .i64 nl, .int .i64 nh] 36)).alloc (.cells #[.int .i64 sl, .int .i64 sh] 34)).alloc (.cells #[.int .i64 0, .int .i64 0] 34)) (w.heap.size + 1 + 1) 34 #[.int .i64 sl, .int .i64 sh] := (by repeat (first | (refine Blk.newAt _ _ _ ?_; first | rfl | (simp; done)) | refine Blk.alloc ?_ _))
  have bZ : Blk ((((w.alloc (.cells #[hx, hy, hv, gx, gy, gv, lx, ly, lv, px, py, pv, nx, ny, nv, ax, ay, av, cx, cy, cv, dx, dy, dv, .int .i64 cl, .int .i64 bu] 27)).alloc (.cells #[.int .i64 wl, .int .i64 wh, .int .i64 tl, .int .i64 th, .int .i64 el, .int .i64 eh, .int .i64 nl, .int .i64 nh] 36)).alloc (.cells #[.int .i64 sl, .int .i64 sh] 34)).alloc (.cells #[.int .i64 0, .int .i64 0] 34)) (w.heap.size + 1 + 1 + 1) 34 #[.int .i64 0, .int .i64 0] := (by repeat (first | (refine Blk.newAt _ _ _ ?_; first | rfl | (simp; done)) | refine Blk.alloc ?_ _))
  have bW : Below w.heap.size w ((((w.alloc (.cells #[hx, hy, hv, gx, gy, gv, lx, ly, lv, px, py, pv, nx, ny, nv, ax, ay, av, cx, cy, cv, dx, dy, dv, .int .i64 cl, .int .i64 bu] 27)).alloc (.cells #[.int .i64 wl, .int .i64 wh, .int .i64 tl, .int .i64 th, .int .i64 el, .int .i64 eh, .int .i64 nl, .int .i64 nh] 36)).alloc (.cells #[.int .i64 sl, .int .i64 sh] 34)).alloc (.cells #[.int .i64 0, .int .i64 0] 34)) := (by repeat' (first | exact Below.refl _ _ | assumption | refine Below.drew ?_ | refine bdn ?_ _ | refine bal ?_ _ | refine Below.setCell ?_ (by first | (simp; done) | omega | (simp; omega)) _))
  generalize ((((w.alloc (.cells #[hx, hy, hv, gx, gy, gv, lx, ly, lv, px, py, pv, nx, ny, nv, ax, ay, av, cx, cy, cv, dx, dy, dv, .int .i64 cl, .int .i64 bu] 27)).alloc (.cells #[.int .i64 wl, .int .i64 wh, .int .i64 tl, .int .i64 th, .int .i64 el, .int .i64 eh, .int .i64 nl, .int .i64 nh] 36)).alloc (.cells #[.int .i64 sl, .int .i64 sh] 34)).alloc (.cells #[.int .i64 0, .int .i64 0] 34)) = W at *
  have zW := bZ.lt
  have BM := Lib.hid bM
  have BA := Lib.hid bA
  have BS := Lib.hid bS
  have BZ := Lib.hid bZ
  have BW := Lib.hid bW
  clear bM bA bS bZ bW
  refine wp_region_spec 15 (rneedR (w.heap.size + 1 + 1 + 1 + 1) w.heap.size (.agg #[hx, hy, hv]) (.agg #[.int .i64 wl, .int .i64 wh]) (.agg #[.int .i64 tl, .int .i64 th]) (.agg #[.int .i64 p0, .int .i64 p1]) (.agg #[gx, gy, gv]) (.agg #[.int .i64 sl, .int .i64 sh]) (.agg #[.int .i64 nl, .int .i64 nh]) (.agg #[.int .i64 g0, .int .i64 g1])) (fun i => decide (i = 13) || decide (i = 14)) (by kernel_rfl) (by kernel_rfl) rneedR_below ?hop1 ?htail1
  case hop1 =>
    simp only [List.take_succ_cons, List.take_zero, allOps]
    refine ⟨?_, ?_, ?_, ?_, ?_, ?_, ?_, ?_, ?_, ?_, ?_, ?_, ?_, ?_, ?_, trivial⟩
    all_goals intro u A w1 hA hb hd
    all_goals simp only [putAll, dstOf, List.getElem?_toArray, List.getElem?_cons_succ, List.getElem?_cons_zero, Option.bind_some, Option.bind, Act.put, List.setIfInBounds_toArray, List.set_cons_succ, List.set_cons_zero] at hA; subst hA
    all_goals have HB1 := Lib.hid hb
    · clear hb hd
      go_wp2
      exact ⟨_, rfl, Below.refl _ _, rfl, fun h => absurd h (by decide)⟩
    · have d0 : u 0 = _ := hd 0 (by omega) (by kernel_rfl)
      clear hb hd
      rw [d0]
      clear d0
      have c0 := (BM.out.below HB1.out).cell 0
      have c1 := (BM.out.below HB1.out).cell 1
      have c2 := (BM.out.below HB1.out).cell 2
      go_wp2
      exact ⟨_, rfl, Below.refl _ _, rfl, fun h => absurd h (by decide)⟩
    · clear hb hd
      go_wp2
      exact ⟨_, rfl, Below.refl _ _, rfl, fun h => absurd h (by decide)⟩
    · have d2 : u 2 = _ := hd 2 (by omega) (by kernel_rfl)
      clear hb hd
      rw [d2]
      clear d2
      have c0 := (BA.out.below HB1.out).cell 0
      have c1 := (BA.out.below HB1.out).cell 1
      go_wp2
      exact ⟨_, rfl, Below.refl _ _, rfl, fun h => absurd h (by decide)⟩
    · clear hb hd
      go_wp2
      exact ⟨_, rfl, Below.refl _ _, rfl, fun h => absurd h (by decide)⟩
    · have d4 : u 4 = _ := hd 4 (by omega) (by kernel_rfl)
      clear hb hd
      rw [d4]
      clear d4
      have c0 := (BA.out.below HB1.out).cell 2
      have c1 := (BA.out.below HB1.out).cell 3
      go_wp2
      exact ⟨_, rfl, Below.refl _ _, rfl, fun h => absurd h (by decide)⟩
    · have d1 : u 1 = _ := hd 1 (by omega) (by kernel_rfl)
      have d3 : u 3 = _ := hd 3 (by omega) (by kernel_rfl)
      have d5 : u 5 = _ := hd 5 (by omega) (by kernel_rfl)
      clear hb hd
      rw [d1, d3, d5]
      clear d1 d3 d5
      go_wp2_with (go_at_call 80; (with_reducible refine (C1.out _ _ _ _ ((HR.out.h.below BW.out).below HB1.out) HH.out).mono ?_); rintro e w2 ⟨rfl, hb2⟩)
      exact ⟨_, rfl, hb2, rfl, fun h => absurd h (by decide)⟩
    · clear hb hd
      go_wp2
      exact ⟨_, rfl, Below.refl _ _, rfl, fun h => absurd h (by decide)⟩
    · have d7 : u 7 = _ := hd 7 (by omega) (by kernel_rfl)
      clear hb hd
      rw [d7]
      clear d7
      have c0 := (BM.out.below HB1.out).cell 3
      have c1 := (BM.out.below HB1.out).cell 4
      have c2 := (BM.out.below HB1.out).cell 5
      go_wp2
      exact ⟨_, rfl, Below.refl _ _, rfl, fun h => absurd h (by decide)⟩
    · clear hb hd
      have c0 := (BS.out.below HB1.out).cell 0
      have c1 := (BS.out.below HB1.out).cell 1
      go_wp2
      exact ⟨_, rfl, Below.refl _ _, rfl, fun h => absurd h (by decide)⟩
    · clear hb hd
      go_wp2
      exact ⟨_, rfl, Below.refl _ _, rfl, fun h => absurd h (by decide)⟩
    · have d10 : u 10 = _ := hd 10 (by omega) (by kernel_rfl)
      clear hb hd
      rw [d10]
      clear d10
      have c0 := (BA.out.below HB1.out).cell 6
      have c1 := (BA.out.below HB1.out).cell 7
      go_wp2
      exact ⟨_, rfl, Below.refl _ _, rfl, fun h => absurd h (by decide)⟩
    · have d6 : u 6 = _ := hd 6 (by omega) (by kernel_rfl)
      have d8 : u 8 = _ := hd 8 (by omega) (by kernel_rfl)
      have d9 : u 9 = _ := hd 9 (by omega) (by kernel_rfl)
      have d11 : u 11 = _ := hd 11 (by omega) (by kernel_rfl)
      clear hb hd
      rw [d6, d8, d9, d11]
      clear d6 d8 d9 d11
      go_wp2_with (go_at_call 80; (with_reducible refine (C2.out _ _ _ _ ((HR.out.g.below BW.out).below HB1.out) HG.out).mono ?_); rintro e w2 ⟨rfl, hb2⟩)
      exact ⟨_, rfl, hb2, rfl, fun h => absurd h (by decide)⟩
    · have zz := hb.size
      clear hb hd
      go_wp2
      exact ⟨_, rfl, bal (Below.refl _ _) _, ⟨_, rfl, by omega, Blk.new _ _ _⟩, fun _ => ⟨_, rfl, Nat.le_refl _, by simp⟩⟩
    · have zz := hb.size
      clear hb hd
      go_wp2
      exact ⟨_, rfl, bal (Below.refl _ _) _, ⟨_, rfl, by omega, Blk.new _ _ _⟩, fun _ => ⟨_, rfl, Nat.le_refl _, by simp⟩⟩
  case htail1 =>
    intro u A w1 hA hb hd hf
    simp only [putAll, dstOf, List.getElem?_toArray, List.getElem?_cons_succ, List.getElem?_cons_zero, Option.bind_some, Option.bind, Act.put, List.setIfInBounds_toArray, List.set_cons_succ, List.set_cons_zero] at hA; subst hA
    have e0 : u 0 = _ := hd 0 (by omega)
    have e1 : u 1 = _ := hd 1 (by omega)
    have e2 : u 2 = _ := hd 2 (by omega)
    have e3 : u 3 = _ := hd 3 (by omega)
    have e4 : u 4 = _ := hd 4 (by omega)
    have e5 : u 5 = _ := hd 5 (by omega)
    have e6 : u 6 = _ := hd 6 (by omega)
    have e7 : u 7 = _ := hd 7 (by omega)
    have e8 : u 8 = _ := hd 8 (by omega)
    have e9 : u 9 = _ := hd 9 (by omega)
    have e10 : u 10 = _ := hd 10 (by omega)
    have e11 : u 11 = _ := hd 11 (by omega)
    have e12 : u 12 = _ := hd 12 (by omega)
    obtain ⟨g13, e13, z13, b13⟩ := hd 13 (by omega)
    obtain ⟨g14, e14, z14, b14⟩ := hd 14 (by omega)
    have ne13_14 := hf 13 14 (by omega) (by omega) (by omega) rfl rfl
    rw [e13, e14] at ne13_14
    have hne13_14 : g13 ≠ g14 := fun h => ne13_14 (by rw [h])
    clear ne13_14
    first | rw [e0, e1, e2, e3, e4, e5, e6, e7, e8, e9, e10, e11, e12, e13, e14] | simp only [e0, e1, e2, e3, e4, e5, e6, e7, e8, e9, e10, e11, e12, e13, e14]
    clear e0 e1 e2 e3 e4 e5 e6 e7 e8 e9 e10 e11 e12 e13 e14
    clear hd hf
    have k0 := b13.cell 0
    have k1 := b13.cell 1
    have k2 := fun i => b13.frozen i
    have j0 := b14.cell 0
    have j1 := b14.cell 1
    have j2 := fun i => b14.frozen i
    have bz := BZ.out.below hb
    have hB := Lib.hid ((BW.out).trans (hb.mono BW.out.size))
    have N1 := Lib.hid b13
    have N2 := Lib.hid b14
    have BZ1 := Lib.hid bz
    clear bz hb b13 b14 HH HG C1 C2 BM BA BS BZ BW HR
    go_wp2
    have X1 := Lib.hid ((((N1.out.set_ 0 (.int .i64 p0)).set_ 1 (.int .i64 p1)).far' hne13_14 (i := 0) (.int .i64 g0)).far' hne13_14 (i := 1) (.int .i64 g1))
    have X2 := Lib.hid ((((N2.out.far' (Ne.symm hne13_14) (i := 0) (.int .i64 p0)).far' (Ne.symm hne13_14) (i := 1) (.int .i64 p1)).set_ 0 (.int .i64 g0)).set_ 1 (.int .i64 g1))
    have X3 := Lib.hid ((((BZ1.out.far' (f := g13) (by omega) (i := 0) (.int .i64 p0)).far' (f := g13) (by omega) (i := 1) (.int .i64 p1)).far' (f := g14) (by omega) (i := 0) (.int .i64 g0)).far' (f := g14) (by omega) (i := 1) (.int .i64 g1))
    have X4 := Lib.hid (bset (bset (bset (bset hB.out (g := g13) (by omega) (i := 0) (.int .i64 p0)) (g := g13) (by omega) (i := 1) (.int .i64 p1)) (g := g14) (by omega) (i := 0) (.int .i64 g0)) (g := g14) (by omega) (i := 1) (.int .i64 g1))
    clear k0 k1 k2 j0 j1 j2 N1 N2 BZ1 hB
    generalize (((w1.setCell ⟨g13, 0, none⟩ (.int .i64 p0)).setCell ⟨g13, 1, none⟩ (.int .i64 p1)).setCell ⟨g14, 0, none⟩ (.int .i64 g0)).setCell ⟨g14, 1, none⟩ (.int .i64 g1) = W5 at *
    have k0 := X1.out.cell 0
    have k1 := X1.out.cell 1
    have j0 := X2.out.cell 0
    have j1 := X2.out.cell 1
    have r0 := X3.out.cell 0
    have r1 := X3.out.cell 1
    have r2 := fun i => X3.out.frozen i
    simp at k0 k1 j0 j1
    (refine wp_region_drawnt 13 (by kernel_rfl) (by kernel_rfl) ?_; simp only [List.take_succ_cons, List.take_zero, List.drop_succ_cons, List.drop_zero]; (repeat (go_big_quiet_step ( (go_at_call 90; (with_reducible refine qsame (F.out _)))))); refine wpQuiet_nil ?_; rintro _ ⟨nq, rfl⟩)
    have X5 := Lib.hid (Blk.below X3.out (bdn (Below.refl W5.heap.size W5) nq))
    go_wp2
    exact bodyPost_ret (res_c rfl _ _ #[.int .i64 (p0 * g0 / 100), .int .i64 ((p1 * g1 + 99) / 100)] 2 rfl ((X5.out.set_ 0 _).set_ 1 _) Try.rowSpan rfl) rfl ⟨rfl, bset (bset (bdn X4.out _) (by omega) _) (by omega) _⟩
theorem lieB_air {T : Tbl} {a b c d : Int} (h1 : vspan a b = true) (h2 : vspan c d = true) : lieB T a b c d = lkE T a b c d := by rw [lieB_eq, h1, h2]; simp
theorem lieB_right {T : Tbl} {a b c d : Int} (h2 : vspan c d = true) : lieB T a b c d = (vspan a b && lkE T a b c d) := by rw [lieB_eq, h2]; simp

theorem rf2_Needs_c (hx hy hv gx gy gv lx ly lv px py pv nx ny nv ax ay av cx cy cv dx dy dv : Value) (cl bu : Int) (wl wh tl th el eh nl nh : Int) (S : Tabs) (sl sh : Int) (w : World) (hR : RotAt w hx hy hv gx gy gv lx ly lv px py pv nx ny nv ax ay av cx cy cv dx dy dv cl bu S) :
   Calls Try.prog 30 #[.agg #[hx, hy, hv, gx, gy, gv, lx, ly, lv, px, py, pv, nx, ny, nv, ax, ay, av, cx, cy, cv, dx, dy, dv, .int .i64 cl, .int .i64 bu], .agg #[.int .i64 wl, .int .i64 wh, .int .i64 tl, .int .i64 th, .int .i64 el, .int .i64 eh, .int .i64 nl, .int .i64 nh], .agg #[.int .i64 sl, .int .i64 sh]] w fun e w' => e = .returned (.tuple #[.agg #[.int .i64 (neeLo S cl bu wl wh tl th el eh nl nh sl sh), .int .i64 (neeHi S cl bu wl wh tl th el eh nl nh sl sh)], .int .i64 (neeE S cl bu wl wh tl th el eh nl nh sl sh)]) ∧ Below w.heap.size w w' := by
  have HR := Lib.hid hR
  have hc := fun w1 hR => rf2_CheckAir_c hx hy hv gx gy gv lx ly lv px py pv nx ny nv ax ay av cx cy cv dx dy dv cl bu wl wh tl th el eh nl nh S w1 hR
  clear hR
  unfold neeLo neeHi neeE
  by_cases h : airE S cl bu wl wh tl th el eh nl nh = 0
  · rw [airE_then _ _ h]
    rw [h] at hc
    have HC := Lib.hid hc
    obtain ⟨hr, v1, v2, v3, v4⟩ := airE_zero h
    have l1 := fun w1 hT => rf2_lies_c hx hy hv S.h wl wh tl th w1 hT (lkE_pos (rotB_h hr)).1 (lkE_pos (rotB_h hr)).2
    have l2 := fun w1 hT => rf2_lies_c gx gy gv S.g sl sh nl nh w1 hT (lkE_pos (rotB_g hr)).1 (lkE_pos (rotB_g hr)).2
    rw [lieB_air v1 v2] at l1
    rw [lieB_right v4] at l2
    cases b1 : lkE S.h wl wh tl th
    · rw [show (!vspan sl sh || (!false || !lkE S.g sl sh nl nh)) = true by simp, if_pos rfl, okN_no (by omega), okN_no (by omega)]
      rw [b1] at l1
      have L1 := Lib.hid l1
      clear l1 l2 hr v1 v2 v3 v4 h hc b1
      go_enter Try.func30, Try.ntmps30
      go_wp2_with (first | (refine wpl_row rfl 27 _ rfl _ rfl #[hx, hy, hv, gx, gy, gv, lx, ly, lv, px, py, pv, nx, ny, nv, ax, ay, av, cx, cy, cv, dx, dy, dv, .int .i64 cl, .int .i64 bu] 26 ?_ Try.rowRot rfl ?_; (focus exact (by repeat (first | (refine Blk.newAt _ _ _ ?_; first | rfl | (simp; done)) | refine Blk.alloc ?_ _))); simp only [Act.put]) | (refine wpl_row rfl 36 _ rfl _ rfl #[.int .i64 wl, .int .i64 wh, .int .i64 tl, .int .i64 th, .int .i64 el, .int .i64 eh, .int .i64 nl, .int .i64 nh] 8 ?_ Try.rowAir rfl ?_; (focus exact (by repeat (first | (refine Blk.newAt _ _ _ ?_; first | rfl | (simp; done)) | refine Blk.alloc ?_ _))); simp only [Act.put]))
      have bHM : Blk ((((w.alloc (.cells #[hx, hy, hv, gx, gy, gv, lx, ly, lv, px, py, pv, nx, ny, nv, ax, ay, av, cx, cy, cv, dx, dy, dv, .int .i64 cl, .int .i64 bu] 27)).alloc (.cells #[.int .i64 wl, .int .i64 wh, .int .i64 tl, .int .i64 th, .int .i64 el, .int .i64 eh, .int .i64 nl, .int .i64 nh] 36)).alloc (.cells #[.int .i64 sl, .int .i64 sh] 34)).alloc (.cells #[.int .i64 0, .int .i64 0] 34)) (w.heap.size) 27 #[hx, hy, hv, gx, gy, gv, lx, ly, lv, px, py, pv, nx, ny, nv, ax, ay, av, cx, cy, cv, dx, dy, dv, .int .i64 cl, .int .i64 bu] := (by repeat (first | (refine Blk.newAt _ _ _ ?_; first | rfl | (simp; done)) | refine Blk.alloc ?_ _))
      have bHA : Blk ((((w.alloc (.cells #[hx, hy, hv, gx, gy, gv, lx, ly, lv, px, py, pv, nx, ny, nv, ax, ay, av, cx, cy, cv, dx, dy, dv, .int .i64 cl, .int .i64 bu] 27)).alloc (.cells #[.int .i64 wl, .int .i64 wh, .int .i64 tl, .int .i64 th, .int .i64 el, .int .i64 eh, .int .i64 nl, .int .i64 nh] 36)).alloc (.cells #[.int .i64 sl, .int .i64 sh] 34)).alloc (.cells #[.int .i64 0, .int .i64 0] 34)) (w.heap.size + 1) 36 #[.int .i64 wl, .int .i64 wh, .int .i64 tl, .int .i64 th, .int .i64 el, .int .i64 eh, .int .i64 nl, .int .i64 nh] := (by repeat (first | (refine Blk.newAt _ _ _ ?_; first | rfl | (simp; done)) | refine Blk.alloc ?_ _))
      have bHS : Blk ((((w.alloc (.cells #[hx, hy, hv, gx, gy, gv, lx, ly, lv, px, py, pv, nx, ny, nv, ax, ay, av, cx, cy, cv, dx, dy, dv, .int .i64 cl, .int .i64 bu] 27)).alloc (.cells #[.int .i64 wl, .int .i64 wh, .int .i64 tl, .int .i64 th, .int .i64 el, .int .i64 eh, .int .i64 nl, .int .i64 nh] 36)).alloc (.cells #[.int .i64 sl, .int .i64 sh] 34)).alloc (.cells #[.int .i64 0, .int .i64 0] 34)) (w.heap.size + 1 + 1) 34 #[.int .i64 sl, .int .i64 sh] := (by repeat (first | (refine Blk.newAt _ _ _ ?_; first | rfl | (simp; done)) | refine Blk.alloc ?_ _))
      have bHZ : Blk ((((w.alloc (.cells #[hx, hy, hv, gx, gy, gv, lx, ly, lv, px, py, pv, nx, ny, nv, ax, ay, av, cx, cy, cv, dx, dy, dv, .int .i64 cl, .int .i64 bu] 27)).alloc (.cells #[.int .i64 wl, .int .i64 wh, .int .i64 tl, .int .i64 th, .int .i64 el, .int .i64 eh, .int .i64 nl, .int .i64 nh] 36)).alloc (.cells #[.int .i64 sl, .int .i64 sh] 34)).alloc (.cells #[.int .i64 0, .int .i64 0] 34)) (w.heap.size + 1 + 1 + 1) 34 #[.int .i64 0, .int .i64 0] := (by repeat (first | (refine Blk.newAt _ _ _ ?_; first | rfl | (simp; done)) | refine Blk.alloc ?_ _))
      have bHB : Below w.heap.size w ((((w.alloc (.cells #[hx, hy, hv, gx, gy, gv, lx, ly, lv, px, py, pv, nx, ny, nv, ax, ay, av, cx, cy, cv, dx, dy, dv, .int .i64 cl, .int .i64 bu] 27)).alloc (.cells #[.int .i64 wl, .int .i64 wh, .int .i64 tl, .int .i64 th, .int .i64 el, .int .i64 eh, .int .i64 nl, .int .i64 nh] 36)).alloc (.cells #[.int .i64 sl, .int .i64 sh] 34)).alloc (.cells #[.int .i64 0, .int .i64 0] 34)) := (by repeat' (first | exact Below.refl _ _ | assumption | refine Below.drew ?_ | refine bdn ?_ _ | refine bal ?_ _ | refine Below.setCell ?_ (by first | (simp; done) | omega | (simp; omega)) _))
      generalize ((((w.alloc (.cells #[hx, hy, hv, gx, gy, gv, lx, ly, lv, px, py, pv, nx, ny, nv, ax, ay, av, cx, cy, cv, dx, dy, dv, .int .i64 cl, .int .i64 bu] 27)).alloc (.cells #[.int .i64 wl, .int .i64 wh, .int .i64 tl, .int .i64 th, .int .i64 el, .int .i64 eh, .int .i64 nl, .int .i64 nh] 36)).alloc (.cells #[.int .i64 sl, .int .i64 sh] 34)).alloc (.cells #[.int .i64 0, .int .i64 0] 34)) = W at *
      have zW := bHZ.lt
      have HM := Lib.hid bHM
      have HA := Lib.hid bHA
      have HS := Lib.hid bHS
      have HZ := Lib.hid bHZ
      have HB := Lib.hid bHB
      clear bHM bHA bHS bHZ bHB
      have zHM := HM.out.lt
      have cHM0 := HM.out.cell 0
      have cHM1 := HM.out.cell 1
      have cHM2 := HM.out.cell 2
      have cHM3 := HM.out.cell 3
      have cHM4 := HM.out.cell 4
      have cHM5 := HM.out.cell 5
      have zHA := HA.out.lt
      have cHA0 := HA.out.cell 0
      have cHA1 := HA.out.cell 1
      have cHA2 := HA.out.cell 2
      have cHA3 := HA.out.cell 3
      have cHA4 := HA.out.cell 4
      have cHA5 := HA.out.cell 5
      have cHA6 := HA.out.cell 6
      have cHA7 := HA.out.cell 7
      have zHS := HS.out.lt
      have cHS0 := HS.out.cell 0
      have cHS1 := HS.out.cell 1
      have zHZ := HZ.out.lt
      have cHZ0 := HZ.out.cell 0
      have cHZ1 := HZ.out.cell 1
      have fHZ := fun i => HZ.out.frozen i
      go_wp2_with (first | (refine wpl_row rfl 27 _ rfl _ rfl #[hx, hy, hv, gx, gy, gv, lx, ly, lv, px, py, pv, nx, ny, nv, ax, ay, av, cx, cy, cv, dx, dy, dv, .int .i64 cl, .int .i64 bu] 26 HM.out Try.rowRot rfl ?_; simp only [Act.put]) | (refine wpl_row rfl 36 _ rfl _ rfl #[.int .i64 wl, .int .i64 wh, .int .i64 tl, .int .i64 th, .int .i64 el, .int .i64 eh, .int .i64 nl, .int .i64 nh] 8 HA.out Try.rowAir rfl ?_; simp only [Act.put]) | (go_at_call 23; (with_reducible refine (HC.out _ (HR.out.below HB.out)).mono ?_); rintro e w1 ⟨rfl, hb1⟩; have nHM := Lib.hid (HM.out.below hb1); have nHA := Lib.hid (HA.out.below hb1); have nHS := Lib.hid (HS.out.below hb1); have nHZ := Lib.hid (HZ.out.below hb1); have nHB := Lib.hid (bthen HB.out hb1); have zz1 := hb1.size; clear HM HA HS HZ HB hb1; have HM := nHM; have HA := nHA; have HS := nHS; have HZ := nHZ; have HB := nHB; clear nHM nHA nHS nHZ nHB; (try clear zHM); have zHM := HM.out.lt; (try clear cHM0); have cHM0 := HM.out.cell 0; (try clear cHM1); have cHM1 := HM.out.cell 1; (try clear cHM2); have cHM2 := HM.out.cell 2; (try clear cHM3); have cHM3 := HM.out.cell 3; (try clear cHM4); have cHM4 := HM.out.cell 4; (try clear cHM5); have cHM5 := HM.out.cell 5; (try clear zHA); have zHA := HA.out.lt; (try clear cHA0); have cHA0 := HA.out.cell 0; (try clear cHA1); have cHA1 := HA.out.cell 1; (try clear cHA2); have cHA2 := HA.out.cell 2; (try clear cHA3); have cHA3 := HA.out.cell 3; (try clear cHA4); have cHA4 := HA.out.cell 4; (try clear cHA5); have cHA5 := HA.out.cell 5; (try clear cHA6); have cHA6 := HA.out.cell 6; (try clear cHA7); have cHA7 := HA.out.cell 7; (try clear zHS); have zHS := HS.out.lt; (try clear cHS0); have cHS0 := HS.out.cell 0; (try clear cHS1); have cHS1 := HS.out.cell 1; (try clear zHZ); have zHZ := HZ.out.lt; (try clear cHZ0); have cHZ0 := HZ.out.cell 0; (try clear cHZ1); have cHZ1 := HZ.out.cell 1; (try clear fHZ); have fHZ := fun i => HZ.out.frozen i) | (go_at_call 70; (with_reducible refine (L1.out _ (HR.out.h.below HB.out)).mono ?_); rintro e w1 ⟨rfl, hb1⟩; have nHM := Lib.hid (HM.out.below hb1); have nHA := Lib.hid (HA.out.below hb1); have nHS := Lib.hid (HS.out.below hb1); have nHZ := Lib.hid (HZ.out.below hb1); have nHB := Lib.hid (bthen HB.out hb1); have zz1 := hb1.size; clear HM HA HS HZ HB hb1; have HM := nHM; have HA := nHA; have HS := nHS; have HZ := nHZ; have HB := nHB; clear nHM nHA nHS nHZ nHB; (try clear zHM); have zHM := HM.out.lt; (try clear cHM0); have cHM0 := HM.out.cell 0; (try clear cHM1); have cHM1 := HM.out.cell 1; (try clear cHM2); have cHM2 := HM.out.cell 2; (try clear cHM3); have cHM3 := HM.out.cell 3; (try clear cHM4); have cHM4 := HM.out.cell 4; (try clear cHM5); have cHM5 := HM.out.cell 5; (try clear zHA); have zHA := HA.out.lt; (try clear cHA0); have cHA0 := HA.out.cell 0; (try clear cHA1); have cHA1 := HA.out.cell 1; (try clear cHA2); have cHA2 := HA.out.cell 2; (try clear cHA3); have cHA3 := HA.out.cell 3; (try clear cHA4); have cHA4 := HA.out.cell 4; (try clear cHA5); have cHA5 := HA.out.cell 5; (try clear cHA6); have cHA6 := HA.out.cell 6; (try clear cHA7); have cHA7 := HA.out.cell 7; (try clear zHS); have zHS := HS.out.lt; (try clear cHS0); have cHS0 := HS.out.cell 0; (try clear cHS1); have cHS1 := HS.out.cell 1; (try clear zHZ); have zHZ := HZ.out.lt; (try clear cHZ0); have cHZ0 := HZ.out.cell 0; (try clear cHZ1); have cHZ1 := HZ.out.cell 1; (try clear fHZ); have fHZ := fun i => HZ.out.frozen i))
      exact bodyPost_ret (res_ct rfl _ _ #[.int .i64 0, .int .i64 0] 2 rfl ((HZ.out.set_ 0 _).set_ 1 _) Try.rowSpan rfl) rfl ⟨rfl, bset (bset HB.out (by omega) _) (by omega) _⟩
    · rw [b1] at l1
      cases b2 : (vspan sl sh && lkE S.g sl sh nl nh)
      · rw [show (!vspan sl sh || (!true || !lkE S.g sl sh nl nh)) = true by cases h1 : vspan sl sh <;> simp [h1] at b2 ⊢; exact b2, if_pos rfl, okN_no (by omega), okN_no (by omega)]
        rw [b2] at l2
        have L1 := Lib.hid l1
        have L2 := Lib.hid l2
        clear l1 l2 hr v1 v2 v3 v4 h hc b1 b2
        go_enter Try.func30, Try.ntmps30
        go_wp2_with (first | (refine wpl_row rfl 27 _ rfl _ rfl #[hx, hy, hv, gx, gy, gv, lx, ly, lv, px, py, pv, nx, ny, nv, ax, ay, av, cx, cy, cv, dx, dy, dv, .int .i64 cl, .int .i64 bu] 26 ?_ Try.rowRot rfl ?_; (focus exact (by repeat (first | (refine Blk.newAt _ _ _ ?_; first | rfl | (simp; done)) | refine Blk.alloc ?_ _))); simp only [Act.put]) | (refine wpl_row rfl 36 _ rfl _ rfl #[.int .i64 wl, .int .i64 wh, .int .i64 tl, .int .i64 th, .int .i64 el, .int .i64 eh, .int .i64 nl, .int .i64 nh] 8 ?_ Try.rowAir rfl ?_; (focus exact (by repeat (first | (refine Blk.newAt _ _ _ ?_; first | rfl | (simp; done)) | refine Blk.alloc ?_ _))); simp only [Act.put]))
        have bHM : Blk ((((w.alloc (.cells #[hx, hy, hv, gx, gy, gv, lx, ly, lv, px, py, pv, nx, ny, nv, ax, ay, av, cx, cy, cv, dx, dy, dv, .int .i64 cl, .int .i64 bu] 27)).alloc (.cells #[.int .i64 wl, .int .i64 wh, .int .i64 tl, .int .i64 th, .int .i64 el, .int .i64 eh, .int .i64 nl, .int .i64 nh] 36)).alloc (.cells #[.int .i64 sl, .int .i64 sh] 34)).alloc (.cells #[.int .i64 0, .int .i64 0] 34)) (w.heap.size) 27 #[hx, hy, hv, gx, gy, gv, lx, ly, lv, px, py, pv, nx, ny, nv, ax, ay, av, cx, cy, cv, dx, dy, dv, .int .i64 cl, .int .i64 bu] := (by repeat (first | (refine Blk.newAt _ _ _ ?_; first | rfl | (simp; done)) | refine Blk.alloc ?_ _))
        have bHA : Blk ((((w.alloc (.cells #[hx, hy, hv, gx, gy, gv, lx, ly, lv, px, py, pv, nx, ny, nv, ax, ay, av, cx, cy, cv, dx, dy, dv, .int .i64 cl, .int .i64 bu] 27)).alloc (.cells #[.int .i64 wl, .int .i64 wh, .int .i64 tl, .int .i64 th, .int .i64 el, .int .i64 eh, .int .i64 nl, .int .i64 nh] 36)).alloc (.cells #[.int .i64 sl, .int .i64 sh] 34)).alloc (.cells #[.int .i64 0, .int .i64 0] 34)) (w.heap.size + 1) 36 #[.int .i64 wl, .int .i64 wh, .int .i64 tl, .int .i64 th, .int .i64 el, .int .i64 eh, .int .i64 nl, .int .i64 nh] := (by repeat (first | (refine Blk.newAt _ _ _ ?_; first | rfl | (simp; done)) | refine Blk.alloc ?_ _))
        have bHS : Blk ((((w.alloc (.cells #[hx, hy, hv, gx, gy, gv, lx, ly, lv, px, py, pv, nx, ny, nv, ax, ay, av, cx, cy, cv, dx, dy, dv, .int .i64 cl, .int .i64 bu] 27)).alloc (.cells #[.int .i64 wl, .int .i64 wh, .int .i64 tl, .int .i64 th, .int .i64 el, .int .i64 eh, .int .i64 nl, .int .i64 nh] 36)).alloc (.cells #[.int .i64 sl, .int .i64 sh] 34)).alloc (.cells #[.int .i64 0, .int .i64 0] 34)) (w.heap.size + 1 + 1) 34 #[.int .i64 sl, .int .i64 sh] := (by repeat (first | (refine Blk.newAt _ _ _ ?_; first | rfl | (simp; done)) | refine Blk.alloc ?_ _))
        have bHZ : Blk ((((w.alloc (.cells #[hx, hy, hv, gx, gy, gv, lx, ly, lv, px, py, pv, nx, ny, nv, ax, ay, av, cx, cy, cv, dx, dy, dv, .int .i64 cl, .int .i64 bu] 27)).alloc (.cells #[.int .i64 wl, .int .i64 wh, .int .i64 tl, .int .i64 th, .int .i64 el, .int .i64 eh, .int .i64 nl, .int .i64 nh] 36)).alloc (.cells #[.int .i64 sl, .int .i64 sh] 34)).alloc (.cells #[.int .i64 0, .int .i64 0] 34)) (w.heap.size + 1 + 1 + 1) 34 #[.int .i64 0, .int .i64 0] := (by repeat (first | (refine Blk.newAt _ _ _ ?_; first | rfl | (simp; done)) | refine Blk.alloc ?_ _))
        have bHB : Below w.heap.size w ((((w.alloc (.cells #[hx, hy, hv, gx, gy, gv, lx, ly, lv, px, py, pv, nx, ny, nv, ax, ay, av, cx, cy, cv, dx, dy, dv, .int .i64 cl, .int .i64 bu] 27)).alloc (.cells #[.int .i64 wl, .int .i64 wh, .int .i64 tl, .int .i64 th, .int .i64 el, .int .i64 eh, .int .i64 nl, .int .i64 nh] 36)).alloc (.cells #[.int .i64 sl, .int .i64 sh] 34)).alloc (.cells #[.int .i64 0, .int .i64 0] 34)) := (by repeat' (first | exact Below.refl _ _ | assumption | refine Below.drew ?_ | refine bdn ?_ _ | refine bal ?_ _ | refine Below.setCell ?_ (by first | (simp; done) | omega | (simp; omega)) _))
        generalize ((((w.alloc (.cells #[hx, hy, hv, gx, gy, gv, lx, ly, lv, px, py, pv, nx, ny, nv, ax, ay, av, cx, cy, cv, dx, dy, dv, .int .i64 cl, .int .i64 bu] 27)).alloc (.cells #[.int .i64 wl, .int .i64 wh, .int .i64 tl, .int .i64 th, .int .i64 el, .int .i64 eh, .int .i64 nl, .int .i64 nh] 36)).alloc (.cells #[.int .i64 sl, .int .i64 sh] 34)).alloc (.cells #[.int .i64 0, .int .i64 0] 34)) = W at *
        have zW := bHZ.lt
        have HM := Lib.hid bHM
        have HA := Lib.hid bHA
        have HS := Lib.hid bHS
        have HZ := Lib.hid bHZ
        have HB := Lib.hid bHB
        clear bHM bHA bHS bHZ bHB
        have zHM := HM.out.lt
        have cHM0 := HM.out.cell 0
        have cHM1 := HM.out.cell 1
        have cHM2 := HM.out.cell 2
        have cHM3 := HM.out.cell 3
        have cHM4 := HM.out.cell 4
        have cHM5 := HM.out.cell 5
        have zHA := HA.out.lt
        have cHA0 := HA.out.cell 0
        have cHA1 := HA.out.cell 1
        have cHA2 := HA.out.cell 2
        have cHA3 := HA.out.cell 3
        have cHA4 := HA.out.cell 4
        have cHA5 := HA.out.cell 5
        have cHA6 := HA.out.cell 6
        have cHA7 := HA.out.cell 7
        have zHS := HS.out.lt
        have cHS0 := HS.out.cell 0
        have cHS1 := HS.out.cell 1
        have zHZ := HZ.out.lt
        have cHZ0 := HZ.out.cell 0
        have cHZ1 := HZ.out.cell 1
        have fHZ := fun i => HZ.out.frozen i
        go_wp2_with (first | (refine wpl_row rfl 27 _ rfl _ rfl #[hx, hy, hv, gx, gy, gv, lx, ly, lv, px, py, pv, nx, ny, nv, ax, ay, av, cx, cy, cv, dx, dy, dv, .int .i64 cl, .int .i64 bu] 26 HM.out Try.rowRot rfl ?_; simp only [Act.put]) | (refine wpl_row rfl 36 _ rfl _ rfl #[.int .i64 wl, .int .i64 wh, .int .i64 tl, .int .i64 th, .int .i64 el, .int .i64 eh, .int .i64 nl, .int .i64 nh] 8 HA.out Try.rowAir rfl ?_; simp only [Act.put]) | (go_at_call 23; (with_reducible refine (HC.out _ (HR.out.below HB.out)).mono ?_); rintro e w1 ⟨rfl, hb1⟩; have nHM := Lib.hid (HM.out.below hb1); have nHA := Lib.hid (HA.out.below hb1); have nHS := Lib.hid (HS.out.below hb1); have nHZ := Lib.hid (HZ.out.below hb1); have nHB := Lib.hid (bthen HB.out hb1); have zz1 := hb1.size; clear HM HA HS HZ HB hb1; have HM := nHM; have HA := nHA; have HS := nHS; have HZ := nHZ; have HB := nHB; clear nHM nHA nHS nHZ nHB; (try clear zHM); have zHM := HM.out.lt; (try clear cHM0); have cHM0 := HM.out.cell 0; (try clear cHM1); have cHM1 := HM.out.cell 1; (try clear cHM2); have cHM2 := HM.out.cell 2; (try clear cHM3); have cHM3 := HM.out.cell 3; (try clear cHM4); have cHM4 := HM.out.cell 4; (try clear cHM5); have cHM5 := HM.out.cell 5; (try clear zHA); have zHA := HA.out.lt; (try clear cHA0); have cHA0 := HA.out.cell 0; (try clear cHA1); have cHA1 := HA.out.cell 1; (try clear cHA2); have cHA2 := HA.out.cell 2; (try clear cHA3); have cHA3 := HA.out.cell 3; (try clear cHA4); have cHA4 := HA.out.cell 4; (try clear cHA5); have cHA5 := HA.out.cell 5; (try clear cHA6); have cHA6 := HA.out.cell 6; (try clear cHA7); have cHA7 := HA.out.cell 7; (try clear zHS); have zHS := HS.out.lt; (try clear cHS0); have cHS0 := HS.out.cell 0; (try clear cHS1); have cHS1 := HS.out.cell 1; (try clear zHZ); have zHZ := HZ.out.lt; (try clear cHZ0); have cHZ0 := HZ.out.cell 0; (try clear cHZ1); have cHZ1 := HZ.out.cell 1; (try clear fHZ); have fHZ := fun i => HZ.out.frozen i) | (go_at_call 70; (with_reducible refine (L1.out _ (HR.out.h.below HB.out)).mono ?_); rintro e w1 ⟨rfl, hb1⟩; have nHM := Lib.hid (HM.out.below hb1); have nHA := Lib.hid (HA.out.below hb1); have nHS := Lib.hid (HS.out.below hb1); have nHZ := Lib.hid (HZ.out.below hb1); have nHB := Lib.hid (bthen HB.out hb1); have zz1 := hb1.size; clear HM HA HS HZ HB hb1; have HM := nHM; have HA := nHA; have HS := nHS; have HZ := nHZ; have HB := nHB; clear nHM nHA nHS nHZ nHB; (try clear zHM); have zHM := HM.out.lt; (try clear cHM0); have cHM0 := HM.out.cell 0; (try clear cHM1); have cHM1 := HM.out.cell 1; (try clear cHM2); have cHM2 := HM.out.cell 2; (try clear cHM3); have cHM3 := HM.out.cell 3; (try clear cHM4); have cHM4 := HM.out.cell 4; (try clear cHM5); have cHM5 := HM.out.cell 5; (try clear zHA); have zHA := HA.out.lt; (try clear cHA0); have cHA0 := HA.out.cell 0; (try clear cHA1); have cHA1 := HA.out.cell 1; (try clear cHA2); have cHA2 := HA.out.cell 2; (try clear cHA3); have cHA3 := HA.out.cell 3; (try clear cHA4); have cHA4 := HA.out.cell 4; (try clear cHA5); have cHA5 := HA.out.cell 5; (try clear cHA6); have cHA6 := HA.out.cell 6; (try clear cHA7); have cHA7 := HA.out.cell 7; (try clear zHS); have zHS := HS.out.lt; (try clear cHS0); have cHS0 := HS.out.cell 0; (try clear cHS1); have cHS1 := HS.out.cell 1; (try clear zHZ); have zHZ := HZ.out.lt; (try clear cHZ0); have cHZ0 := HZ.out.cell 0; (try clear cHZ1); have cHZ1 := HZ.out.cell 1; (try clear fHZ); have fHZ := fun i => HZ.out.frozen i) | (go_at_call 70; (with_reducible refine (L2.out _ (HR.out.g.below HB.out)).mono ?_); rintro e w1 ⟨rfl, hb1⟩; have nHM := Lib.hid (HM.out.below hb1); have nHA := Lib.hid (HA.out.below hb1); have nHS := Lib.hid (HS.out.below hb1); have nHZ := Lib.hid (HZ.out.below hb1); have nHB := Lib.hid (bthen HB.out hb1); have zz1 := hb1.size; clear HM HA HS HZ HB hb1; have HM := nHM; have HA := nHA; have HS := nHS; have HZ := nHZ; have HB := nHB; clear nHM nHA nHS nHZ nHB; (try clear zHM); have zHM := HM.out.lt; (try clear cHM0); have cHM0 := HM.out.cell 0; (try clear cHM1); have cHM1 := HM.out.cell 1; (try clear cHM2); have cHM2 := HM.out.cell 2; (try clear cHM3); have cHM3 := HM.out.cell 3; (try clear cHM4); have cHM4 := HM.out.cell 4; (try clear cHM5); have cHM5 := HM.out.cell 5; (try clear zHA); have zHA := HA.out.lt; (try clear cHA0); have cHA0 := HA.out.cell 0; (try clear cHA1); have cHA1 := HA.out.cell 1; (try clear cHA2); have cHA2 := HA.out.cell 2; (try clear cHA3); have cHA3 := HA.out.cell 3; (try clear cHA4); have cHA4 := HA.out.cell 4; (try clear cHA5); have cHA5 := HA.out.cell 5; (try clear cHA6); have cHA6 := HA.out.cell 6; (try clear cHA7); have cHA7 := HA.out.cell 7; (try clear zHS); have zHS := HS.out.lt; (try clear cHS0); have cHS0 := HS.out.cell 0; (try clear cHS1); have cHS1 := HS.out.cell 1; (try clear zHZ); have zHZ := HZ.out.lt; (try clear cHZ0); have cHZ0 := HZ.out.cell 0; (try clear cHZ1); have cHZ1 := HZ.out.cell 1; (try clear fHZ); have fHZ := fun i => HZ.out.frozen i))
        exact bodyPost_ret (res_ct rfl _ _ #[.int .i64 0, .int .i64 0] 2 rfl ((HZ.out.set_ 0 _).set_ 1 _) Try.rowSpan rfl) rfl ⟨rfl, bset (bset HB.out (by omega) _) (by omega) _⟩
      · have b3 := b2
        simp only [Bool.and_eq_true] at b3
        rw [show (!vspan sl sh || (!true || !lkE S.g sl sh nl nh)) = false by rw [b3.1, b3.2]; rfl, if_neg (by decide), okN_ok, okN_ok]
        rw [b2] at l2
        have L1 := Lib.hid l1
        have L2 := Lib.hid l2
        have F := Lib.hid (fun w1 hR => rf2_needs_c hx hy hv gx gy gv lx ly lv px py pv nx ny nv ax ay av cx cy cv dx dy dv cl bu wl wh tl th el eh nl nh sl sh S w1 hR (rotB_h hr) (rotB_g hr) (Fits.mk' (rotB_h hr) v1 v2 b1) (Fits.mk' (rotB_g hr) b3.1 v4 b3.2))
        generalize needLo S wl wh tl th nl nh sl sh = p0 at *
        generalize needHi S wl wh tl th nl nh sl sh = p1 at *
        clear l1 l2 hr v1 v2 v3 v4 h hc b1 b2 b3
        go_enter Try.func30, Try.ntmps30
        go_wp2_with (first | (refine wpl_row rfl 27 _ rfl _ rfl #[hx, hy, hv, gx, gy, gv, lx, ly, lv, px, py, pv, nx, ny, nv, ax, ay, av, cx, cy, cv, dx, dy, dv, .int .i64 cl, .int .i64 bu] 26 ?_ Try.rowRot rfl ?_; (focus exact (by repeat (first | (refine Blk.newAt _ _ _ ?_; first | rfl | (simp; done)) | refine Blk.alloc ?_ _))); simp only [Act.put]) | (refine wpl_row rfl 36 _ rfl _ rfl #[.int .i64 wl, .int .i64 wh, .int .i64 tl, .int .i64 th, .int .i64 el, .int .i64 eh, .int .i64 nl, .int .i64 nh] 8 ?_ Try.rowAir rfl ?_; (focus exact (by repeat (first | (refine Blk.newAt _ _ _ ?_; first | rfl | (simp; done)) | refine Blk.alloc ?_ _))); simp only [Act.put]))
        have bHM : Blk ((((w.alloc (.cells #[hx, hy, hv, gx, gy, gv, lx, ly, lv, px, py, pv, nx, ny, nv, ax, ay, av, cx, cy, cv, dx, dy, dv, .int .i64 cl, .int .i64 bu] 27)).alloc (.cells #[.int .i64 wl, .int .i64 wh, .int .i64 tl, .int .i64 th, .int .i64 el, .int .i64 eh, .int .i64 nl, .int .i64 nh] 36)).alloc (.cells #[.int .i64 sl, .int .i64 sh] 34)).alloc (.cells #[.int .i64 0, .int .i64 0] 34)) (w.heap.size) 27 #[hx, hy, hv, gx, gy, gv, lx, ly, lv, px, py, pv, nx, ny, nv, ax, ay, av, cx, cy, cv, dx, dy, dv, .int .i64 cl, .int .i64 bu] := (by repeat (first | (refine Blk.newAt _ _ _ ?_; first | rfl | (simp; done)) | refine Blk.alloc ?_ _))
        have bHA : Blk ((((w.alloc (.cells #[hx, hy, hv, gx, gy, gv, lx, ly, lv, px, py, pv, nx, ny, nv, ax, ay, av, cx, cy, cv, dx, dy, dv, .int .i64 cl, .int .i64 bu] 27)).alloc (.cells #[.int .i64 wl, .int .i64 wh, .int .i64 tl, .int .i64 th, .int .i64 el, .int .i64 eh, .int .i64 nl, .int .i64 nh] 36)).alloc (.cells #[.int .i64 sl, .int .i64 sh] 34)).alloc (.cells #[.int .i64 0, .int .i64 0] 34)) (w.heap.size + 1) 36 #[.int .i64 wl, .int .i64 wh, .int .i64 tl, .int .i64 th, .int .i64 el, .int .i64 eh, .int .i64 nl, .int .i64 nh] := (by repeat (first | (refine Blk.newAt _ _ _ ?_; first | rfl | (simp; done)) | refine Blk.alloc ?_ _))
        have bHS : Blk ((((w.alloc (.cells #[hx, hy, hv, gx, gy, gv, lx, ly, lv, px, py, pv, nx, ny, nv, ax, ay, av, cx, cy, cv, dx, dy, dv, .int .i64 cl, .int .i64 bu] 27)).alloc (.cells #[.int .i64 wl, .int .i64 wh, .int .i64 tl, .int .i64 th, .int .i64 el, .int .i64 eh, .int .i64 nl, .int .i64 nh] 36)).alloc (.cells #[.int .i64 sl, .int .i64 sh] 34)).alloc (.cells #[.int .i64 0, .int .i64 0] 34)) (w.heap.size + 1 + 1) 34 #[.int .i64 sl, .int .i64 sh] := (by repeat (first | (refine Blk.newAt _ _ _ ?_; first | rfl | (simp; done)) | refine Blk.alloc ?_ _))
        have bHZ : Blk ((((w.alloc (.cells #[hx, hy, hv, gx, gy, gv, lx, ly, lv, px, py, pv, nx, ny, nv, ax, ay, av, cx, cy, cv, dx, dy, dv, .int .i64 cl, .int .i64 bu] 27)).alloc (.cells #[.int .i64 wl, .int .i64 wh, .int .i64 tl, .int .i64 th, .int .i64 el, .int .i64 eh, .int .i64 nl, .int .i64 nh] 36)).alloc (.cells #[.int .i64 sl, .int .i64 sh] 34)).alloc (.cells #[.int .i64 0, .int .i64 0] 34)) (w.heap.size + 1 + 1 + 1) 34 #[.int .i64 0, .int .i64 0] := (by repeat (first | (refine Blk.newAt _ _ _ ?_; first | rfl | (simp; done)) | refine Blk.alloc ?_ _))
        have bHB : Below w.heap.size w ((((w.alloc (.cells #[hx, hy, hv, gx, gy, gv, lx, ly, lv, px, py, pv, nx, ny, nv, ax, ay, av, cx, cy, cv, dx, dy, dv, .int .i64 cl, .int .i64 bu] 27)).alloc (.cells #[.int .i64 wl, .int .i64 wh, .int .i64 tl, .int .i64 th, .int .i64 el, .int .i64 eh, .int .i64 nl, .int .i64 nh] 36)).alloc (.cells #[.int .i64 sl, .int .i64 sh] 34)).alloc (.cells #[.int .i64 0, .int .i64 0] 34)) := (by repeat' (first | exact Below.refl _ _ | assumption | refine Below.drew ?_ | refine bdn ?_ _ | refine bal ?_ _ | refine Below.setCell ?_ (by first | (simp; done) | omega | (simp; omega)) _))
        generalize ((((w.alloc (.cells #[hx, hy, hv, gx, gy, gv, lx, ly, lv, px, py, pv, nx, ny, nv, ax, ay, av, cx, cy, cv, dx, dy, dv, .int .i64 cl, .int .i64 bu] 27)).alloc (.cells #[.int .i64 wl, .int .i64 wh, .int .i64 tl, .int .i64 th, .int .i64 el, .int .i64 eh, .int .i64 nl, .int .i64 nh] 36)).alloc (.cells #[.int .i64 sl, .int .i64 sh] 34)).alloc (.cells #[.int .i64 0, .int .i64 0] 34)) = W at *
        have zW := bHZ.lt
        have HM := Lib.hid bHM
        have HA := Lib.hid bHA
        have HS := Lib.hid bHS
        have HZ := Lib.hid bHZ
        have HB := Lib.hid bHB
        clear bHM bHA bHS bHZ bHB
        have zHM := HM.out.lt
        have cHM0 := HM.out.cell 0
        have cHM1 := HM.out.cell 1
        have cHM2 := HM.out.cell 2
        have cHM3 := HM.out.cell 3
        have cHM4 := HM.out.cell 4
        have cHM5 := HM.out.cell 5
        have zHA := HA.out.lt
        have cHA0 := HA.out.cell 0
        have cHA1 := HA.out.cell 1
        have cHA2 := HA.out.cell 2
        have cHA3 := HA.out.cell 3
        have cHA4 := HA.out.cell 4
        have cHA5 := HA.out.cell 5
        have cHA6 := HA.out.cell 6
        have cHA7 := HA.out.cell 7
        have zHS := HS.out.lt
        have cHS0 := HS.out.cell 0
        have cHS1 := HS.out.cell 1
        have zHZ := HZ.out.lt
        have cHZ0 := HZ.out.cell 0
        have cHZ1 := HZ.out.cell 1
        have fHZ := fun i => HZ.out.frozen i
        go_wp2_with (first | (refine wpl_row rfl 27 _ rfl _ rfl #[hx, hy, hv, gx, gy, gv, lx, ly, lv, px, py, pv, nx, ny, nv, ax, ay, av, cx, cy, cv, dx, dy, dv, .int .i64 cl, .int .i64 bu] 26 HM.out Try.rowRot rfl ?_; simp only [Act.put]) | (refine wpl_row rfl 36 _ rfl _ rfl #[.int .i64 wl, .int .i64 wh, .int .i64 tl, .int .i64 th, .int .i64 el, .int .i64 eh, .int .i64 nl, .int .i64 nh] 8 HA.out Try.rowAir rfl ?_; simp only [Act.put]) | (go_at_call 23; (with_reducible refine (HC.out _ (HR.out.below HB.out)).mono ?_); rintro e w1 ⟨rfl, hb1⟩; have nHM := Lib.hid (HM.out.below hb1); have nHA := Lib.hid (HA.out.below hb1); have nHS := Lib.hid (HS.out.below hb1); have nHZ := Lib.hid (HZ.out.below hb1); have nHB := Lib.hid (bthen HB.out hb1); have zz1 := hb1.size; clear HM HA HS HZ HB hb1; have HM := nHM; have HA := nHA; have HS := nHS; have HZ := nHZ; have HB := nHB; clear nHM nHA nHS nHZ nHB; (try clear zHM); have zHM := HM.out.lt; (try clear cHM0); have cHM0 := HM.out.cell 0; (try clear cHM1); have cHM1 := HM.out.cell 1; (try clear cHM2); have cHM2 := HM.out.cell 2; (try clear cHM3); have cHM3 := HM.out.cell 3; (try clear cHM4); have cHM4 := HM.out.cell 4; (try clear cHM5); have cHM5 := HM.out.cell 5; (try clear zHA); have zHA := HA.out.lt; (try clear cHA0); have cHA0 := HA.out.cell 0; (try clear cHA1); have cHA1 := HA.out.cell 1; (try clear cHA2); have cHA2 := HA.out.cell 2; (try clear cHA3); have cHA3 := HA.out.cell 3; (try clear cHA4); have cHA4 := HA.out.cell 4; (try clear cHA5); have cHA5 := HA.out.cell 5; (try clear cHA6); have cHA6 := HA.out.cell 6; (try clear cHA7); have cHA7 := HA.out.cell 7; (try clear zHS); have zHS := HS.out.lt; (try clear cHS0); have cHS0 := HS.out.cell 0; (try clear cHS1); have cHS1 := HS.out.cell 1; (try clear zHZ); have zHZ := HZ.out.lt; (try clear cHZ0); have cHZ0 := HZ.out.cell 0; (try clear cHZ1); have cHZ1 := HZ.out.cell 1; (try clear fHZ); have fHZ := fun i => HZ.out.frozen i) | (go_at_call 70; (with_reducible refine (L1.out _ (HR.out.h.below HB.out)).mono ?_); rintro e w1 ⟨rfl, hb1⟩; have nHM := Lib.hid (HM.out.below hb1); have nHA := Lib.hid (HA.out.below hb1); have nHS := Lib.hid (HS.out.below hb1); have nHZ := Lib.hid (HZ.out.below hb1); have nHB := Lib.hid (bthen HB.out hb1); have zz1 := hb1.size; clear HM HA HS HZ HB hb1; have HM := nHM; have HA := nHA; have HS := nHS; have HZ := nHZ; have HB := nHB; clear nHM nHA nHS nHZ nHB; (try clear zHM); have zHM := HM.out.lt; (try clear cHM0); have cHM0 := HM.out.cell 0; (try clear cHM1); have cHM1 := HM.out.cell 1; (try clear cHM2); have cHM2 := HM.out.cell 2; (try clear cHM3); have cHM3 := HM.out.cell 3; (try clear cHM4); have cHM4 := HM.out.cell 4; (try clear cHM5); have cHM5 := HM.out.cell 5; (try clear zHA); have zHA := HA.out.lt; (try clear cHA0); have cHA0 := HA.out.cell 0; (try clear cHA1); have cHA1 := HA.out.cell 1; (try clear cHA2); have cHA2 := HA.out.cell 2; (try clear cHA3); have cHA3 := HA.out.cell 3; (try clear cHA4); have cHA4 := HA.out.cell 4; (try clear cHA5); have cHA5 := HA.out.cell 5; (try clear cHA6); have cHA6 := HA.out.cell 6; (try clear cHA7); have cHA7 := HA.out.cell 7; (try clear zHS); have zHS := HS.out.lt; (try clear cHS0); have cHS0 := HS.out.cell 0; (try clear cHS1); have cHS1 := HS.out.cell 1; (try clear zHZ); have zHZ := HZ.out.lt; (try clear cHZ0); have cHZ0 := HZ.out.cell 0; (try clear cHZ1); have cHZ1 := HZ.out.cell 1; (try clear fHZ); have fHZ := fun i => HZ.out.frozen i) | (go_at_call 70; (with_reducible refine (L2.out _ (HR.out.g.below HB.out)).mono ?_); rintro e w1 ⟨rfl, hb1⟩; have nHM := Lib.hid (HM.out.below hb1); have nHA := Lib.hid (HA.out.below hb1); have nHS := Lib.hid (HS.out.below hb1); have nHZ := Lib.hid (HZ.out.below hb1); have nHB := Lib.hid (bthen HB.out hb1); have zz1 := hb1.size; clear HM HA HS HZ HB hb1; have HM := nHM; have HA := nHA; have HS := nHS; have HZ := nHZ; have HB := nHB; clear nHM nHA nHS nHZ nHB; (try clear zHM); have zHM := HM.out.lt; (try clear cHM0); have cHM0 := HM.out.cell 0; (try clear cHM1); have cHM1 := HM.out.cell 1; (try clear cHM2); have cHM2 := HM.out.cell 2; (try clear cHM3); have cHM3 := HM.out.cell 3; (try clear cHM4); have cHM4 := HM.out.cell 4; (try clear cHM5); have cHM5 := HM.out.cell 5; (try clear zHA); have zHA := HA.out.lt; (try clear cHA0); have cHA0 := HA.out.cell 0; (try clear cHA1); have cHA1 := HA.out.cell 1; (try clear cHA2); have cHA2 := HA.out.cell 2; (try clear cHA3); have cHA3 := HA.out.cell 3; (try clear cHA4); have cHA4 := HA.out.cell 4; (try clear cHA5); have cHA5 := HA.out.cell 5; (try clear cHA6); have cHA6 := HA.out.cell 6; (try clear cHA7); have cHA7 := HA.out.cell 7; (try clear zHS); have zHS := HS.out.lt; (try clear cHS0); have cHS0 := HS.out.cell 0; (try clear cHS1); have cHS1 := HS.out.cell 1; (try clear zHZ); have zHZ := HZ.out.lt; (try clear cHZ0); have cHZ0 := HZ.out.cell 0; (try clear cHZ1); have cHZ1 := HZ.out.cell 1; (try clear fHZ); have fHZ := fun i => HZ.out.frozen i) | (go_at_call 76; (with_reducible refine (F.out _ (HR.out.below HB.out)).mono ?_); rintro e w1 ⟨rfl, hb1⟩; have nHM := Lib.hid (HM.out.below hb1); have nHA := Lib.hid (HA.out.below hb1); have nHS := Lib.hid (HS.out.below hb1); have nHZ := Lib.hid (HZ.out.below hb1); have nHB := Lib.hid (bthen HB.out hb1); have zz1 := hb1.size; clear HM HA HS HZ HB hb1; have HM := nHM; have HA := nHA; have HS := nHS; have HZ := nHZ; have HB := nHB; clear nHM nHA nHS nHZ nHB; (try clear zHZ); have zHZ := HZ.out.lt; (try clear cHZ0); have cHZ0 := HZ.out.cell 0; (try clear cHZ1); have cHZ1 := HZ.out.cell 1; (try clear fHZ); have fHZ := fun i => HZ.out.frozen i))
        exact bodyPost_ret (res_ct rfl _ _ #[.int .i64 p0, .int .i64 p1] 2 rfl ((HZ.out.set_ 0 _).set_ 1 _) Try.rowSpan rfl) rfl ⟨rfl, bset (bset HB.out (by omega) _) (by omega) _⟩
  · have hne : (airE S cl bu wl wh tl th el eh nl nh != 0) = true := by simpa using h
    rw [airE_pass _ _ h, okN_no h, okN_no h]
    have HC := Lib.hid hc
    generalize airE S cl bu wl wh tl th el eh nl nh = E at *
    clear h hc
    go_enter Try.func30, Try.ntmps30
    go_wp2_with (first | (refine wpl_row rfl 27 _ rfl _ rfl #[hx, hy, hv, gx, gy, gv, lx, ly, lv, px, py, pv, nx, ny, nv, ax, ay, av, cx, cy, cv, dx, dy, dv, .int .i64 cl, .int .i64 bu] 26 ?_ Try.rowRot rfl ?_; (focus exact (by repeat (first | (refine Blk.newAt _ _ _ ?_; first | rfl | (simp; done)) | refine Blk.alloc ?_ _))); simp only [Act.put]) | (refine wpl_row rfl 36 _ rfl _ rfl #[.int .i64 wl, .int .i64 wh, .int .i64 tl, .int .i64 th, .int .i64 el, .int .i64 eh, .int .i64 nl, .int .i64 nh] 8 ?_ Try.rowAir rfl ?_; (focus exact (by repeat (first | (refine Blk.newAt _ _ _ ?_; first | rfl | (simp; done)) | refine Blk.alloc ?_ _))); simp only [Act.put]))
    have bHM : Blk ((((w.alloc (.cells #[hx, hy, hv, gx, gy, gv, lx, ly, lv, px, py, pv, nx, ny, nv, ax, ay, av, cx, cy, cv, dx, dy, dv, .int .i64 cl, .int .i64 bu] 27)).alloc (.cells #[.int .i64 wl, .int .i64 wh, .int .i64 tl, .int .i64 th, .int .i64 el, .int .i64 eh, .int .i64 nl, .int .i64 nh] 36)).alloc (.cells #[.int .i64 sl, .int .i64 sh] 34)).alloc (.cells #[.int .i64 0, .int .i64 0] 34)) (w.heap.size) 27 #[hx, hy, hv, gx, gy, gv, lx, ly, lv, px, py, pv, nx, ny, nv, ax, ay, av, cx, cy, cv, dx, dy, dv, .int .i64 cl, .int .i64 bu] := (by repeat (first | (refine Blk.newAt _ _ _ ?_; first | rfl | (simp; done)) | refine Blk.alloc ?_ _))
    have bHA : Blk ((((w.alloc (.cells #[hx, hy, hv, gx, gy, gv, lx, ly, lv, px, py, pv, nx, ny, nv, ax, ay, av, cx, cy, cv, dx, dy, dv, .int .i64 cl, .int .i64 bu] 27)).alloc (.cells #[.int .i64 wl, .int .i64 wh, .int .i64 tl, .int .i64 th, .int .i64 el, .int .i64 eh, .int .i64 nl, .int .i64 nh] 36)).alloc (.cells #[.int .i64 sl, .int .i64 sh] 34)).alloc (.cells #[.int .i64 0, .int .i64 0] 34)) (w.heap.size + 1) 36 #[.int .i64 wl, .int .i64 wh, .int .i64 tl, .int .i64 th, .int .i64 el, .int .i64 eh, .int .i64 nl, .int .i64 nh] := (by repeat (first | (refine Blk.newAt _ _ _ ?_; first | rfl | (simp; done)) | refine Blk.alloc ?_ _))
    have bHS : Blk ((((w.alloc (.cells #[hx, hy, hv, gx, gy, gv, lx, ly, lv, px, py, pv, nx, ny, nv, ax, ay, av, cx, cy, cv, dx, dy, dv, .int .i64 cl, .int .i64 bu] 27)).alloc (.cells #[.int .i64 wl, .int .i64 wh, .int .i64 tl, .int .i64 th, .int .i64 el, .int .i64 eh, .int .i64 nl, .int .i64 nh] 36)).alloc (.cells #[.int .i64 sl, .int .i64 sh] 34)).alloc (.cells #[.int .i64 0, .int .i64 0] 34)) (w.heap.size + 1 + 1) 34 #[.int .i64 sl, .int .i64 sh] := (by repeat (first | (refine Blk.newAt _ _ _ ?_; first | rfl | (simp; done)) | refine Blk.alloc ?_ _))
    have bHZ : Blk ((((w.alloc (.cells #[hx, hy, hv, gx, gy, gv, lx, ly, lv, px, py, pv, nx, ny, nv, ax, ay, av, cx, cy, cv, dx, dy, dv, .int .i64 cl, .int .i64 bu] 27)).alloc (.cells #[.int .i64 wl, .int .i64 wh, .int .i64 tl, .int .i64 th, .int .i64 el, .int .i64 eh, .int .i64 nl, .int .i64 nh] 36)).alloc (.cells #[.int .i64 sl, .int .i64 sh] 34)).alloc (.cells #[.int .i64 0, .int .i64 0] 34)) (w.heap.size + 1 + 1 + 1) 34 #[.int .i64 0, .int .i64 0] := (by repeat (first | (refine Blk.newAt _ _ _ ?_; first | rfl | (simp; done)) | refine Blk.alloc ?_ _))
    have bHB : Below w.heap.size w ((((w.alloc (.cells #[hx, hy, hv, gx, gy, gv, lx, ly, lv, px, py, pv, nx, ny, nv, ax, ay, av, cx, cy, cv, dx, dy, dv, .int .i64 cl, .int .i64 bu] 27)).alloc (.cells #[.int .i64 wl, .int .i64 wh, .int .i64 tl, .int .i64 th, .int .i64 el, .int .i64 eh, .int .i64 nl, .int .i64 nh] 36)).alloc (.cells #[.int .i64 sl, .int .i64 sh] 34)).alloc (.cells #[.int .i64 0, .int .i64 0] 34)) := (by repeat' (first | exact Below.refl _ _ | assumption | refine Below.drew ?_ | refine bdn ?_ _ | refine bal ?_ _ | refine Below.setCell ?_ (by first | (simp; done) | omega | (simp; omega)) _))
    generalize ((((w.alloc (.cells #[hx, hy, hv, gx, gy, gv, lx, ly, lv, px, py, pv, nx, ny, nv, ax, ay, av, cx, cy, cv, dx, dy, dv, .int .i64 cl, .int .i64 bu] 27)).alloc (.cells #[.int .i64 wl, .int .i64 wh, .int .i64 tl, .int .i64 th, .int .i64 el, .int .i64 eh, .int .i64 nl, .int .i64 nh] 36)).alloc (.cells #[.int .i64 sl, .int .i64 sh] 34)).alloc (.cells #[.int .i64 0, .int .i64 0] 34)) = W at *
    have zW := bHZ.lt
    have HM := Lib.hid bHM
    have HA := Lib.hid bHA
    have HS := Lib.hid bHS
    have HZ := Lib.hid bHZ
    have HB := Lib.hid bHB
    clear bHM bHA bHS bHZ bHB
    have zHM := HM.out.lt
    have cHM0 := HM.out.cell 0
    have cHM1 := HM.out.cell 1
    have cHM2 := HM.out.cell 2
    have cHM3 := HM.out.cell 3
    have cHM4 := HM.out.cell 4
    have cHM5 := HM.out.cell 5
    have zHA := HA.out.lt
    have cHA0 := HA.out.cell 0
    have cHA1 := HA.out.cell 1
    have cHA2 := HA.out.cell 2
    have cHA3 := HA.out.cell 3
    have cHA4 := HA.out.cell 4
    have cHA5 := HA.out.cell 5
    have cHA6 := HA.out.cell 6
    have cHA7 := HA.out.cell 7
    have zHS := HS.out.lt
    have cHS0 := HS.out.cell 0
    have cHS1 := HS.out.cell 1
    have zHZ := HZ.out.lt
    have cHZ0 := HZ.out.cell 0
    have cHZ1 := HZ.out.cell 1
    have fHZ := fun i => HZ.out.frozen i
    go_wp2_with (first | (refine wpl_row rfl 27 _ rfl _ rfl #[hx, hy, hv, gx, gy, gv, lx, ly, lv, px, py, pv, nx, ny, nv, ax, ay, av, cx, cy, cv, dx, dy, dv, .int .i64 cl, .int .i64 bu] 26 HM.out Try.rowRot rfl ?_; simp only [Act.put]) | (refine wpl_row rfl 36 _ rfl _ rfl #[.int .i64 wl, .int .i64 wh, .int .i64 tl, .int .i64 th, .int .i64 el, .int .i64 eh, .int .i64 nl, .int .i64 nh] 8 HA.out Try.rowAir rfl ?_; simp only [Act.put]) | (go_at_call 23; (with_reducible refine (HC.out _ (HR.out.below HB.out)).mono ?_); rintro e w1 ⟨rfl, hb1⟩; have nHM := Lib.hid (HM.out.below hb1); have nHA := Lib.hid (HA.out.below hb1); have nHS := Lib.hid (HS.out.below hb1); have nHZ := Lib.hid (HZ.out.below hb1); have nHB := Lib.hid (bthen HB.out hb1); have zz1 := hb1.size; clear HM HA HS HZ HB hb1; have HM := nHM; have HA := nHA; have HS := nHS; have HZ := nHZ; have HB := nHB; clear nHM nHA nHS nHZ nHB; (try clear zHM); have zHM := HM.out.lt; (try clear cHM0); have cHM0 := HM.out.cell 0; (try clear cHM1); have cHM1 := HM.out.cell 1; (try clear cHM2); have cHM2 := HM.out.cell 2; (try clear cHM3); have cHM3 := HM.out.cell 3; (try clear cHM4); have cHM4 := HM.out.cell 4; (try clear cHM5); have cHM5 := HM.out.cell 5; (try clear zHA); have zHA := HA.out.lt; (try clear cHA0); have cHA0 := HA.out.cell 0; (try clear cHA1); have cHA1 := HA.out.cell 1; (try clear cHA2); have cHA2 := HA.out.cell 2; (try clear cHA3); have cHA3 := HA.out.cell 3; (try clear cHA4); have cHA4 := HA.out.cell 4; (try clear cHA5); have cHA5 := HA.out.cell 5; (try clear cHA6); have cHA6 := HA.out.cell 6; (try clear cHA7); have cHA7 := HA.out.cell 7; (try clear zHS); have zHS := HS.out.lt; (try clear cHS0); have cHS0 := HS.out.cell 0; (try clear cHS1); have cHS1 := HS.out.cell 1; (try clear zHZ); have zHZ := HZ.out.lt; (try clear cHZ0); have cHZ0 := HZ.out.cell 0; (try clear cHZ1); have cHZ1 := HZ.out.cell 1; (try clear fHZ); have fHZ := fun i => HZ.out.frozen i))
    exact bodyPost_ret (res_ct rfl _ _ #[.int .i64 0, .int .i64 0] 2 rfl ((HZ.out.set_ 0 _).set_ 1 _) Try.rowSpan rfl) rfl ⟨rfl, bset (bset HB.out (by omega) _) (by omega) _⟩
end Go.Proofs.Ytoembbcddhlokaa
