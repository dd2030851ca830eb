/- Contracts: Best, Fast of package rotor. -/
import Derived.Test.YtechkkgmdjgddaaGreatRoW
set_option linter.all false
namespace Go.Proofs.YtechkkgmdjgddaaGreat
open Go Go.RowKit Go.Proofs
set_option maxRecDepth 100000
set_option maxHeartbeats 4000000

/-- The first number from x0 on at which f is greatest, and what f is there; k numbers are looked at. -/
def bst (f : Int → Int) (x0 : Int) : Nat → Int × Int
  | 0 => (0, 0)
  | k + 1 => if k = 0 ∨ (bst f x0 k).2 < f (x0 + k) then (x0 + k, f (x0 + k)) else bst f x0 k
/-- The last number below x0 + k at which f is not negative. -/
def fstS (f : Int → Int) (x0 : Int) : Nat → Int × Int
  | 0 => (0, 3)
  | k + 1 => if 0 ≤ f (x0 + k) then (x0 + k, 0) else fstS f x0 k
theorem bst_succ (f : Int → Int) (x0 : Int) (k : Nat) : bst f x0 (k + 1) = if k = 0 ∨ (bst f x0 k).2 < f (x0 + k) then (x0 + k, f (x0 + k)) else bst f x0 k := rfl
theorem fstS_succ (f : Int → Int) (x0 : Int) (k : Nat) : fstS f x0 (k + 1) = if 0 ≤ f (x0 + k) then (x0 + k, 0) else fstS f x0 k := rfl
theorem bst_in {f : Int → Int} {x0 : Int} : ∀ k : Nat, 0 < k → (bst f x0 k).1 < x0 + k := by
  intro k
  induction k with
  | zero => intro h; omega
  | succ k ih =>
    intro _
    rw [bst_succ]
    split
    · dsimp only; omega
    · rename_i h
      have hk : k ≠ 0 := fun h0 => h (.inl h0)
      have := ih (by omega); omega
theorem bst_max {f : Int → Int} {x0 : Int} : ∀ k : Nat, ∀ j : Nat, j < k → f (x0 + (j : Int)) ≤ (bst f x0 k).2 ∧ (f (x0 + (j : Int)) = (bst f x0 k).2 → (bst f x0 k).1 ≤ x0 + (j : Int)) := by
  intro k
  induction k with
  | zero => intro j hj; omega
  | succ k ih =>
    intro j hj
    rw [bst_succ]
    split
    · rename_i h
      by_cases e : j = k
      · subst e; exact ⟨Int.le_refl _, fun _ => Int.le_refl _⟩
      · have := ih j (by omega)
        rcases h with h | h
        · omega
        · dsimp only; exact ⟨by omega, fun e => by omega⟩
    · rename_i h
      by_cases e : j = k
      · subst e
        have hk : j ≠ 0 := fun h0 => h (.inl h0)
        have hi := bst_in (f := f) (x0 := x0) j (by omega)
        have h2 : ¬ (bst f x0 j).2 < f (x0 + j) := fun h0 => h (.inr h0)
        exact ⟨by omega, fun _ => by omega⟩
      · exact ih j (by omega)
theorem fstS_ok {f : Int → Int} {x0 : Int} : ∀ k : Nat, (fstS f x0 k).2 = 0 → 0 ≤ f (fstS f x0 k).1 ∧ (fstS f x0 k).1 < x0 + k ∧ ∀ j : Nat, j < k → (fstS f x0 k).1 < x0 + j → f (x0 + (j : Int)) < 0 := by
  intro k
  induction k with
  | zero => intro h; cases h
  | succ k ih =>
    intro h
    rw [fstS_succ] at h ⊢
    by_cases h0 : 0 ≤ f (x0 + k)
    · rw [if_pos h0]
      exact ⟨h0, by dsimp only; omega, fun j hj hl => by dsimp only at hl; omega⟩
    · rw [if_neg h0] at h ⊢
      obtain ⟨i1, i2, i3⟩ := ih h
      exact ⟨i1, by omega, fun j hj hl => by
        by_cases e : j = k
        · subst e; omega
        · exact i3 j (by omega) hl⟩

def spN (S : Tabs) : Nat := (nth S.l.X (S.l.X.length - 1) - nth S.l.X 0 + 1).toNat
def besE (S : Tabs) (cl bu : Int) (wl wh tl th el eh nl nh : Int) : Int := ratE S cl bu wl wh tl th el eh nl nh (nth S.l.X 0)
def besP (S : Tabs) (cl bu : Int) (wl wh tl th el eh nl nh : Int) : Int × Int := if besE S cl bu wl wh tl th el eh nl nh = 0 then bst (ratV S wl wh tl th el eh cl) (nth S.l.X 0) (spN S) else (0, 0)
def fasE (S : Tabs) (cl bu : Int) (wl wh tl th el eh nl nh : Int) : Int := chkE (rotB S cl bu) (airB wl wh tl th el eh nl nh) false (!lkE S.n wl wh tl th || (!lkE S.p tl th el eh || !lkE S.l (nth S.l.X 0) (nth S.l.X 0) wl wh))
def faN (S : Tabs) (wl wh tl th : Int) : Nat := (min (nth S.l.X (S.l.X.length - 1)) (bLo S.n wl wh tl th) - nth S.l.X 0 + 1).toNat
def fasP (S : Tabs) (cl bu : Int) (wl wh tl th el eh nl nh : Int) : Int × Int := if fasE S cl bu wl wh tl th el eh nl nh = 0 then fstS (ratV S wl wh tl th el eh cl) (nth S.l.X 0) (faN S wl wh tl th) else (0, fasE S cl bu wl wh tl th el eh nl nh)
theorem fasE_ok {S : Tabs} {cl bu wl wh tl th el eh nl nh : Int} (h : fasE S cl bu wl wh tl th el eh nl nh = 0) : rotB S cl bu = true ∧ Fits S.n wl wh tl th ∧ Fits S.p tl th el eh ∧ Fits S.l (nth S.l.X 0) (nth S.l.X 0) wl wh := by
  obtain ⟨h1, h2, h3, h4⟩ := chkE_zero h
  unfold airB at h2; simp only [Bool.and_eq_true] at h2
  simp only [Bool.or_eq_false_iff, Bool.not_eq_false'] at h4
  exact ⟨h1, Fits.mk' (rotB_n h1) h2.1.1.1 h2.1.1.2 h4.1, Fits.mk' (rotB_p h1) h2.1.1.2 h2.1.2 h4.2.1, Fits.mk' (rotB_l h1) (lkE_span (rotB_l h1) h4.2.2) h2.1.1.1 h4.2.2⟩
theorem fits_speed {S : Tabs} {cl bu wl wh s : Int} (hr : rotB S cl bu = true) (h : Fits S.l (nth S.l.X 0) (nth S.l.X 0) wl wh) (h0 : nth S.l.X 0 ≤ s) (h1 : s ≤ nth S.l.X (S.l.X.length - 1)) : Fits S.l s s wl wh := by
  have hl : lkE S.l s s wl wh = true := by
    unfold lkE liesB
    have := h.ly
    unfold liesB at this
    rw [this]
    simp only [Bool.and_true, Bool.and_eq_true, decide_eq_true_eq]
    exact ⟨h0, h1⟩
  exact Fits.mk' (rotB_l hr) (lkE_span (rotB_l hr) hl) h.vy hl
theorem speed_bd {S : Tabs} {cl bu : Int} (hr : rotB S cl bu = true) : -1000000 ≤ nth S.l.X 0 ∧ nth S.l.X 0 ≤ nth S.l.X (S.l.X.length - 1) ∧ nth S.l.X (S.l.X.length - 1) ≤ 1000000 ∧ 0 < S.l.X.length := by
  have hX := tblB_X (right_t (rotB_l hr))
  have lX := axisB_len hX
  have r0 := axisB_range hX (k := 0) (by omega)
  have r1 := axisB_range hX (k := S.l.X.length - 1) (by omega)
  have r2 := axisB_le hX (i := 0) (j := S.l.X.length - 1) (by omega) (by omega)
  omega

theorem Best_c (hx hy hv gx gy gv lx ly lv px py pv nx ny nv ax ay av cx cy cv dx dy dv : Value) (cl bu : Int) (wl wh tl th el eh nl nh : Int) (S : Tabs) (w : World) (hR : RotAt w hx hy hv gx gy gv lx ly lv px py pv nx ny nv ax ay av cx cy cv dx dy dv cl bu S) :
   Calls Tryz.prog 8 #[.agg #[hx, hy, hv, gx, gy, gv, lx, ly, lv, px, py, pv, nx, ny, nv, ax, ay, av, cx, cy, cv, dx, dy, dv, .int .i64 cl, .int .i64 bu], .agg #[.int .i64 wl, .int .i64 wh, .int .i64 tl, .int .i64 th, .int .i64 el, .int .i64 eh, .int .i64 nl, .int .i64 nh]] w fun e w' => e = .returned (.tuple #[.int .i64 (besP S cl bu wl wh tl th el eh nl nh).1, .int .i64 (besP S cl bu wl wh tl th el eh nl nh).2, .int .i64 (besE S cl bu wl wh tl th el eh nl nh)]) ∧ Below w.heap.size w w' := by
  have HR := Lib.hid hR
  have hc := fun w1 hR => checkSpeeds_c hx hy hv gx gy gv lx ly lv px py pv nx ny nv ax ay av cx cy cv dx dy dv cl bu wl wh tl th el eh nl nh S 21 #[] [] 2 (look2 ⟨S.p, tl, th, el, eh⟩ ⟨S.l, nth S.l.X 0, nth S.l.X 0, wl, wh⟩) w1 hR (enters_of Tryz.func21 (by kernel_rfl) rfl) (fun _ W _ => best1_c W)
    (fun W v hR hr ho => looks_own2 (a := ⟨S.p, tl, th, el, eh⟩) (b := ⟨S.l, nth S.l.X 0, nth S.l.X 0, wl, wh⟩) ho hR.p (lkE_pos (rotB_p hr)).1 (lkE_pos (rotB_p hr)).2 hR.l (lkE_pos (rotB_l hr)).1 (lkE_pos (rotB_l hr)).2)
  rw [show chkE (rotB S cl bu) (airB wl wh tl th el eh nl nh) false (offL 2 (look2 ⟨S.p, tl, th, el, eh⟩ ⟨S.l, nth S.l.X 0, nth S.l.X 0, wl, wh⟩)) = besE S cl bu wl wh tl th el eh nl nh by rw [offL2]; rfl] at hc
  unfold besP
  by_cases hE : besE S cl bu wl wh tl th el eh nl nh = 0
  case neg =>
    have hne : (besE S cl bu wl wh tl th el eh nl nh != 0) = true := by simpa using hE
    rw [if_neg hE]
    have HC := Lib.hid hc
    generalize besE S cl bu wl wh tl th el eh nl nh = E at *
    clear hE hc hR
    dsimp only
    go_enter Tryz.func8, Tryz.ntmps8
    go_wp2_with (first | (refine wpl_row rfl 27 _ rfl _ rfl #[hx, hy, hv, gx, gy, gv, lx, ly, lv, px, py, pv, nx, ny, nv, ax, ay, av, cx, cy, cv, dx, dy, dv, .int .i64 cl, .int .i64 bu] 26 ?_ Tryz.rowRot rfl ?_; (focus exact (by repeat (first | (refine Blk.newAt _ _ _ ?_; first | rfl | (simp; done)) | refine Blk.alloc ?_ _))); simp only [Act.put]) | (refine wpl_row rfl 31 _ rfl _ rfl #[.int .i64 wl, .int .i64 wh, .int .i64 tl, .int .i64 th, .int .i64 el, .int .i64 eh, .int .i64 nl, .int .i64 nh] 8 ?_ Tryz.rowAir rfl ?_; (focus exact (by repeat (first | (refine Blk.newAt _ _ _ ?_; first | rfl | (simp; done)) | refine Blk.alloc ?_ _))); simp only [Act.put]) | (refine wpl_store_new rfl 51 _ _ rfl #[hx, hy, hv, gx, gy, gv, lx, ly, lv, px, py, pv, nx, ny, nv, ax, ay, av, cx, cy, cv, dx, dy, dv, .int .i64 cl, .int .i64 bu, .int .i64 wl, .int .i64 wh, .int .i64 tl, .int .i64 th, .int .i64 el, .int .i64 eh, .int .i64 nl, .int .i64 nh] _ _ rfl ?_ rfl Tryz.sizeMach rfl (RotAt.one HR.out wl wh tl th el eh nl nh) ?_; (focus (simp; done)); simp only [Act.put]) | (refine wpl_row rfl 51 _ rfl _ rfl #[hx, hy, hv, gx, gy, gv, lx, ly, lv, px, py, pv, nx, ny, nv, ax, ay, av, cx, cy, cv, dx, dy, dv, .int .i64 cl, .int .i64 bu, .int .i64 wl, .int .i64 wh, .int .i64 tl, .int .i64 th, .int .i64 el, .int .i64 eh, .int .i64 nl, .int .i64 nh] 34 ?_ Tryz.rowMach rfl ?_; (focus exact (by repeat (first | (refine Blk.newAt _ _ _ ?_; first | rfl | (simp; done)) | refine Blk.alloc ?_ _))); simp only [Act.put]))
    have bHM : Blk (((w.alloc (.cells #[hx, hy, hv, gx, gy, gv, lx, ly, lv, px, py, pv, nx, ny, nv, ax, ay, av, cx, cy, cv, dx, dy, dv, .int .i64 cl, .int .i64 bu] 27)).alloc (.cells #[.int .i64 wl, .int .i64 wh, .int .i64 tl, .int .i64 th, .int .i64 el, .int .i64 eh, .int .i64 nl, .int .i64 nh] 31)).alloc (.cells #[hx, hy, hv, gx, gy, gv, lx, ly, lv, px, py, pv, nx, ny, nv, ax, ay, av, cx, cy, cv, dx, dy, dv, .int .i64 cl, .int .i64 bu, .int .i64 wl, .int .i64 wh, .int .i64 tl, .int .i64 th, .int .i64 el, .int .i64 eh, .int .i64 nl, .int .i64 nh] 51)) (w.heap.size) 27 #[hx, hy, hv, gx, gy, gv, lx, ly, lv, px, py, pv, nx, ny, nv, ax, ay, av, cx, cy, cv, dx, dy, dv, .int .i64 cl, .int .i64 bu] := (by repeat (first | (refine Blk.newAt _ _ _ ?_; first | rfl | (simp; done)) | refine Blk.alloc ?_ _))
    have bHA : Blk (((w.alloc (.cells #[hx, hy, hv, gx, gy, gv, lx, ly, lv, px, py, pv, nx, ny, nv, ax, ay, av, cx, cy, cv, dx, dy, dv, .int .i64 cl, .int .i64 bu] 27)).alloc (.cells #[.int .i64 wl, .int .i64 wh, .int .i64 tl, .int .i64 th, .int .i64 el, .int .i64 eh, .int .i64 nl, .int .i64 nh] 31)).alloc (.cells #[hx, hy, hv, gx, gy, gv, lx, ly, lv, px, py, pv, nx, ny, nv, ax, ay, av, cx, cy, cv, dx, dy, dv, .int .i64 cl, .int .i64 bu, .int .i64 wl, .int .i64 wh, .int .i64 tl, .int .i64 th, .int .i64 el, .int .i64 eh, .int .i64 nl, .int .i64 nh] 51)) (w.heap.size + 1) 31 #[.int .i64 wl, .int .i64 wh, .int .i64 tl, .int .i64 th, .int .i64 el, .int .i64 eh, .int .i64 nl, .int .i64 nh] := (by repeat (first | (refine Blk.newAt _ _ _ ?_; first | rfl | (simp; done)) | refine Blk.alloc ?_ _))
    have bHQ : Blk (((w.alloc (.cells #[hx, hy, hv, gx, gy, gv, lx, ly, lv, px, py, pv, nx, ny, nv, ax, ay, av, cx, cy, cv, dx, dy, dv, .int .i64 cl, .int .i64 bu] 27)).alloc (.cells #[.int .i64 wl, .int .i64 wh, .int .i64 tl, .int .i64 th, .int .i64 el, .int .i64 eh, .int .i64 nl, .int .i64 nh] 31)).alloc (.cells #[hx, hy, hv, gx, gy, gv, lx, ly, lv, px, py, pv, nx, ny, nv, ax, ay, av, cx, cy, cv, dx, dy, dv, .int .i64 cl, .int .i64 bu, .int .i64 wl, .int .i64 wh, .int .i64 tl, .int .i64 th, .int .i64 el, .int .i64 eh, .int .i64 nl, .int .i64 nh] 51)) (w.heap.size + 1 + 1) 51 #[hx, hy, hv, gx, gy, gv, lx, ly, lv, px, py, pv, nx, ny, nv, ax, ay, av, cx, cy, cv, dx, dy, dv, .int .i64 cl, .int .i64 bu, .int .i64 wl, .int .i64 wh, .int .i64 tl, .int .i64 th, .int .i64 el, .int .i64 eh, .int .i64 nl, .int .i64 nh] := (by repeat (first | (refine Blk.newAt _ _ _ ?_; first | rfl | (simp; done)) | refine Blk.alloc ?_ _))
    have bHB : Below w.heap.size w (((w.alloc (.cells #[hx, hy, hv, gx, gy, gv, lx, ly, lv, px, py, pv, nx, ny, nv, ax, ay, av, cx, cy, cv, dx, dy, dv, .int .i64 cl, .int .i64 bu] 27)).alloc (.cells #[.int .i64 wl, .int .i64 wh, .int .i64 tl, .int .i64 th, .int .i64 el, .int .i64 eh, .int .i64 nl, .int .i64 nh] 31)).alloc (.cells #[hx, hy, hv, gx, gy, gv, lx, ly, lv, px, py, pv, nx, ny, nv, ax, ay, av, cx, cy, cv, dx, dy, dv, .int .i64 cl, .int .i64 bu, .int .i64 wl, .int .i64 wh, .int .i64 tl, .int .i64 th, .int .i64 el, .int .i64 eh, .int .i64 nl, .int .i64 nh] 51)) := (by repeat' (first | exact Below.refl _ _ | assumption | refine Below.drew ?_ | refine bdn ?_ _ | refine bal ?_ _ | refine Below.setCell ?_ (by first | (simp; done) | omega | (simp; omega)) _))
    generalize (((w.alloc (.cells #[hx, hy, hv, gx, gy, gv, lx, ly, lv, px, py, pv, nx, ny, nv, ax, ay, av, cx, cy, cv, dx, dy, dv, .int .i64 cl, .int .i64 bu] 27)).alloc (.cells #[.int .i64 wl, .int .i64 wh, .int .i64 tl, .int .i64 th, .int .i64 el, .int .i64 eh, .int .i64 nl, .int .i64 nh] 31)).alloc (.cells #[hx, hy, hv, gx, gy, gv, lx, ly, lv, px, py, pv, nx, ny, nv, ax, ay, av, cx, cy, cv, dx, dy, dv, .int .i64 cl, .int .i64 bu, .int .i64 wl, .int .i64 wh, .int .i64 tl, .int .i64 th, .int .i64 el, .int .i64 eh, .int .i64 nl, .int .i64 nh] 51)) = W at *
    have zW := bHQ.lt
    have HM := Lib.hid bHM
    have HA := Lib.hid bHA
    have HQ := Lib.hid bHQ
    have HB := Lib.hid bHB
    clear bHM bHA bHQ bHB
    go_wp2_with (first | (refine wpl_row rfl 51 _ rfl _ rfl _ 34 HQ.out Tryz.rowMach rfl ?_; simp only [Act.put]) | (go_at_call 20; (with_reducible refine (HC.out _ (HR.out.below HB.out)).mono ?_); rintro e w1 ⟨rfl, hb1⟩; have nHQ := Lib.hid (HQ.out.below hb1); have nHB := Lib.hid (bthen HB.out hb1); have zz1 := hb1.size; clear HQ HB hb1; have HQ := nHQ; have HB := nHB; clear nHQ nHB))
    go_ret3
    exact ⟨rfl, HB.out⟩
  rw [if_pos hE]
  obtain ⟨hr, hP, hL⟩ := ratE_ok hE
  have sb := speed_bd hr
  have HRT := Lib.hid (fun w1 s (h0 : nth S.l.X 0 ≤ s) (h1 : s ≤ nth S.l.X (S.l.X.length - 1)) hR => rate_d hx hy hv gx gy gv lx ly lv px py pv nx ny nv ax ay av cx cy cv dx dy dv cl bu wl wh tl th el eh nl nh s S w1 hR hr hP (fits_speed hr hL h0 h1))
  have HSP := Lib.hid (fun w1 (h : Ints w1 lx S.l.X) => speeds_c hx hy hv gx gy gv lx ly lv px py pv nx ny nv ax ay av cx cy cv dx dy dv cl bu wl wh tl th el eh nl nh S.l.X w1 h sb.2.2.2)
  rw [hE] at hc ⊢
  have HC := Lib.hid hc
  have KN : spN S = (nth S.l.X (S.l.X.length - 1) - nth S.l.X 0 + 1).toNat := rfl
  clear hE hc hP hL hr hR
  generalize ratV S wl wh tl th el eh cl = f at *
  generalize spN S = K at *
  generalize nth S.l.X (S.l.X.length - 1) = x1 at *
  generalize nth S.l.X 0 = x0 at *
  obtain ⟨s0, s1, s2, -⟩ := sb
  have HK := Lib.hid KN
  clear KN
  go_enter Tryz.func8, Tryz.ntmps8
  go_wp2_with (first | (refine wpl_row rfl 27 _ rfl _ rfl #[hx, hy, hv, gx, gy, gv, lx, ly, lv, px, py, pv, nx, ny, nv, ax, ay, av, cx, cy, cv, dx, dy, dv, .int .i64 cl, .int .i64 bu] 26 ?_ Tryz.rowRot rfl ?_; (focus exact (by repeat (first | (refine Blk.newAt _ _ _ ?_; first | rfl | (simp; done)) | refine Blk.alloc ?_ _))); simp only [Act.put]) | (refine wpl_row rfl 31 _ rfl _ rfl #[.int .i64 wl, .int .i64 wh, .int .i64 tl, .int .i64 th, .int .i64 el, .int .i64 eh, .int .i64 nl, .int .i64 nh] 8 ?_ Tryz.rowAir rfl ?_; (focus exact (by repeat (first | (refine Blk.newAt _ _ _ ?_; first | rfl | (simp; done)) | refine Blk.alloc ?_ _))); simp only [Act.put]) | (refine wpl_store_new rfl 51 _ _ rfl #[hx, hy, hv, gx, gy, gv, lx, ly, lv, px, py, pv, nx, ny, nv, ax, ay, av, cx, cy, cv, dx, dy, dv, .int .i64 cl, .int .i64 bu, .int .i64 wl, .int .i64 wh, .int .i64 tl, .int .i64 th, .int .i64 el, .int .i64 eh, .int .i64 nl, .int .i64 nh] _ _ rfl ?_ rfl Tryz.sizeMach rfl (RotAt.one HR.out wl wh tl th el eh nl nh) ?_; (focus (simp; done)); simp only [Act.put]) | (refine wpl_row rfl 51 _ rfl _ rfl #[hx, hy, hv, gx, gy, gv, lx, ly, lv, px, py, pv, nx, ny, nv, ax, ay, av, cx, cy, cv, dx, dy, dv, .int .i64 cl, .int .i64 bu, .int .i64 wl, .int .i64 wh, .int .i64 tl, .int .i64 th, .int .i64 el, .int .i64 eh, .int .i64 nl, .int .i64 nh] 34 ?_ Tryz.rowMach rfl ?_; (focus exact (by repeat (first | (refine Blk.newAt _ _ _ ?_; first | rfl | (simp; done)) | refine Blk.alloc ?_ _))); simp only [Act.put]))
  have bHM : Blk (((w.alloc (.cells #[hx, hy, hv, gx, gy, gv, lx, ly, lv, px, py, pv, nx, ny, nv, ax, ay, av, cx, cy, cv, dx, dy, dv, .int .i64 cl, .int .i64 bu] 27)).alloc (.cells #[.int .i64 wl, .int .i64 wh, .int .i64 tl, .int .i64 th, .int .i64 el, .int .i64 eh, .int .i64 nl, .int .i64 nh] 31)).alloc (.cells #[hx, hy, hv, gx, gy, gv, lx, ly, lv, px, py, pv, nx, ny, nv, ax, ay, av, cx, cy, cv, dx, dy, dv, .int .i64 cl, .int .i64 bu, .int .i64 wl, .int .i64 wh, .int .i64 tl, .int .i64 th, .int .i64 el, .int .i64 eh, .int .i64 nl, .int .i64 nh] 51)) (w.heap.size) 27 #[hx, hy, hv, gx, gy, gv, lx, ly, lv, px, py, pv, nx, ny, nv, ax, ay, av, cx, cy, cv, dx, dy, dv, .int .i64 cl, .int .i64 bu] := (by repeat (first | (refine Blk.newAt _ _ _ ?_; first | rfl | (simp; done)) | refine Blk.alloc ?_ _))
  have bHA : Blk (((w.alloc (.cells #[hx, hy, hv, gx, gy, gv, lx, ly, lv, px, py, pv, nx, ny, nv, ax, ay, av, cx, cy, cv, dx, dy, dv, .int .i64 cl, .int .i64 bu] 27)).alloc (.cells #[.int .i64 wl, .int .i64 wh, .int .i64 tl, .int .i64 th, .int .i64 el, .int .i64 eh, .int .i64 nl, .int .i64 nh] 31)).alloc (.cells #[hx, hy, hv, gx, gy, gv, lx, ly, lv, px, py, pv, nx, ny, nv, ax, ay, av, cx, cy, cv, dx, dy, dv, .int .i64 cl, .int .i64 bu, .int .i64 wl, .int .i64 wh, .int .i64 tl, .int .i64 th, .int .i64 el, .int .i64 eh, .int .i64 nl, .int .i64 nh] 51)) (w.heap.size + 1) 31 #[.int .i64 wl, .int .i64 wh, .int .i64 tl, .int .i64 th, .int .i64 el, .int .i64 eh, .int .i64 nl, .int .i64 nh] := (by repeat (first | (refine Blk.newAt _ _ _ ?_; first | rfl | (simp; done)) | refine Blk.alloc ?_ _))
  have bHQ : Blk (((w.alloc (.cells #[hx, hy, hv, gx, gy, gv, lx, ly, lv, px, py, pv, nx, ny, nv, ax, ay, av, cx, cy, cv, dx, dy, dv, .int .i64 cl, .int .i64 bu] 27)).alloc (.cells #[.int .i64 wl, .int .i64 wh, .int .i64 tl, .int .i64 th, .int .i64 el, .int .i64 eh, .int .i64 nl, .int .i64 nh] 31)).alloc (.cells #[hx, hy, hv, gx, gy, gv, lx, ly, lv, px, py, pv, nx, ny, nv, ax, ay, av, cx, cy, cv, dx, dy, dv, .int .i64 cl, .int .i64 bu, .int .i64 wl, .int .i64 wh, .int .i64 tl, .int .i64 th, .int .i64 el, .int .i64 eh, .int .i64 nl, .int .i64 nh] 51)) (w.heap.size + 1 + 1) 51 #[hx, hy, hv, gx, gy, gv, lx, ly, lv, px, py, pv, nx, ny, nv, ax, ay, av, cx, cy, cv, dx, dy, dv, .int .i64 cl, .int .i64 bu, .int .i64 wl, .int .i64 wh, .int .i64 tl, .int .i64 th, .int .i64 el, .int .i64 eh, .int .i64 nl, .int .i64 nh] := (by repeat (first | (refine Blk.newAt _ _ _ ?_; first | rfl | (simp; done)) | refine Blk.alloc ?_ _))
  have bHB : Below w.heap.size w (((w.alloc (.cells #[hx, hy, hv, gx, gy, gv, lx, ly, lv, px, py, pv, nx, ny, nv, ax, ay, av, cx, cy, cv, dx, dy, dv, .int .i64 cl, .int .i64 bu] 27)).alloc (.cells #[.int .i64 wl, .int .i64 wh, .int .i64 tl, .int .i64 th, .int .i64 el, .int .i64 eh, .int .i64 nl, .int .i64 nh] 31)).alloc (.cells #[hx, hy, hv, gx, gy, gv, lx, ly, lv, px, py, pv, nx, ny, nv, ax, ay, av, cx, cy, cv, dx, dy, dv, .int .i64 cl, .int .i64 bu, .int .i64 wl, .int .i64 wh, .int .i64 tl, .int .i64 th, .int .i64 el, .int .i64 eh, .int .i64 nl, .int .i64 nh] 51)) := (by repeat' (first | exact Below.refl _ _ | assumption | refine Below.drew ?_ | refine bdn ?_ _ | refine bal ?_ _ | refine Below.setCell ?_ (by first | (simp; done) | omega | (simp; omega)) _))
  generalize (((w.alloc (.cells #[hx, hy, hv, gx, gy, gv, lx, ly, lv, px, py, pv, nx, ny, nv, ax, ay, av, cx, cy, cv, dx, dy, dv, .int .i64 cl, .int .i64 bu] 27)).alloc (.cells #[.int .i64 wl, .int .i64 wh, .int .i64 tl, .int .i64 th, .int .i64 el, .int .i64 eh, .int .i64 nl, .int .i64 nh] 31)).alloc (.cells #[hx, hy, hv, gx, gy, gv, lx, ly, lv, px, py, pv, nx, ny, nv, ax, ay, av, cx, cy, cv, dx, dy, dv, .int .i64 cl, .int .i64 bu, .int .i64 wl, .int .i64 wh, .int .i64 tl, .int .i64 th, .int .i64 el, .int .i64 eh, .int .i64 nl, .int .i64 nh] 51)) = W at *
  have zW := bHQ.lt
  have HM := Lib.hid bHM
  have HA := Lib.hid bHA
  have HQ := Lib.hid bHQ
  have HB := Lib.hid bHB
  clear bHM bHA bHQ bHB
  go_wp2_with (first | (refine wpl_row rfl 51 _ rfl _ rfl _ 34 HQ.out Tryz.rowMach rfl ?_; simp only [Act.put]) | (go_at_call 20; (with_reducible refine (HC.out _ (HR.out.below HB.out)).mono ?_); rintro e w1 ⟨rfl, hb1⟩; have nHQ := Lib.hid (HQ.out.below hb1); have nHB := Lib.hid (bthen HB.out hb1); have zz1 := hb1.size; clear HQ HB hb1; have HQ := nHQ; have HB := nHB; clear nHQ nHB) | (go_at_call 22; (with_reducible refine (HSP.out _ (HR.out.l.x.below HB.out)).mono ?_); rintro e w1 ⟨rfl, hb1⟩; have nHQ := Lib.hid (HQ.out.below hb1); have nHB := Lib.hid (bthen HB.out hb1); have zz1 := hb1.size; clear HQ HB hb1; have HQ := nHQ; have HB := nHB; clear nHQ nHB))
  go_loopw [4, 5, 11] (fun a b s wr => ∃ (k : Nat) (p q t : Int), k ≤ K ∧ a = .int .i64 p ∧ b = .int .i64 q ∧ s = .int .i64 t ∧ x0 ≤ t ∧ t ≤ x1 + 1 ∧ RowKit.Hid (t = x0 + (k : Int)) ∧ RowKit.Hid ((p, q) = bst f x0 k) ∧ RowKit.Hid (Below w.heap.size w wr) ∧ RowKit.Hid (Blk wr (w.heap.size + 1 + 1) 51 #[hx, hy, hv, gx, gy, gv, lx, ly, lv, px, py, pv, nx, ny, nv, ax, ay, av, cx, cy, cv, dx, dy, dv, .int .i64 cl, .int .i64 bu, .int .i64 wl, .int .i64 wh, .int .i64 tl, .int .i64 th, .int .i64 el, .int .i64 eh, .int .i64 nl, .int .i64 nh])) (fun _ _ s _ => (x1 + 1 - intOf s).toNat)
  case atStart => exact ⟨0, 0, 0, x0, by omega, rfl, rfl, rfl, by omega, by omega, by show x0 = x0 + ((0 : Nat) : Int); omega, rfl, HB.out, HQ.out⟩
  case round =>
    clear HB HQ
    obtain ⟨k, p, q, t, hk, rfl, rfl, rfl, ht0, ht1, HT, HP, HB, HQ⟩ := hrel
    by_cases hlt : t ≤ x1
    · have zz := HB.out.size
      have hK : k < K := by have := HK.out; have := HT.out; omega
      have b0 : -1000000 ≤ t := by omega
      by_cases h0 : k = 0
      · subst h0
        obtain rfl : t = x0 := by have := HT.out; omega
        go_wp2_with (first | (refine wpl_row rfl 51 _ rfl _ rfl _ 34 HQ.out Tryz.rowMach rfl ?_; simp only [Act.put]) | (go_at_call 23; (with_reducible refine (HRT.out _ _ ht0 hlt (HR.out.below HB.out)).mono ?_); rintro e w1 ⟨rfl, hb1⟩; have nHQ := Lib.hid (HQ.out.below hb1); have nHB := Lib.hid (bthen HB.out hb1); have zz1 := hb1.size; clear HQ HB hb1; have HQ := nHQ; have HB := nHB; clear nHQ nHB))
        exact ⟨⟨1, t, f t, t + 1, by omega, rfl, rfl, rfl, by omega, by omega, (show t + 1 = t + ((1 : Nat) : Int) by omega), (show (t, f t) = bst f t 1 by simp [bst]), HB.out, HQ.out⟩, by simp [intOf]; omega⟩
      · have htx : ¬ t = x0 := by have := HT.out; omega
        have hne : (t == x0) = false := by simpa using htx
        by_cases h2 : q < f t
        · have hbs := Lib.hid (show (t, f t) = bst f x0 (k + 1) by rw [bst_succ, ← HT.out, ← HP.out, if_pos (.inr h2)])
          go_wp2_with (first | (refine wpl_row rfl 51 _ rfl _ rfl _ 34 HQ.out Tryz.rowMach rfl ?_; simp only [Act.put]) | (go_at_call 23; (with_reducible refine (HRT.out _ _ ht0 hlt (HR.out.below HB.out)).mono ?_); rintro e w1 ⟨rfl, hb1⟩; have nHQ := Lib.hid (HQ.out.below hb1); have nHB := Lib.hid (bthen HB.out hb1); have zz1 := hb1.size; clear HQ HB hb1; have HQ := nHQ; have HB := nHB; clear nHQ nHB))
          exact ⟨⟨k + 1, t, f t, t + 1, by omega, rfl, rfl, rfl, by omega, by omega, (show t + 1 = x0 + ((k + 1 : Nat) : Int) by have := HT.out; omega), hbs.out, HB.out, HQ.out⟩, by simp [intOf]; omega⟩
        · have hbs := Lib.hid (show (p, q) = bst f x0 (k + 1) by rw [bst_succ, ← HT.out, ← HP.out, if_neg (by simp only [not_or]; exact ⟨h0, h2⟩)])
          have h3 : f t ≤ q := by omega
          clear h2
          go_wp2_with (first | (refine wpl_row rfl 51 _ rfl _ rfl _ 34 HQ.out Tryz.rowMach rfl ?_; simp only [Act.put]) | (go_at_call 23; (with_reducible refine (HRT.out _ _ ht0 hlt (HR.out.below HB.out)).mono ?_); rintro e w1 ⟨rfl, hb1⟩; have nHQ := Lib.hid (HQ.out.below hb1); have nHB := Lib.hid (bthen HB.out hb1); have zz1 := hb1.size; clear HQ HB hb1; have HQ := nHQ; have HB := nHB; clear nHQ nHB))
          all_goals first | (exfalso; omega) | exact ⟨⟨k + 1, p, q, t + 1, by omega, rfl, rfl, rfl, by omega, by omega, (show t + 1 = x0 + ((k + 1 : Nat) : Int) by have := HT.out; omega), hbs.out, HB.out, HQ.out⟩, by simp [intOf]; omega⟩
    · obtain rfl : k = K := by have := HK.out; have := HT.out; omega
      have H1 := Lib.hid (show p = (bst f x0 k).1 by rw [← HP.out])
      have H2 := Lib.hid (show q = (bst f x0 k).2 by rw [← HP.out])
      go_wp2_with fail
      go_ret3
      exact ⟨by rw [H1.out, H2.out]; rfl, HB.out⟩
end Go.Proofs.YtechkkgmdjgddaaGreat
