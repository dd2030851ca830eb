/- The law RotorClear. -/
import Derived.Test.YtoembbcddhlokaaLbH
import Derived.Test.YtoembbcddhlokaaLwF
import Derived.Test.YtoembbcddhlokaaLbO
set_option linter.all false
namespace Go.Proofs.Ytoembbcddhlokaa
open Go Go.RowKit Go.Proofs
set_option maxRecDepth 100000
set_option maxHeartbeats 8000000

theorem Add_c (a0 a1 b0 b1 : Int) (w : World) (h1 : vspan a0 a1 = true) (h2 : vspan b0 b1 = true) (h3 : vspan (a0 + b0) (a1 + b1) = true) :
   Calls Try.prog 46 #[.agg #[.int .i64 a0, .int .i64 a1], .agg #[.int .i64 b0, .int .i64 b1]] w fun e w' => e = .returned (.tuple #[.agg #[.int .i64 (a0 + b0), .int .i64 (a1 + b1)], .int .i64 0]) ∧ Below w.heap.size w w' := by
  have es := spanE_f
  have v1 := vspan_iff.1 h1
  have v2 := vspan_iff.1 h2
  have HM := Lib.hid h3
  clear h3
  go_enter Try.func46, Try.ntmps46
  go_wp2_with (first | (go_at_call 100; (with_reducible refine (spanned2_c _ _ a0 a1 b0 b1 _ (by first | (simp; done) | (rw [cell_new_at _ _ _ _ _ (by simp)]; first | rfl | (simp; done))) (by first | (simp; done) | (rw [cell_new_at _ _ _ _ _ (by simp)]; first | rfl | (simp; done))) (by first | (simp; done) | (rw [cell_new_at _ _ _ _ _ (by simp)]; first | rfl | (simp; done))) (by first | (simp; done) | (rw [cell_new_at _ _ _ _ _ (by simp)]; first | rfl | (simp; done)))).mono ?_); rintro e w1 ⟨rfl, hb1⟩; have hB1 := bthen (show Below w.heap.size w _ from (by repeat' (first | exact Below.refl _ _ | assumption | refine Below.drew ?_ | refine bdn ?_ _ | refine bal ?_ _ | refine Below.setCell ?_ (by first | (simp; done) | omega | (simp; omega)) _))) hb1; have hz1 := hb1.size; (try simp at hz1); obtain ⟨hc1, hf1⟩ := bcell hb1; first | (have hE1 := bthen2 hE (by repeat' (first | exact Below.refl _ _ | refine Below.drew ?_ | refine bdn ?_ _ | refine bal ?_ _ | refine Below.setCell ?_ (by first | (simp; done) | omega | (simp; omega)) _)) hb1; clear hE; have hE := hE1; clear hE1; obtain ⟨hd1, hg1⟩ := bcell hE) | (have hE := hb1)) | (go_at_call 102; (with_reducible refine (made_yes _ _ _ HM.out).mono ?_); rintro e w1 ⟨rfl, hb1⟩; have hB1 := bthen (show Below w.heap.size w _ from (by repeat' (first | exact Below.refl _ _ | assumption | refine Below.drew ?_ | refine bdn ?_ _ | refine bal ?_ _ | refine Below.setCell ?_ (by first | (simp; done) | omega | (simp; omega)) _))) hb1; have hz1 := hb1.size; (try simp at hz1); obtain ⟨hc1, hf1⟩ := bcell hb1; first | (have hE1 := bthen2 hE (by repeat' (first | exact Below.refl _ _ | refine Below.drew ?_ | refine bdn ?_ _ | refine bal ?_ _ | refine Below.setCell ?_ (by first | (simp; done) | omega | (simp; omega)) _)) hb1; clear hE; have hE := hE1; clear hE1; obtain ⟨hd1, hg1⟩ := bcell hE) | (have hE := hb1)))
  exact bodyPost_ret (v := .tuple #[.agg #[.int .i64 (a0 + b0), .int .i64 (a1 + b1)], .int .i64 0]) (by first | (simp (maxDischargeDepth := 9) [results, Try.results46, go_sem, hc1, hd1]; done) | (simp (maxDischargeDepth := 9) [results, Try.results46, go_sem, hc1]; done) | (simp [results, Try.results46, go_sem]; done)) rfl (⟨rfl, (by repeat' (first | exact Below.refl _ _ | assumption | refine Below.drew ?_ | refine bdn ?_ _ | refine bal ?_ _ | refine Below.setCell ?_ (by first | (simp; done) | omega | (simp; omega)) _))⟩)

theorem part_cases {S : Tabs} {cl bu wl wh tl th el eh nl nh : Int} {n : Nat} {D : Nat → Nat → Int} (hc : desC S cl bu wl wh tl th el eh nl nh = 0) (hn : n ≤ 50) (h : ∀ k, k < n → dBad S wl wh (D k) = false ∧ dWak S wl wh (D k) = false) :
    ∃ x0 x1 e, desV S cl bu wl wh tl th el eh nl nh n D = (x0, x1, 0, e) ∧ (e = 0 ∧ x0 = dLo D n ∧ x1 = dHi D n ∧ vspan x0 x1 = true ∨ e = 2) := by
  rw [desV_part hc hn h]
  cases hv : vspan (dLo D n) (dHi D n)
  · exact ⟨0, 0, 2, rfl, .inr rfl⟩
  · exact ⟨_, _, 0, rfl, .inl ⟨rfl, rfl, rfl, hv⟩⟩

theorem dropsAt_left {w : World} {A : Option Addr} {n m : Nat} {D : Nat → Nat → Int} (h : DropsAt w A n D) (hm : m ≤ n) : DropsAt w A m D := by
  intro hp
  obtain ⟨b, off, hA, hlt, hc⟩ := h (by omega)
  exact ⟨b, off, hA, hlt, fun k hk => hc k (by omega)⟩
theorem dropsAt_right {w : World} {A : Option Addr} {n m q : Nat} {D : Nat → Nat → Int} (h : DropsAt w A n D) (hn : n = m + q) : DropsAt w (A.map (·.add (m * 5))) q (fun j => D (m + j)) := by
  intro hp
  obtain ⟨b, off, rfl, hlt, hc⟩ := h (by omega)
  refine ⟨b, off + m * 5, by simp [Addr.add], hlt, fun k hk j hj => ?_⟩
  rw [← hc (m + k) (by omega) j hj]
  congr 2; rw [Nat.add_mul]; omega

def clrR (w0 : Nat) (r a l : Value) (n : Nat) (D : Nat → Nat → Int) (V0 V1 V2 V3 : Int) : Nat → Value → World → Prop
  | 0, v, _ => v = r
  | 1, v, _ => v = a
  | 2, v, w => EmptyS 74 v w
  | 3, v, _ => v = l
  | 4, v, w => DropsV n D v w
  | 5, v, _ => v = .tuple #[.agg #[.int .i64 V0, .int .i64 V1], .int .i64 V2, .int .i64 V3]
  | 6, v, _ => v = .tuple #[.agg #[.int .i64 V0, .int .i64 V1], .int .i64 V2, .int .i64 V3]
  | 7, v, _ => v = .agg #[.int .i64 V0, .int .i64 V1]
  | 8, v, _ => v = .int .i64 V2
  | 9, v, _ => v = .int .i64 V3
  | 10, v, w => NewBlk w0 34 #[.int .i64 0, .int .i64 0] v w
  | _, _, _ => True
theorem clrR_below {w0 : Nat} {r a l : Value} {n : Nat} {D : Nat → Nat → Int} {V0 V1 V2 V3 : Int} (k : Nat) (v : Value) (w w' : World) (hb : Below w.heap.size w w') (h : clrR w0 r a l n D V0 V1 V2 V3 k v w) : clrR w0 r a l n D V0 V1 V2 V3 k v w' := by
  unfold clrR at *
  split at h <;> first | exact h | exact EmptyS.below hb h | exact DropsV.below hb h | exact NewBlk.below hb h
def clsR (w0 : Nat) (r a l l2 : Value) (m : Int) (n : Nat) (D : Nat → Nat → Int) (V0 V1 V2 V3 : Int) : Nat → Value → World → Prop
  | 0, v, _ => v = r
  | 1, v, _ => v = a
  | 2, v, w => EmptyS 74 v w
  | 3, v, _ => v = l
  | 4, v, _ => v = .int .i64 m
  | 5, v, _ => v = l2
  | 6, v, w => DropsV n D v w
  | 7, v, _ => v = .tuple #[.agg #[.int .i64 V0, .int .i64 V1], .int .i64 V2, .int .i64 V3]
  | 8, v, _ => v = .tuple #[.agg #[.int .i64 V0, .int .i64 V1], .int .i64 V2, .int .i64 V3]
  | 9, v, _ => v = .agg #[.int .i64 V0, .int .i64 V1]
  | 10, v, _ => v = .int .i64 V2
  | 11, v, _ => v = .int .i64 V3
  | 12, v, w => NewBlk w0 34 #[.int .i64 0, .int .i64 0] v w
  | _, _, _ => True
theorem clsR_below {w0 : Nat} {r a l l2 : Value} {m : Int} {n : Nat} {D : Nat → Nat → Int} {V0 V1 V2 V3 : Int} (k : Nat) (v : Value) (w w' : World) (hb : Below w.heap.size w w') (h : clsR w0 r a l l2 m n D V0 V1 V2 V3 k v w) : clsR w0 r a l l2 m n D V0 V1 V2 V3 k v w' := by
  unfold clsR at *
  split at h <;> first | exact h | exact EmptyS.below hb h | exact DropsV.below hb h | exact NewBlk.below hb h
def cltR (w0 : Nat) (r a l : Value) (m : Int) (n : Nat) (D : Nat → Nat → Int) (V0 V1 V2 V3 : Int) : Nat → Value → World → Prop
  | 0, v, _ => v = r
  | 1, v, _ => v = a
  | 2, v, w => EmptyS 74 v w
  | 3, v, _ => v = l
  | 4, v, _ => v = .int .i64 m
  | 5, v, w => ∃ A2 c2, v = .slice A2 n c2 ∧ DropsAt w A2 n D
  | 6, v, w => DropsV n D v w
  | 7, v, _ => v = .tuple #[.agg #[.int .i64 V0, .int .i64 V1], .int .i64 V2, .int .i64 V3]
  | 8, v, _ => v = .tuple #[.agg #[.int .i64 V0, .int .i64 V1], .int .i64 V2, .int .i64 V3]
  | 9, v, _ => v = .agg #[.int .i64 V0, .int .i64 V1]
  | 10, v, _ => v = .int .i64 V2
  | 11, v, _ => v = .int .i64 V3
  | 12, v, w => NewBlk w0 34 #[.int .i64 0, .int .i64 0] v w
  | _, _, _ => True
theorem cltR_below {w0 : Nat} {r a l : Value} {m : Int} {n : Nat} {D : Nat → Nat → Int} {V0 V1 V2 V3 : Int} (k : Nat) (v : Value) (w w' : World) (hb : Below w.heap.size w w') (h : cltR w0 r a l m n D V0 V1 V2 V3 k v w) : cltR w0 r a l m n D V0 V1 V2 V3 k v w' := by
  unfold cltR at *
  split at h <;> first | exact h | exact EmptyS.below hb h | exact (by obtain ⟨A2, c2, e, h2⟩ := h; exact ⟨A2, c2, e, h2.below hb⟩) | exact DropsV.below hb h | exact NewBlk.below hb h
theorem RotorClear_c (hx hy hv gx gy gv lx ly lv px py pv nx ny nv ax ay av cx cy cv dx dy dv : Value) (cl bu : Int) (wl wh tl th el eh nl nh : Int) (S : Tabs) (A : Option Addr) (n c : Nat) (D : Nat → Nat → Int) (w : World) (hR : RotAt w hx hy hv gx gy gv lx ly lv px py pv nx ny nv ax ay av cx cy cv dx dy dv cl bu S) (hn : n ≤ c) (hc : c ≤ 9223372036854775807) (h0 : A = none → c = 0) (hD : DropsAt w A n D) :
   Calls Try.prog 12 #[.agg #[hx, hy, hv, gx, gy, gv, lx, ly, lv, px, py, pv, nx, ny, nv, ax, ay, av, cx, cy, cv, dx, dy, dv, .int .i64 cl, .int .i64 bu], .agg #[.int .i64 wl, .int .i64 wh, .int .i64 tl, .int .i64 th, .int .i64 el, .int .i64 eh, .int .i64 nl, .int .i64 nh], .slice A n c] w fun e w' => e = .returned (.bool true) ∧ Below w.heap.size w w' := by
  have HR := Lib.hid hR
  have HD := Lib.hid hD
  clear hR hD
  have HW := Lib.hid (fun w1 hR => far2_c hx hy hv gx gy gv lx ly lv px py pv nx ny nv ax ay av cx cy cv dx dy dv cl bu S w1 hR)
  have HC := Lib.hid (fun w1 hR => rf2_CheckAir_c hx hy hv gx gy gv lx ly lv px py pv nx ny nv ax ay av cx cy cv dx dy dv cl bu wl wh tl th el eh nl nh S w1 hR)
  cases hf : farS S
  case true =>
    rw [hf] at HW
    -- done
    go_enter Try.func12, Try.ntmps12
    go_wp2_with (first | (refine wpl_row rfl 27 _ rfl _ rfl #[hx, hy, hv, gx, gy, gv, lx, ly, lv, px, py, pv, nx, ny, nv, ax, ay, av, cx, cy, cv, dx, dy, dv, .int .i64 cl, .int .i64 bu] 26 ?_ Try.rowRot rfl ?_; (focus exact (by repeat (first | (refine Blk.newAt _ _ _ ?_; first | rfl | (simp; done)) | refine Blk.alloc ?_ _))); simp only [Act.put]))
    have bHM : Blk ((w.alloc (.cells #[hx, hy, hv, gx, gy, gv, lx, ly, lv, px, py, pv, nx, ny, nv, ax, ay, av, cx, cy, cv, dx, dy, dv, .int .i64 cl, .int .i64 bu] 27)).alloc (.cells #[.int .i64 wl, .int .i64 wh, .int .i64 tl, .int .i64 th, .int .i64 el, .int .i64 eh, .int .i64 nl, .int .i64 nh] 36)) (w.heap.size) 27 #[hx, hy, hv, gx, gy, gv, lx, ly, lv, px, py, pv, nx, ny, nv, ax, ay, av, cx, cy, cv, dx, dy, dv, .int .i64 cl, .int .i64 bu] := (by repeat (first | (refine Blk.newAt _ _ _ ?_; first | rfl | (simp; done)) | refine Blk.alloc ?_ _))
    have bHA : Blk ((w.alloc (.cells #[hx, hy, hv, gx, gy, gv, lx, ly, lv, px, py, pv, nx, ny, nv, ax, ay, av, cx, cy, cv, dx, dy, dv, .int .i64 cl, .int .i64 bu] 27)).alloc (.cells #[.int .i64 wl, .int .i64 wh, .int .i64 tl, .int .i64 th, .int .i64 el, .int .i64 eh, .int .i64 nl, .int .i64 nh] 36)) (w.heap.size + 1) 36 #[.int .i64 wl, .int .i64 wh, .int .i64 tl, .int .i64 th, .int .i64 el, .int .i64 eh, .int .i64 nl, .int .i64 nh] := (by repeat (first | (refine Blk.newAt _ _ _ ?_; first | rfl | (simp; done)) | refine Blk.alloc ?_ _))
    have bHB : Below w.heap.size w ((w.alloc (.cells #[hx, hy, hv, gx, gy, gv, lx, ly, lv, px, py, pv, nx, ny, nv, ax, ay, av, cx, cy, cv, dx, dy, dv, .int .i64 cl, .int .i64 bu] 27)).alloc (.cells #[.int .i64 wl, .int .i64 wh, .int .i64 tl, .int .i64 th, .int .i64 el, .int .i64 eh, .int .i64 nl, .int .i64 nh] 36)) := (by repeat' (first | exact Below.refl _ _ | assumption | refine Below.drew ?_ | refine bdn ?_ _ | refine bal ?_ _ | refine Below.setCell ?_ (by first | (simp; done) | omega | (simp; omega)) _))
    generalize ((w.alloc (.cells #[hx, hy, hv, gx, gy, gv, lx, ly, lv, px, py, pv, nx, ny, nv, ax, ay, av, cx, cy, cv, dx, dy, dv, .int .i64 cl, .int .i64 bu] 27)).alloc (.cells #[.int .i64 wl, .int .i64 wh, .int .i64 tl, .int .i64 th, .int .i64 el, .int .i64 eh, .int .i64 nl, .int .i64 nh] 36)) = W at *
    have zW := bHA.lt
    have HM := Lib.hid bHM
    have HA := Lib.hid bHA
    have HB := Lib.hid bHB
    clear bHM bHA bHB
    go_wp2_with (first | (refine wpl_row_g rfl 27 _ rfl _ rfl #[hx, hy, hv, gx, gy, gv, lx, ly, lv, px, py, pv, nx, ny, nv, ax, ay, av, cx, cy, cv, dx, dy, dv, .int .i64 cl, .int .i64 bu] 26 HM.out Try.rowRot rfl ?_; simp only [Act.put]) | (refine wpl_row_g rfl 36 _ rfl _ rfl #[.int .i64 wl, .int .i64 wh, .int .i64 tl, .int .i64 th, .int .i64 el, .int .i64 eh, .int .i64 nl, .int .i64 nh] 8 HA.out Try.rowAir rfl ?_; simp only [Act.put]) | (go_at_call 14; (with_reducible refine (HW.out _ (HR.out.below HB.out)).mono ?_); rintro e w1 ⟨rfl, hb1⟩; have nHM := Lib.hid (HM.out.below hb1); have nHA := Lib.hid (HA.out.below hb1); have nHB := Lib.hid (bthen HB.out hb1); have zz1 := hb1.size; clear HM HA HB hb1; have HM := nHM; have HA := nHA; have HB := nHB; clear nHM nHA nHB) | ((with_reducible refine (HC.out _ (HR.out.below HB.out)).mono ?_); rintro e w1 ⟨rfl, hb1⟩; have nHM := Lib.hid (HM.out.below hb1); have nHA := Lib.hid (HA.out.below hb1); have nHB := Lib.hid (bthen HB.out hb1); have zz1 := hb1.size; clear HM HA HB hb1; have HM := nHM; have HA := nHA; have HB := nHB; clear nHM nHA nHB) | (go_at_call 15; (with_reducible refine (works_c _).mono ?_); rintro e w1 ⟨rfl, hb1⟩; have nHM := Lib.hid (HM.out.below hb1); have nHA := Lib.hid (HA.out.below hb1); have nHB := Lib.hid (bthen HB.out hb1); have zz1 := hb1.size; clear HM HA HB hb1; have HM := nHM; have HA := nHA; have HB := nHB; clear nHM nHA nHB))
    go_ret
    exact ⟨rfl, HB.out⟩
    -- end
  rw [hf] at HW
  by_cases h30 : 30 < n
  case pos =>
    -- done
    go_enter Try.func12, Try.ntmps12
    go_wp2_with (first | (refine wpl_row rfl 27 _ rfl _ rfl #[hx, hy, hv, gx, gy, gv, lx, ly, lv, px, py, pv, nx, ny, nv, ax, ay, av, cx, cy, cv, dx, dy, dv, .int .i64 cl, .int .i64 bu] 26 ?_ Try.rowRot rfl ?_; (focus exact (by repeat (first | (refine Blk.newAt _ _ _ ?_; first | rfl | (simp; done)) | refine Blk.alloc ?_ _))); simp only [Act.put]))
    have bHM : Blk ((w.alloc (.cells #[hx, hy, hv, gx, gy, gv, lx, ly, lv, px, py, pv, nx, ny, nv, ax, ay, av, cx, cy, cv, dx, dy, dv, .int .i64 cl, .int .i64 bu] 27)).alloc (.cells #[.int .i64 wl, .int .i64 wh, .int .i64 tl, .int .i64 th, .int .i64 el, .int .i64 eh, .int .i64 nl, .int .i64 nh] 36)) (w.heap.size) 27 #[hx, hy, hv, gx, gy, gv, lx, ly, lv, px, py, pv, nx, ny, nv, ax, ay, av, cx, cy, cv, dx, dy, dv, .int .i64 cl, .int .i64 bu] := (by repeat (first | (refine Blk.newAt _ _ _ ?_; first | rfl | (simp; done)) | refine Blk.alloc ?_ _))
    have bHA : Blk ((w.alloc (.cells #[hx, hy, hv, gx, gy, gv, lx, ly, lv, px, py, pv, nx, ny, nv, ax, ay, av, cx, cy, cv, dx, dy, dv, .int .i64 cl, .int .i64 bu] 27)).alloc (.cells #[.int .i64 wl, .int .i64 wh, .int .i64 tl, .int .i64 th, .int .i64 el, .int .i64 eh, .int .i64 nl, .int .i64 nh] 36)) (w.heap.size + 1) 36 #[.int .i64 wl, .int .i64 wh, .int .i64 tl, .int .i64 th, .int .i64 el, .int .i64 eh, .int .i64 nl, .int .i64 nh] := (by repeat (first | (refine Blk.newAt _ _ _ ?_; first | rfl | (simp; done)) | refine Blk.alloc ?_ _))
    have bHB : Below w.heap.size w ((w.alloc (.cells #[hx, hy, hv, gx, gy, gv, lx, ly, lv, px, py, pv, nx, ny, nv, ax, ay, av, cx, cy, cv, dx, dy, dv, .int .i64 cl, .int .i64 bu] 27)).alloc (.cells #[.int .i64 wl, .int .i64 wh, .int .i64 tl, .int .i64 th, .int .i64 el, .int .i64 eh, .int .i64 nl, .int .i64 nh] 36)) := (by repeat' (first | exact Below.refl _ _ | assumption | refine Below.drew ?_ | refine bdn ?_ _ | refine bal ?_ _ | refine Below.setCell ?_ (by first | (simp; done) | omega | (simp; omega)) _))
    generalize ((w.alloc (.cells #[hx, hy, hv, gx, gy, gv, lx, ly, lv, px, py, pv, nx, ny, nv, ax, ay, av, cx, cy, cv, dx, dy, dv, .int .i64 cl, .int .i64 bu] 27)).alloc (.cells #[.int .i64 wl, .int .i64 wh, .int .i64 tl, .int .i64 th, .int .i64 el, .int .i64 eh, .int .i64 nl, .int .i64 nh] 36)) = W at *
    have zW := bHA.lt
    have HM := Lib.hid bHM
    have HA := Lib.hid bHA
    have HB := Lib.hid bHB
    clear bHM bHA bHB
    go_wp2_with (first | (refine wpl_row_g rfl 27 _ rfl _ rfl #[hx, hy, hv, gx, gy, gv, lx, ly, lv, px, py, pv, nx, ny, nv, ax, ay, av, cx, cy, cv, dx, dy, dv, .int .i64 cl, .int .i64 bu] 26 HM.out Try.rowRot rfl ?_; simp only [Act.put]) | (refine wpl_row_g rfl 36 _ rfl _ rfl #[.int .i64 wl, .int .i64 wh, .int .i64 tl, .int .i64 th, .int .i64 el, .int .i64 eh, .int .i64 nl, .int .i64 nh] 8 HA.out Try.rowAir rfl ?_; simp only [Act.put]) | (go_at_call 14; (with_reducible refine (HW.out _ (HR.out.below HB.out)).mono ?_); rintro e w1 ⟨rfl, hb1⟩; have nHM := Lib.hid (HM.out.below hb1); have nHA := Lib.hid (HA.out.below hb1); have nHB := Lib.hid (bthen HB.out hb1); have zz1 := hb1.size; clear HM HA HB hb1; have HM := nHM; have HA := nHA; have HB := nHB; clear nHM nHA nHB) | ((with_reducible refine (HC.out _ (HR.out.below HB.out)).mono ?_); rintro e w1 ⟨rfl, hb1⟩; have nHM := Lib.hid (HM.out.below hb1); have nHA := Lib.hid (HA.out.below hb1); have nHB := Lib.hid (bthen HB.out hb1); have zz1 := hb1.size; clear HM HA HB hb1; have HM := nHM; have HA := nHA; have HB := nHB; clear nHM nHA nHB) | (go_at_call 15; (with_reducible refine (works_c _).mono ?_); rintro e w1 ⟨rfl, hb1⟩; have nHM := Lib.hid (HM.out.below hb1); have nHA := Lib.hid (HA.out.below hb1); have nHB := Lib.hid (bthen HB.out hb1); have zz1 := hb1.size; clear HM HA HB hb1; have HM := nHM; have HA := nHA; have HB := nHB; clear nHM nHA nHB))
    go_ret
    exact ⟨rfl, HB.out⟩
    -- end
  have hz30 : decide ((30 : Int) < (n : Int)) = false := decide_eq_false (by omega)
  by_cases hE : airE S cl bu wl wh tl th el eh nl nh = 0
  case neg =>
    have hne : (airE S cl bu wl wh tl th el eh nl nh != 0) = true := by simpa using hE
    generalize airE S cl bu wl wh tl th el eh nl nh = E at *
    clear hE
    -- done
    go_enter Try.func12, Try.ntmps12
    go_wp2_with (first | (refine wpl_row rfl 27 _ rfl _ rfl #[hx, hy, hv, gx, gy, gv, lx, ly, lv, px, py, pv, nx, ny, nv, ax, ay, av, cx, cy, cv, dx, dy, dv, .int .i64 cl, .int .i64 bu] 26 ?_ Try.rowRot rfl ?_; (focus exact (by repeat (first | (refine Blk.newAt _ _ _ ?_; first | rfl | (simp; done)) | refine Blk.alloc ?_ _))); simp only [Act.put]))
    have bHM : Blk ((w.alloc (.cells #[hx, hy, hv, gx, gy, gv, lx, ly, lv, px, py, pv, nx, ny, nv, ax, ay, av, cx, cy, cv, dx, dy, dv, .int .i64 cl, .int .i64 bu] 27)).alloc (.cells #[.int .i64 wl, .int .i64 wh, .int .i64 tl, .int .i64 th, .int .i64 el, .int .i64 eh, .int .i64 nl, .int .i64 nh] 36)) (w.heap.size) 27 #[hx, hy, hv, gx, gy, gv, lx, ly, lv, px, py, pv, nx, ny, nv, ax, ay, av, cx, cy, cv, dx, dy, dv, .int .i64 cl, .int .i64 bu] := (by repeat (first | (refine Blk.newAt _ _ _ ?_; first | rfl | (simp; done)) | refine Blk.alloc ?_ _))
    have bHA : Blk ((w.alloc (.cells #[hx, hy, hv, gx, gy, gv, lx, ly, lv, px, py, pv, nx, ny, nv, ax, ay, av, cx, cy, cv, dx, dy, dv, .int .i64 cl, .int .i64 bu] 27)).alloc (.cells #[.int .i64 wl, .int .i64 wh, .int .i64 tl, .int .i64 th, .int .i64 el, .int .i64 eh, .int .i64 nl, .int .i64 nh] 36)) (w.heap.size + 1) 36 #[.int .i64 wl, .int .i64 wh, .int .i64 tl, .int .i64 th, .int .i64 el, .int .i64 eh, .int .i64 nl, .int .i64 nh] := (by repeat (first | (refine Blk.newAt _ _ _ ?_; first | rfl | (simp; done)) | refine Blk.alloc ?_ _))
    have bHB : Below w.heap.size w ((w.alloc (.cells #[hx, hy, hv, gx, gy, gv, lx, ly, lv, px, py, pv, nx, ny, nv, ax, ay, av, cx, cy, cv, dx, dy, dv, .int .i64 cl, .int .i64 bu] 27)).alloc (.cells #[.int .i64 wl, .int .i64 wh, .int .i64 tl, .int .i64 th, .int .i64 el, .int .i64 eh, .int .i64 nl, .int .i64 nh] 36)) := (by repeat' (first | exact Below.refl _ _ | assumption | refine Below.drew ?_ | refine bdn ?_ _ | refine bal ?_ _ | refine Below.setCell ?_ (by first | (simp; done) | omega | (simp; omega)) _))
    generalize ((w.alloc (.cells #[hx, hy, hv, gx, gy, gv, lx, ly, lv, px, py, pv, nx, ny, nv, ax, ay, av, cx, cy, cv, dx, dy, dv, .int .i64 cl, .int .i64 bu] 27)).alloc (.cells #[.int .i64 wl, .int .i64 wh, .int .i64 tl, .int .i64 th, .int .i64 el, .int .i64 eh, .int .i64 nl, .int .i64 nh] 36)) = W at *
    have zW := bHA.lt
    have HM := Lib.hid bHM
    have HA := Lib.hid bHA
    have HB := Lib.hid bHB
    clear bHM bHA bHB
    go_wp2_with (first | (refine wpl_row_g rfl 27 _ rfl _ rfl #[hx, hy, hv, gx, gy, gv, lx, ly, lv, px, py, pv, nx, ny, nv, ax, ay, av, cx, cy, cv, dx, dy, dv, .int .i64 cl, .int .i64 bu] 26 HM.out Try.rowRot rfl ?_; simp only [Act.put]) | (refine wpl_row_g rfl 36 _ rfl _ rfl #[.int .i64 wl, .int .i64 wh, .int .i64 tl, .int .i64 th, .int .i64 el, .int .i64 eh, .int .i64 nl, .int .i64 nh] 8 HA.out Try.rowAir rfl ?_; simp only [Act.put]) | (go_at_call 14; (with_reducible refine (HW.out _ (HR.out.below HB.out)).mono ?_); rintro e w1 ⟨rfl, hb1⟩; have nHM := Lib.hid (HM.out.below hb1); have nHA := Lib.hid (HA.out.below hb1); have nHB := Lib.hid (bthen HB.out hb1); have zz1 := hb1.size; clear HM HA HB hb1; have HM := nHM; have HA := nHA; have HB := nHB; clear nHM nHA nHB) | ((with_reducible refine (HC.out _ (HR.out.below HB.out)).mono ?_); rintro e w1 ⟨rfl, hb1⟩; have nHM := Lib.hid (HM.out.below hb1); have nHA := Lib.hid (HA.out.below hb1); have nHB := Lib.hid (bthen HB.out hb1); have zz1 := hb1.size; clear HM HA HB hb1; have HM := nHM; have HA := nHA; have HB := nHB; clear nHM nHA nHB) | (go_at_call 15; (with_reducible refine (works_c _).mono ?_); rintro e w1 ⟨rfl, hb1⟩; have nHM := Lib.hid (HM.out.below hb1); have nHA := Lib.hid (HA.out.below hb1); have nHB := Lib.hid (bthen HB.out hb1); have zz1 := hb1.size; clear HM HA HB hb1; have HM := nHM; have HA := nHA; have HB := nHB; clear nHM nHA nHB))
    go_ret
    exact ⟨rfl, HB.out⟩
    -- end
  rw [hE] at HC
  have HN := Lib.hid (farS_near hf)
  have HK := Lib.hid (fun w1 hx hy hv gx gy gv lx ly lv px py pv nx ny nv ax ay av cx cy cv dx dy dv hR A c n D hn hD => Descent_c hx hy hv gx gy gv lx ly lv px py pv nx ny nv ax ay av cx cy cv dx dy dv cl bu wl wh tl th el eh nl nh S A n c D w1 hR hn hD)
  have HE := Lib.hid hE
  clear hE hf
  by_cases hdv : (desV S cl bu wl wh tl th el eh nl nh n D).2.2.2 = 0
  case neg =>
    have HK0 := Lib.hid (fun w1 hx hy hv gx gy gv lx ly lv px py pv nx ny nv ax ay av cx cy cv dx dy dv hR A c hD => HK.out w1 hx hy hv gx gy gv lx ly lv px py pv nx ny nv ax ay av cx cy cv dx dy dv hR A c n D (by omega) hD)
    generalize desV S cl bu wl wh tl th el eh nl nh n D = V at *
    obtain ⟨V0, V1, V2, V3⟩ := V
    dsimp only at HK0 hdv
    have hne : (V3 != 0) = true := by simpa using hdv
    clear hdv
    -- done
    go_enter Try.func12, Try.ntmps12
    go_wp2_with (first | (refine wpl_row rfl 27 _ rfl _ rfl #[hx, hy, hv, gx, gy, gv, lx, ly, lv, px, py, pv, nx, ny, nv, ax, ay, av, cx, cy, cv, dx, dy, dv, .int .i64 cl, .int .i64 bu] 26 ?_ Try.rowRot rfl ?_; (focus exact (by repeat (first | (refine Blk.newAt _ _ _ ?_; first | rfl | (simp; done)) | refine Blk.alloc ?_ _))); simp only [Act.put]))
    have bHM : Blk ((w.alloc (.cells #[hx, hy, hv, gx, gy, gv, lx, ly, lv, px, py, pv, nx, ny, nv, ax, ay, av, cx, cy, cv, dx, dy, dv, .int .i64 cl, .int .i64 bu] 27)).alloc (.cells #[.int .i64 wl, .int .i64 wh, .int .i64 tl, .int .i64 th, .int .i64 el, .int .i64 eh, .int .i64 nl, .int .i64 nh] 36)) (w.heap.size) 27 #[hx, hy, hv, gx, gy, gv, lx, ly, lv, px, py, pv, nx, ny, nv, ax, ay, av, cx, cy, cv, dx, dy, dv, .int .i64 cl, .int .i64 bu] := (by repeat (first | (refine Blk.newAt _ _ _ ?_; first | rfl | (simp; done)) | refine Blk.alloc ?_ _))
    have bHA : Blk ((w.alloc (.cells #[hx, hy, hv, gx, gy, gv, lx, ly, lv, px, py, pv, nx, ny, nv, ax, ay, av, cx, cy, cv, dx, dy, dv, .int .i64 cl, .int .i64 bu] 27)).alloc (.cells #[.int .i64 wl, .int .i64 wh, .int .i64 tl, .int .i64 th, .int .i64 el, .int .i64 eh, .int .i64 nl, .int .i64 nh] 36)) (w.heap.size + 1) 36 #[.int .i64 wl, .int .i64 wh, .int .i64 tl, .int .i64 th, .int .i64 el, .int .i64 eh, .int .i64 nl, .int .i64 nh] := (by repeat (first | (refine Blk.newAt _ _ _ ?_; first | rfl | (simp; done)) | refine Blk.alloc ?_ _))
    have bHB : Below w.heap.size w ((w.alloc (.cells #[hx, hy, hv, gx, gy, gv, lx, ly, lv, px, py, pv, nx, ny, nv, ax, ay, av, cx, cy, cv, dx, dy, dv, .int .i64 cl, .int .i64 bu] 27)).alloc (.cells #[.int .i64 wl, .int .i64 wh, .int .i64 tl, .int .i64 th, .int .i64 el, .int .i64 eh, .int .i64 nl, .int .i64 nh] 36)) := (by repeat' (first | exact Below.refl _ _ | assumption | refine Below.drew ?_ | refine bdn ?_ _ | refine bal ?_ _ | refine Below.setCell ?_ (by first | (simp; done) | omega | (simp; omega)) _))
    generalize ((w.alloc (.cells #[hx, hy, hv, gx, gy, gv, lx, ly, lv, px, py, pv, nx, ny, nv, ax, ay, av, cx, cy, cv, dx, dy, dv, .int .i64 cl, .int .i64 bu] 27)).alloc (.cells #[.int .i64 wl, .int .i64 wh, .int .i64 tl, .int .i64 th, .int .i64 el, .int .i64 eh, .int .i64 nl, .int .i64 nh] 36)) = W at *
    have zW := bHA.lt
    have HM := Lib.hid bHM
    have HA := Lib.hid bHA
    have HB := Lib.hid bHB
    clear bHM bHA bHB
    go_wp2_with (first | (refine wpl_row rfl 27 _ rfl _ rfl #[hx, hy, hv, gx, gy, gv, lx, ly, lv, px, py, pv, nx, ny, nv, ax, ay, av, cx, cy, cv, dx, dy, dv, .int .i64 cl, .int .i64 bu] 26 HM.out Try.rowRot rfl ?_; simp only [Act.put]) | (refine wpl_row_g rfl 27 _ rfl _ rfl #[hx, hy, hv, gx, gy, gv, lx, ly, lv, px, py, pv, nx, ny, nv, ax, ay, av, cx, cy, cv, dx, dy, dv, .int .i64 cl, .int .i64 bu] 26 HM.out Try.rowRot rfl ?_; simp only [Act.put]) | (refine wpl_row_g rfl 36 _ rfl _ rfl #[.int .i64 wl, .int .i64 wh, .int .i64 tl, .int .i64 th, .int .i64 el, .int .i64 eh, .int .i64 nl, .int .i64 nh] 8 HA.out Try.rowAir rfl ?_; simp only [Act.put]) | (go_at_call 14; (with_reducible refine (HW.out _ (HR.out.below HB.out)).mono ?_); rintro e w1 ⟨rfl, hb1⟩; have nHM := Lib.hid (HM.out.below hb1); have nHA := Lib.hid (HA.out.below hb1); have nHB := Lib.hid (bthen HB.out hb1); have zz1 := hb1.size; clear HM HA HB hb1; have HM := nHM; have HA := nHA; have HB := nHB; clear nHM nHA nHB) | ((with_reducible refine (HC.out _ (HR.out.below HB.out)).mono ?_); rintro e w1 ⟨rfl, hb1⟩; have nHM := Lib.hid (HM.out.below hb1); have nHA := Lib.hid (HA.out.below hb1); have nHB := Lib.hid (bthen HB.out hb1); have zz1 := hb1.size; clear HM HA HB hb1; have HM := nHM; have HA := nHA; have HB := nHB; clear nHM nHA nHB) | (go_at_call 17; (with_reducible refine (own_c hx hy hv gx gy gv lx ly lv px py pv nx ny nv ax ay av cx cy cv dx dy dv cl bu S _ (HR.out.below HB.out) HN.out).mono ?_); rintro e w1 ⟨v, rfl, ho, hb1⟩; obtain ⟨hx', hy', hv', gx', gy', gv', lx', ly', lv', px', py', pv', nx', ny', nv', ax', ay', av', cx', cy', cv', dx', dy', dv', rfl, r1⟩ := ho; have HO := Lib.hid r1; clear r1; have nHM := Lib.hid (HM.out.below hb1); have nHA := Lib.hid (HA.out.below hb1); have nHB := Lib.hid (bthen HB.out hb1); have zz1 := hb1.size; clear HM HA HB hb1; have HM := nHM; have HA := nHA; have HB := nHB; clear nHM nHA nHB; (try clear zHA); have zHA := HA.out.lt; (try clear cHA0); have cHA0 := HA.out.cell 0) | (refine wpl_store_new rfl 27 _ _ rfl #[hx', hy', hv', gx', gy', gv', lx', ly', lv', px', py', pv', nx', ny', nv', ax', ay', av', cx', cy', cv', dx', dy', dv', .int .i64 cl, .int .i64 bu] _ _ rfl ?_ rfl Try.sizeRot' rfl (RotAt.one26' HO.out) ?_; (focus (simp; done)); simp only [Act.put]))
    have bHQ := Blk.new w1 27 #[hx', hy', hv', gx', gy', gv', lx', ly', lv', px', py', pv', nx', ny', nv', ax', ay', av', cx', cy', cv', dx', dy', dv', .int .i64 cl, .int .i64 bu]
    have nHA := Lib.hid (HA.out.alloc (.cells #[hx', hy', hv', gx', gy', gv', lx', ly', lv', px', py', pv', nx', ny', nv', ax', ay', av', cx', cy', cv', dx', dy', dv', .int .i64 cl, .int .i64 bu] 27))
    have nHO := Lib.hid (HO.out.alloc (.cells #[hx', hy', hv', gx', gy', gv', lx', ly', lv', px', py', pv', nx', ny', nv', ax', ay', av', cx', cy', cv', dx', dy', dv', .int .i64 cl, .int .i64 bu] 27))
    have nHB := Lib.hid (bal HB.out (.cells #[hx', hy', hv', gx', gy', gv', lx', ly', lv', px', py', pv', nx', ny', nv', ax', ay', av', cx', cy', cv', dx', dy', dv', .int .i64 cl, .int .i64 bu] 27))
    clear HA HO HB
    have HA := nHA
    have HO := nHO
    have HB := nHB
    clear nHA nHO nHB
    generalize w1.alloc (.cells #[hx', hy', hv', gx', gy', gv', lx', ly', lv', px', py', pv', nx', ny', nv', ax', ay', av', cx', cy', cv', dx', dy', dv', .int .i64 cl, .int .i64 bu] 27) = W2 at *
    generalize w1.heap.size = gHQ at *
    have HQ := Lib.hid bHQ
    clear bHQ
    clear HM
    obtain ⟨i0, hi0, hz0, hz1, hz2⟩ := info_parts Try.infoDrop
    refine wp_region_specL 11 [8, 9] (clrR W2.heap.size (.agg #[hx', hy', hv', gx', gy', gv', lx', ly', lv', px', py', pv', nx', ny', nv', ax', ay', av', cx', cy', cv', dx', dy', dv', .int .i64 cl, .int .i64 bu]) (.agg #[.int .i64 wl, .int .i64 wh, .int .i64 tl, .int .i64 th, .int .i64 el, .int .i64 eh, .int .i64 nl, .int .i64 nh]) (.slice A n c) n D V0 V1 V2 V3) (fun i => decide (i = 10)) (by kernel_rfl) (by kernel_rfl) (by decide) clrR_below ?hop1 ?htail1
    case hop1 =>
      simp only [List.take_succ_cons, List.take_zero, allOps]
      refine ⟨?_, ?_, ?_, ?_, ?_, ?_, ?_, ?_, ?_, ?_, ?_, trivial⟩
      all_goals intro u A w1 hA hb hd
      all_goals simp only [putAll, dstOf, List.getElem?_toArray, List.getElem?_cons_succ, List.getElem?_cons_zero, Option.bind_some, Option.bind, Act.put, List.setIfInBounds_toArray, List.set_cons_succ, List.set_cons_zero] at hA; subst hA
      all_goals have HB1 := Lib.hid hb
      · refine OpOk.now rfl ?_
        clear hb hd
        go_wp2_with (refine wpl_row rfl 27 _ rfl _ rfl _ 26 (HQ.out.below HB1.out) Try.rowRot rfl ?_; simp only [Act.put])
        exact ⟨_, rfl, Below.refl _ _, rfl, fun h => absurd h (by decide)⟩
      · refine OpOk.now rfl ?_
        clear hb hd
        go_wp2_with (refine wpl_row rfl 36 _ rfl _ rfl _ 8 (HA.out.below HB1.out) Try.rowAir rfl ?_; simp only [Act.put])
        exact ⟨_, rfl, Below.refl _ _, rfl, fun h => absurd h (by decide)⟩
      · refine OpOk.now rfl ?_
        clear hb hd
        go_wp2
        exact ⟨_, rfl, bal (Below.refl _ _) _, ⟨_, rfl, Blk.new _ _ _⟩, fun h => absurd h (by decide)⟩
      · refine OpOk.now rfl ?_
        clear hb hd
        go_wp2
        exact ⟨_, rfl, Below.refl _ _, rfl, fun h => absurd h (by decide)⟩
      · refine OpOk.now rfl ?_
        have d2 := hd 2 (by omega) (by kernel_rfl)
        have d3 : u 3 = _ := hd 3 (by omega) (by kernel_rfl)
        clear hb hd
        rw [d3]
        clear d3
        obtain ⟨g, dg, d1⟩ := d2
        have hcx := Lib.hid (RecsAt.cells (DropsAt.recs ((HD.out.below HB.out).below HB1.out)))
        rw [dg]
        clear dg
        refine wpl_append_newk rfl (.tmp 48) (.tmp 49) 68 rfl 74 i0 _ 5 40 Try.undDrops hi0 hz0 hz1 hz2 rfl (by omega) g rfl d1 0 (Nat.zero_le _) A n c rfl _ hcx.out (fun _ _ => rfl) (by unfold maxLen; omega) (by omega) (fun v' w' ho hbl => ?_)
        exact ⟨v', rfl, hbl, (by obtain ⟨A', c', e, h1, h2, h3⟩ := RecsAt.of_owns (V := fun i j => .int .i64 (D i j)) (k := 5) (by omega) ho; exact ⟨A', c', e, h1, h2, h3⟩), fun h => absurd h (by decide)⟩
      · refine OpOk.now rfl ?_
        have d0 : u 0 = _ := hd 0 (by omega) (by kernel_rfl)
        have d1 : u 1 = _ := hd 1 (by omega) (by kernel_rfl)
        have d4 := hd 4 (by omega) (by kernel_rfl)
        clear hb hd
        rw [d0, d1]
        clear d0 d1
        obtain ⟨A', c', e5, -, -, r5⟩ := d4
        rw [e5]
        clear e5
        go_wp2_with (go_at_call 39; (with_reducible refine (HK0.out _ _ _ _ _ _ _ _ _ _ _ _ _ _ _ _ _ _ _ _ _ _ _ _ _ (HO.out.below HB1.out) _ _ r5).mono ?_); rintro e w2 ⟨rfl, hb2⟩)
        exact ⟨_, rfl, hb2, rfl, fun h => absurd h (by decide)⟩
      · refine OpOk.now rfl ?_
        have d5 : u 5 = _ := hd 5 (by omega) (by kernel_rfl)
        clear hb hd
        rw [d5]
        clear d5
        go_wp2
        exact ⟨_, rfl, Below.refl _ _, rfl, fun h => absurd h (by decide)⟩
      · refine OpOk.now rfl ?_
        have d6 : u 6 = _ := hd 6 (by omega) (by kernel_rfl)
        clear hb hd
        rw [d6]
        clear d6
        go_wp2
        exact ⟨_, rfl, Below.refl _ _, rfl, fun h => absurd h (by decide)⟩
      · have d6 : u 6 = _ := hd 6 (by omega) (by kernel_rfl)
        clear hb hd
        rw [d6]
        clear d6
        refine OpOk.late rfl ?_
        exact ⟨_, yields_extract rfl _ _ rfl _ rfl _ rfl, rfl⟩
      · have d6 : u 6 = _ := hd 6 (by omega) (by kernel_rfl)
        clear hb hd
        rw [d6]
        clear d6
        refine OpOk.late rfl ?_
        exact ⟨_, yields_extract rfl _ _ rfl _ rfl _ rfl, rfl⟩
      · refine OpOk.now rfl ?_
        have zz := hb.size
        clear hb hd
        go_wp2
        exact ⟨_, rfl, bal (Below.refl _ _) _, ⟨_, rfl, by omega, Blk.new _ _ _⟩, fun _ => ⟨_, rfl, Nat.le_refl _, by simp⟩⟩
    case htail1 =>
      intro u A w1 hA hb hd hf
      simp only [putAll, dstOf, List.getElem?_toArray, List.getElem?_cons_succ, List.getElem?_cons_zero, Option.bind_some, Option.bind, Act.put, List.setIfInBounds_toArray, List.set_cons_succ, List.set_cons_zero] at hA; subst hA
      have e0 : u 0 = _ := hd 0 (by omega)
      have e1 : u 1 = _ := hd 1 (by omega)
      have p2 := hd 2 (by omega)
      have e3 : u 3 = _ := hd 3 (by omega)
      have p4 := hd 4 (by omega)
      have e5 : u 5 = _ := hd 5 (by omega)
      have e6 : u 6 = _ := hd 6 (by omega)
      have e7 : u 7 = _ := hd 7 (by omega)
      have e8 : u 8 = _ := hd 8 (by omega)
      have e9 : u 9 = _ := hd 9 (by omega)
      obtain ⟨g10, e10, z10, b10⟩ := hd 10 (by omega)
      first | rw [e0, e1, e3, e5, e6, e7, e8, e9, e10] | simp only [e0, e1, e3, e5, e6, e7, e8, e9, e10]
      clear e0 e1 e3 e5 e6 e7 e8 e9 e10
      clear hd hf
      have x0 := b10.cell 0
      have x1 := b10.cell 1
      have x2 := fun i => b10.frozen i
      go_wp2_with fail
      dsimp only [NoPanic]
      have HL := Lib.hid (show Blk _ g10 _ #[.int .i64 V0, .int .i64 V1] from (b10.set_ 0 (.int .i64 V0)).set_ 1 (.int .i64 V1))
      have hbS := bset (bset hb z10 (i := 0) (.int .i64 V0)) z10 (i := 1) (.int .i64 V1)
      have nHA := Lib.hid (HA.out.below hbS)
      have nHQ := Lib.hid (HQ.out.below hbS)
      have nHO := Lib.hid (HO.out.below hbS)
      have nHB := Lib.hid (bthen HB.out hbS)
      clear HA HQ HO HB hbS
      have HA := nHA
      have HQ := nHQ
      have HO := nHO
      have HB := nHB
      clear nHA nHQ nHO nHB
      clear hb b10
      generalize (w1.setCell ⟨g10, 0, none⟩ (.int .i64 V0)).setCell ⟨g10, 1, none⟩ (.int .i64 V1) = w2 at *
      clear x0 x1 x2
      go_wp2_with (first | (go_at_call 15; (with_reducible refine (works_c _).mono ?_); rintro e w1 ⟨rfl, hb1⟩; have nHL := Lib.hid (HL.out.below hb1); have nHB := Lib.hid (bthen HB.out hb1); have zz1 := hb1.size; clear HL HB hb1; have HL := nHL; have HB := nHB; clear nHL nHB))
      (refine bodyPost_ret (v := .bool true) (by simp (maxDischargeDepth := 9) [results, Try.results12, go_sem]) rfl ?_)
      exact ⟨rfl, HB.out⟩
    -- end
  have hok := desV_ok hdv
  clear hdv
  obtain ⟨hdc, hn50, hg, hvs, hV⟩ := hok
  have HG := Lib.hid hg
  have HK0 := Lib.hid (fun w1 hx hy hv gx gy gv lx ly lv px py pv nx ny nv ax ay av cx cy cv dx dy dv hR A c hD => by have := HK.out w1 hx hy hv gx gy gv lx ly lv px py pv nx ny nv ax ay av cx cy cv dx dy dv hR A c n D (by omega) hD; rw [hV] at this; exact this)
  dsimp only at HK0
  have HVS := Lib.hid hvs
  have HDC := Lib.hid hdc
  obtain ⟨V0, hV0⟩ : ∃ x, x = dLo D n := ⟨_, rfl⟩
  obtain ⟨V1, hV1⟩ : ∃ x, x = dHi D n := ⟨_, rfl⟩
  rw [← hV0, ← hV1] at HK0 HVS
  have HV0 := Lib.hid hV0
  have HV1 := Lib.hid hV1
  clear hdc hg hvs hV hV0 hV1
  go_enter Try.func12, Try.ntmps12
  go_wp2_with (first | (refine wpl_row rfl 27 _ rfl _ rfl #[hx, hy, hv, gx, gy, gv, lx, ly, lv, px, py, pv, nx, ny, nv, ax, ay, av, cx, cy, cv, dx, dy, dv, .int .i64 cl, .int .i64 bu] 26 ?_ Try.rowRot rfl ?_; (focus exact (by repeat (first | (refine Blk.newAt _ _ _ ?_; first | rfl | (simp; done)) | refine Blk.alloc ?_ _))); simp only [Act.put]))
  have bHM : Blk ((w.alloc (.cells #[hx, hy, hv, gx, gy, gv, lx, ly, lv, px, py, pv, nx, ny, nv, ax, ay, av, cx, cy, cv, dx, dy, dv, .int .i64 cl, .int .i64 bu] 27)).alloc (.cells #[.int .i64 wl, .int .i64 wh, .int .i64 tl, .int .i64 th, .int .i64 el, .int .i64 eh, .int .i64 nl, .int .i64 nh] 36)) (w.heap.size) 27 #[hx, hy, hv, gx, gy, gv, lx, ly, lv, px, py, pv, nx, ny, nv, ax, ay, av, cx, cy, cv, dx, dy, dv, .int .i64 cl, .int .i64 bu] := (by repeat (first | (refine Blk.newAt _ _ _ ?_; first | rfl | (simp; done)) | refine Blk.alloc ?_ _))
  have bHA : Blk ((w.alloc (.cells #[hx, hy, hv, gx, gy, gv, lx, ly, lv, px, py, pv, nx, ny, nv, ax, ay, av, cx, cy, cv, dx, dy, dv, .int .i64 cl, .int .i64 bu] 27)).alloc (.cells #[.int .i64 wl, .int .i64 wh, .int .i64 tl, .int .i64 th, .int .i64 el, .int .i64 eh, .int .i64 nl, .int .i64 nh] 36)) (w.heap.size + 1) 36 #[.int .i64 wl, .int .i64 wh, .int .i64 tl, .int .i64 th, .int .i64 el, .int .i64 eh, .int .i64 nl, .int .i64 nh] := (by repeat (first | (refine Blk.newAt _ _ _ ?_; first | rfl | (simp; done)) | refine Blk.alloc ?_ _))
  have bHB : Below w.heap.size w ((w.alloc (.cells #[hx, hy, hv, gx, gy, gv, lx, ly, lv, px, py, pv, nx, ny, nv, ax, ay, av, cx, cy, cv, dx, dy, dv, .int .i64 cl, .int .i64 bu] 27)).alloc (.cells #[.int .i64 wl, .int .i64 wh, .int .i64 tl, .int .i64 th, .int .i64 el, .int .i64 eh, .int .i64 nl, .int .i64 nh] 36)) := (by repeat' (first | exact Below.refl _ _ | assumption | refine Below.drew ?_ | refine bdn ?_ _ | refine bal ?_ _ | refine Below.setCell ?_ (by first | (simp; done) | omega | (simp; omega)) _))
  generalize ((w.alloc (.cells #[hx, hy, hv, gx, gy, gv, lx, ly, lv, px, py, pv, nx, ny, nv, ax, ay, av, cx, cy, cv, dx, dy, dv, .int .i64 cl, .int .i64 bu] 27)).alloc (.cells #[.int .i64 wl, .int .i64 wh, .int .i64 tl, .int .i64 th, .int .i64 el, .int .i64 eh, .int .i64 nl, .int .i64 nh] 36)) = W at *
  have zW := bHA.lt
  have HM := Lib.hid bHM
  have HA := Lib.hid bHA
  have HB := Lib.hid bHB
  clear bHM bHA bHB
  go_wp2_with (first | (refine wpl_row rfl 27 _ rfl _ rfl #[hx, hy, hv, gx, gy, gv, lx, ly, lv, px, py, pv, nx, ny, nv, ax, ay, av, cx, cy, cv, dx, dy, dv, .int .i64 cl, .int .i64 bu] 26 HM.out Try.rowRot rfl ?_; simp only [Act.put]) | (refine wpl_row_g rfl 27 _ rfl _ rfl #[hx, hy, hv, gx, gy, gv, lx, ly, lv, px, py, pv, nx, ny, nv, ax, ay, av, cx, cy, cv, dx, dy, dv, .int .i64 cl, .int .i64 bu] 26 HM.out Try.rowRot rfl ?_; simp only [Act.put]) | (refine wpl_row_g rfl 36 _ rfl _ rfl #[.int .i64 wl, .int .i64 wh, .int .i64 tl, .int .i64 th, .int .i64 el, .int .i64 eh, .int .i64 nl, .int .i64 nh] 8 HA.out Try.rowAir rfl ?_; simp only [Act.put]) | (go_at_call 14; (with_reducible refine (HW.out _ (HR.out.below HB.out)).mono ?_); rintro e w1 ⟨rfl, hb1⟩; have nHM := Lib.hid (HM.out.below hb1); have nHA := Lib.hid (HA.out.below hb1); have nHB := Lib.hid (bthen HB.out hb1); have zz1 := hb1.size; clear HM HA HB hb1; have HM := nHM; have HA := nHA; have HB := nHB; clear nHM nHA nHB) | ((with_reducible refine (HC.out _ (HR.out.below HB.out)).mono ?_); rintro e w1 ⟨rfl, hb1⟩; have nHM := Lib.hid (HM.out.below hb1); have nHA := Lib.hid (HA.out.below hb1); have nHB := Lib.hid (bthen HB.out hb1); have zz1 := hb1.size; clear HM HA HB hb1; have HM := nHM; have HA := nHA; have HB := nHB; clear nHM nHA nHB) | (go_at_call 17; (with_reducible refine (own_c hx hy hv gx gy gv lx ly lv px py pv nx ny nv ax ay av cx cy cv dx dy dv cl bu S _ (HR.out.below HB.out) HN.out).mono ?_); rintro e w1 ⟨v, rfl, ho, hb1⟩; obtain ⟨hx', hy', hv', gx', gy', gv', lx', ly', lv', px', py', pv', nx', ny', nv', ax', ay', av', cx', cy', cv', dx', dy', dv', rfl, r1⟩ := ho; have HO := Lib.hid r1; clear r1; have nHM := Lib.hid (HM.out.below hb1); have nHA := Lib.hid (HA.out.below hb1); have nHB := Lib.hid (bthen HB.out hb1); have zz1 := hb1.size; clear HM HA HB hb1; have HM := nHM; have HA := nHA; have HB := nHB; clear nHM nHA nHB; (try clear zHA); have zHA := HA.out.lt; (try clear cHA0); have cHA0 := HA.out.cell 0) | (refine wpl_store_new rfl 27 _ _ rfl #[hx', hy', hv', gx', gy', gv', lx', ly', lv', px', py', pv', nx', ny', nv', ax', ay', av', cx', cy', cv', dx', dy', dv', .int .i64 cl, .int .i64 bu] _ _ rfl ?_ rfl Try.sizeRot' rfl (RotAt.one26' HO.out) ?_; (focus (simp; done)); simp only [Act.put]))
  have bHQ := Blk.new w1 27 #[hx', hy', hv', gx', gy', gv', lx', ly', lv', px', py', pv', nx', ny', nv', ax', ay', av', cx', cy', cv', dx', dy', dv', .int .i64 cl, .int .i64 bu]
  have nHA := Lib.hid (HA.out.alloc (.cells #[hx', hy', hv', gx', gy', gv', lx', ly', lv', px', py', pv', nx', ny', nv', ax', ay', av', cx', cy', cv', dx', dy', dv', .int .i64 cl, .int .i64 bu] 27))
  have nHO := Lib.hid (HO.out.alloc (.cells #[hx', hy', hv', gx', gy', gv', lx', ly', lv', px', py', pv', nx', ny', nv', ax', ay', av', cx', cy', cv', dx', dy', dv', .int .i64 cl, .int .i64 bu] 27))
  have nHB := Lib.hid (bal HB.out (.cells #[hx', hy', hv', gx', gy', gv', lx', ly', lv', px', py', pv', nx', ny', nv', ax', ay', av', cx', cy', cv', dx', dy', dv', .int .i64 cl, .int .i64 bu] 27))
  clear HA HO HB
  have HA := nHA
  have HO := nHO
  have HB := nHB
  clear nHA nHO nHB
  generalize w1.alloc (.cells #[hx', hy', hv', gx', gy', gv', lx', ly', lv', px', py', pv', nx', ny', nv', ax', ay', av', cx', cy', cv', dx', dy', dv', .int .i64 cl, .int .i64 bu] 27) = W2 at *
  generalize w1.heap.size = gHQ at *
  have HQ := Lib.hid bHQ
  clear bHQ
  clear HM
  obtain ⟨i0, hi0, hz0, hz1, hz2⟩ := info_parts Try.infoDrop
  refine wp_region_specL 11 [8, 9] (clrR W2.heap.size (.agg #[hx', hy', hv', gx', gy', gv', lx', ly', lv', px', py', pv', nx', ny', nv', ax', ay', av', cx', cy', cv', dx', dy', dv', .int .i64 cl, .int .i64 bu]) (.agg #[.int .i64 wl, .int .i64 wh, .int .i64 tl, .int .i64 th, .int .i64 el, .int .i64 eh, .int .i64 nl, .int .i64 nh]) (.slice A n c) n D V0 V1 0 0) (fun i => decide (i = 10)) (by kernel_rfl) (by kernel_rfl) (by decide) clrR_below ?hop2 ?htail2
  case hop2 =>
    simp only [List.take_succ_cons, List.take_zero, allOps]
    refine ⟨?_, ?_, ?_, ?_, ?_, ?_, ?_, ?_, ?_, ?_, ?_, trivial⟩
    all_goals intro u A w1 hA hb hd
    all_goals simp only [putAll, dstOf, List.getElem?_toArray, List.getElem?_cons_succ, List.getElem?_cons_zero, Option.bind_some, Option.bind, Act.put, List.setIfInBounds_toArray, List.set_cons_succ, List.set_cons_zero] at hA; subst hA
    all_goals have HB1 := Lib.hid hb
    · refine OpOk.now rfl ?_
      clear hb hd
      go_wp2_with (refine wpl_row rfl 27 _ rfl _ rfl _ 26 (HQ.out.below HB1.out) Try.rowRot rfl ?_; simp only [Act.put])
      exact ⟨_, rfl, Below.refl _ _, rfl, fun h => absurd h (by decide)⟩
    · refine OpOk.now rfl ?_
      clear hb hd
      go_wp2_with (refine wpl_row rfl 36 _ rfl _ rfl _ 8 (HA.out.below HB1.out) Try.rowAir rfl ?_; simp only [Act.put])
      exact ⟨_, rfl, Below.refl _ _, rfl, fun h => absurd h (by decide)⟩
    · refine OpOk.now rfl ?_
      clear hb hd
      go_wp2
      exact ⟨_, rfl, bal (Below.refl _ _) _, ⟨_, rfl, Blk.new _ _ _⟩, fun h => absurd h (by decide)⟩
    · refine OpOk.now rfl ?_
      clear hb hd
      go_wp2
      exact ⟨_, rfl, Below.refl _ _, rfl, fun h => absurd h (by decide)⟩
    · refine OpOk.now rfl ?_
      have d2 := hd 2 (by omega) (by kernel_rfl)
      have d3 : u 3 = _ := hd 3 (by omega) (by kernel_rfl)
      clear hb hd
      rw [d3]
      clear d3
      obtain ⟨g, dg, d1⟩ := d2
      have hcx := Lib.hid (RecsAt.cells (DropsAt.recs ((HD.out.below HB.out).below HB1.out)))
      rw [dg]
      clear dg
      refine wpl_append_newk rfl (.tmp 48) (.tmp 49) 68 rfl 74 i0 _ 5 40 Try.undDrops hi0 hz0 hz1 hz2 rfl (by omega) g rfl d1 0 (Nat.zero_le _) A n c rfl _ hcx.out (fun _ _ => rfl) (by unfold maxLen; omega) (by omega) (fun v' w' ho hbl => ?_)
      exact ⟨v', rfl, hbl, (by obtain ⟨A', c', e, h1, h2, h3⟩ := RecsAt.of_owns (V := fun i j => .int .i64 (D i j)) (k := 5) (by omega) ho; exact ⟨A', c', e, h1, h2, h3⟩), fun h => absurd h (by decide)⟩
    · refine OpOk.now rfl ?_
      have d0 : u 0 = _ := hd 0 (by omega) (by kernel_rfl)
      have d1 : u 1 = _ := hd 1 (by omega) (by kernel_rfl)
      have d4 := hd 4 (by omega) (by kernel_rfl)
      clear hb hd
      rw [d0, d1]
      clear d0 d1
      obtain ⟨A', c', e5, -, -, r5⟩ := d4
      rw [e5]
      clear e5
      go_wp2_with (go_at_call 39; (with_reducible refine (HK0.out _ _ _ _ _ _ _ _ _ _ _ _ _ _ _ _ _ _ _ _ _ _ _ _ _ (HO.out.below HB1.out) _ _ r5).mono ?_); rintro e w2 ⟨rfl, hb2⟩)
      exact ⟨_, rfl, hb2, rfl, fun h => absurd h (by decide)⟩
    · refine OpOk.now rfl ?_
      have d5 : u 5 = _ := hd 5 (by omega) (by kernel_rfl)
      clear hb hd
      rw [d5]
      clear d5
      go_wp2
      exact ⟨_, rfl, Below.refl _ _, rfl, fun h => absurd h (by decide)⟩
    · refine OpOk.now rfl ?_
      have d6 : u 6 = _ := hd 6 (by omega) (by kernel_rfl)
      clear hb hd
      rw [d6]
      clear d6
      go_wp2
      exact ⟨_, rfl, Below.refl _ _, rfl, fun h => absurd h (by decide)⟩
    · have d6 : u 6 = _ := hd 6 (by omega) (by kernel_rfl)
      clear hb hd
      rw [d6]
      clear d6
      refine OpOk.late rfl ?_
      exact ⟨_, yields_extract rfl _ _ rfl _ rfl _ rfl, rfl⟩
    · have d6 : u 6 = _ := hd 6 (by omega) (by kernel_rfl)
      clear hb hd
      rw [d6]
      clear d6
      refine OpOk.late rfl ?_
      exact ⟨_, yields_extract rfl _ _ rfl _ rfl _ rfl, rfl⟩
    · refine OpOk.now rfl ?_
      have zz := hb.size
      clear hb hd
      go_wp2
      exact ⟨_, rfl, bal (Below.refl _ _) _, ⟨_, rfl, by omega, Blk.new _ _ _⟩, fun _ => ⟨_, rfl, Nat.le_refl _, by simp⟩⟩
  case htail2 =>
    intro u A w1 hA hb hd hf
    simp only [putAll, dstOf, List.getElem?_toArray, List.getElem?_cons_succ, List.getElem?_cons_zero, Option.bind_some, Option.bind, Act.put, List.setIfInBounds_toArray, List.set_cons_succ, List.set_cons_zero] at hA; subst hA
    have e0 : u 0 = _ := hd 0 (by omega)
    have e1 : u 1 = _ := hd 1 (by omega)
    have p2 := hd 2 (by omega)
    have e3 : u 3 = _ := hd 3 (by omega)
    have p4 := hd 4 (by omega)
    have e5 : u 5 = _ := hd 5 (by omega)
    have e6 : u 6 = _ := hd 6 (by omega)
    have e7 : u 7 = _ := hd 7 (by omega)
    have e8 : u 8 = _ := hd 8 (by omega)
    have e9 : u 9 = _ := hd 9 (by omega)
    obtain ⟨g10, e10, z10, b10⟩ := hd 10 (by omega)
    first | rw [e0, e1, e3, e5, e6, e7, e8, e9, e10] | simp only [e0, e1, e3, e5, e6, e7, e8, e9, e10]
    clear e0 e1 e3 e5 e6 e7 e8 e9 e10
    clear hd hf
    have x0 := b10.cell 0
    have x1 := b10.cell 1
    have x2 := fun i => b10.frozen i
    go_wp2_with fail
    dsimp only [NoPanic]
    have HL := Lib.hid (show Blk _ g10 _ #[.int .i64 V0, .int .i64 V1] from (b10.set_ 0 (.int .i64 V0)).set_ 1 (.int .i64 V1))
    have hbS := bset (bset hb z10 (i := 0) (.int .i64 V0)) z10 (i := 1) (.int .i64 V1)
    have nHA := Lib.hid (HA.out.below hbS)
    have nHQ := Lib.hid (HQ.out.below hbS)
    have nHO := Lib.hid (HO.out.below hbS)
    have nHB := Lib.hid (bthen HB.out hbS)
    clear HA HQ HO HB hbS
    have HA := nHA
    have HQ := nHQ
    have HO := nHO
    have HB := nHB
    clear nHA nHQ nHO nHB
    clear hb b10
    generalize (w1.setCell ⟨g10, 0, none⟩ (.int .i64 V0)).setCell ⟨g10, 1, none⟩ (.int .i64 V1) = w2 at *
    clear x0 x1 x2
    go_wp2_with fail
    go_loopw [11, 12, 13] (fun l h s wr => ∃ k : Nat, k ≤ n ∧ l = .int .i64 (dLo D k) ∧ h = .int .i64 (dHi D k) ∧ s = .int .i64 k ∧ RowKit.Hid (Below w.heap.size w wr) ∧ RowKit.Hid (Blk wr (w.heap.size + 1) 36 #[.int .i64 wl, .int .i64 wh, .int .i64 tl, .int .i64 th, .int .i64 el, .int .i64 eh, .int .i64 nl, .int .i64 nh]) ∧ RowKit.Hid (Blk wr gHQ 27 #[hx', hy', hv', gx', gy', gv', lx', ly', lv', px', py', pv', nx', ny', nv', ax', ay', av', cx', cy', cv', dx', dy', dv', .int .i64 cl, .int .i64 bu]) ∧ RowKit.Hid (Blk wr g10 34 #[.int .i64 V0, .int .i64 V1]) ∧ RowKit.Hid (RotAt wr hx' hy' hv' gx' gy' gv' lx' ly' lv' px' py' pv' nx' ny' nv' ax' ay' av' cx' cy' cv' dx' dy' dv' cl bu S) ∧ RowKit.Hid (-1000000000 * (k : Int) ≤ dLo D k ∧ dLo D k ≤ 1000000000 * (k : Int) ∧ -1000000000 * (k : Int) ≤ dHi D k ∧ dHi D k ≤ 1000000000 * (k : Int))) (fun _ _ s _ => n - (intOf s).toNat)
    case atStart => exact ⟨0, by omega, rfl, rfl, rfl, HB.out, HA.out, HQ.out, HL.out, HO.out, ⟨by simp [dLo], by simp [dLo], by simp [dHi], by simp [dHi]⟩⟩
    case round =>
      clear HB HA HQ HL HO
      obtain ⟨k, hk, rfl, rfl, rfl, HB, HA, HQ, HL, HO, HX⟩ := hrel
      by_cases hlt : k < n
      · skip
        -- done
        obtain ⟨b, off, hA, hbl, hcc⟩ := (HD.out.below HB.out) (by omega)
        have d0 := hcc k hlt 0 (by omega)
        have d1 := hcc k hlt 1 (by omega)
        have d2 := hcc k hlt 2 (by omega)
        have d3 := hcc k hlt 3 (by omega)
        have d4 := hcc k hlt 4 (by omega)
        simp only [Nat.add_zero] at d0
        clear hcc
        subst hA
        go_wp2_with fail
        clear d0 d1 d2 d3 d4
        rename World => w1
        have bN5 := Blk.new w1 74 #[.int .i64 (D k 0), .int .i64 (D k 1), .int .i64 (D k 2), .int .i64 (D k 3), .int .i64 (D k 4)]
        have nHA := Lib.hid (HA.out.alloc (.cells #[.int .i64 (D k 0), .int .i64 (D k 1), .int .i64 (D k 2), .int .i64 (D k 3), .int .i64 (D k 4)] 74))
        have nHQ := Lib.hid (HQ.out.alloc (.cells #[.int .i64 (D k 0), .int .i64 (D k 1), .int .i64 (D k 2), .int .i64 (D k 3), .int .i64 (D k 4)] 74))
        have nHL := Lib.hid (HL.out.alloc (.cells #[.int .i64 (D k 0), .int .i64 (D k 1), .int .i64 (D k 2), .int .i64 (D k 3), .int .i64 (D k 4)] 74))
        have nHO := Lib.hid (HO.out.alloc (.cells #[.int .i64 (D k 0), .int .i64 (D k 1), .int .i64 (D k 2), .int .i64 (D k 3), .int .i64 (D k 4)] 74))
        have nHB := Lib.hid (bal HB.out (.cells #[.int .i64 (D k 0), .int .i64 (D k 1), .int .i64 (D k 2), .int .i64 (D k 3), .int .i64 (D k 4)] 74))
        clear HA HQ HL HO HB
        have HA := nHA
        have HQ := nHQ
        have HL := nHL
        have HO := nHO
        have HB := nHB
        clear nHA nHQ nHL nHO nHB
        generalize w1.alloc (.cells #[.int .i64 (D k 0), .int .i64 (D k 1), .int .i64 (D k 2), .int .i64 (D k 3), .int .i64 (D k 4)] 74) = W2 at *
        generalize w1.heap.size = gN5 at *
        have N5 := Lib.hid bN5
        clear bN5
        have hgk := HG.out k hlt
        obtain ⟨t1, t2, t3, t4⟩ := dBad_no hgk.1
        have j1 := fun w => rf_Valid_c (D k 0) (D k 1) w
        have j2 := fun w => rf_Valid_c (D k 2) (D k 3) w
        rw [t2] at j1
        rw [t3] at j2
        have J1 := Lib.hid j1
        have J2 := Lib.hid j2
        have HWK := Lib.hid (fun (x y : Int) (ex : x = D k 0 ∨ x = D k 1) (ey : y = D k 2 ∨ y = D k 3) w1 hx hy hv gx gy gv lx ly lv px py pv nx ny nv ax ay av cx cy cv dx dy dv hR => (show Calls Try.prog 27 #[.agg #[hx, hy, hv, gx, gy, gv, lx, ly, lv, px, py, pv, nx, ny, nv, ax, ay, av, cx, cy, cv, dx, dy, dv, .int .i64 cl, .int .i64 bu], .agg #[.int .i64 wl, .int .i64 wh, .int .i64 tl, .int .i64 th, .int .i64 el, .int .i64 eh, .int .i64 nl, .int .i64 nh], .agg #[.int .i64 x, .int .i64 x], .agg #[.int .i64 y, .int .i64 y]] w1 fun e w' => e = .returned (.tuple #[.bool false, .int .i64 0]) ∧ Below w1.heap.size w1 w' by have := Wake_c hx hy hv gx gy gv lx ly lv px py pv nx ny nv ax ay av cx cy cv dx dy dv cl bu wl wh tl th el eh nl nh S x x y y w1 hR; rw [(clear_drop HE.out hgk.1 hgk.2 ex ey).1, (clear_drop HE.out hgk.1 hgk.2 ex ey).2] at this; exact this))
        obtain ⟨M0, L1, M1, H1, eq0, eq1, eq2, eq3, k0, k1, hb0, hb1, hb2, hb3⟩ := dStep (by omega) t1 t3 HX.out
        have K0 := Lib.hid k0
        have K1 := Lib.hid k1
        have AQ := Lib.hid (And.intro hb0 (And.intro hb1 (And.intro hb2 hb3)))
        clear k0 k1 hb0 hb1 hb2 hb3 hgk t1 t2 t3 t4 j1 j2
        have zN5 := N5.out.lt
        have cN50 := N5.out.cell 0
        have cN51 := N5.out.cell 1
        have cN52 := N5.out.cell 2
        have cN53 := N5.out.cell 3
        go_wp2_with (first | (go_at_call 24; (with_reducible refine (J1.out _).mono ?_); rintro e w1 ⟨rfl, hb1⟩; have nHA := Lib.hid (HA.out.below hb1); have nHQ := Lib.hid (HQ.out.below hb1); have nHL := Lib.hid (HL.out.below hb1); have nHO := Lib.hid (HO.out.below hb1); have nN5 := Lib.hid (N5.out.below hb1); have nHB := Lib.hid (bthen HB.out hb1); have zz1 := hb1.size; clear HA HQ HL HO N5 HB hb1; have HA := nHA; have HQ := nHQ; have HL := nHL; have HO := nHO; have N5 := nN5; have HB := nHB; clear nHA nHQ nHL nHO nN5 nHB; (try clear zN5); have zN5 := N5.out.lt; (try clear cN50); have cN50 := N5.out.cell 0; (try clear cN51); have cN51 := N5.out.cell 1; (try clear cN52); have cN52 := N5.out.cell 2; (try clear cN53); have cN53 := N5.out.cell 3) | ((with_reducible refine (J2.out _).mono ?_); rintro e w1 ⟨rfl, hb1⟩; have nHA := Lib.hid (HA.out.below hb1); have nHQ := Lib.hid (HQ.out.below hb1); have nHL := Lib.hid (HL.out.below hb1); have nHO := Lib.hid (HO.out.below hb1); have nN5 := Lib.hid (N5.out.below hb1); have nHB := Lib.hid (bthen HB.out hb1); have zz1 := hb1.size; clear HA HQ HL HO N5 HB hb1; have HA := nHA; have HQ := nHQ; have HL := nHL; have HO := nHO; have N5 := nN5; have HB := nHB; clear nHA nHQ nHL nHO nN5 nHB; (try clear zN5); have zN5 := N5.out.lt; (try clear cN50); have cN50 := N5.out.cell 0; (try clear cN51); have cN51 := N5.out.cell 1; (try clear cN52); have cN52 := N5.out.cell 2; (try clear cN53); have cN53 := N5.out.cell 3))
        have zN := HB.out.size
        go_loopw [15] (fun s wr => ∃ j : Int, 0 ≤ j ∧ j ≤ 4 ∧ s = .int .i64 j ∧ RowKit.Hid (Below w.heap.size w wr) ∧ RowKit.Hid (Blk wr (w.heap.size + 1) 36 #[.int .i64 wl, .int .i64 wh, .int .i64 tl, .int .i64 th, .int .i64 el, .int .i64 eh, .int .i64 nl, .int .i64 nh]) ∧ RowKit.Hid (Blk wr gHQ 27 #[hx', hy', hv', gx', gy', gv', lx', ly', lv', px', py', pv', nx', ny', nv', ax', ay', av', cx', cy', cv', dx', dy', dv', .int .i64 cl, .int .i64 bu]) ∧ RowKit.Hid (Blk wr g10 34 #[.int .i64 V0, .int .i64 V1]) ∧ RowKit.Hid (RotAt wr hx' hy' hv' gx' gy' gv' lx' ly' lv' px' py' pv' nx' ny' nv' ax' ay' av' cx' cy' cv' dx' dy' dv' cl bu S) ∧ RowKit.Hid (Blk wr gN5 74 #[.int .i64 (D k 0), .int .i64 (D k 1), .int .i64 (D k 2), .int .i64 (D k 3), .int .i64 (D k 4)])) (fun s _ => 4 - (intOf s).toNat)
        case atStart => exact ⟨0, by omega, by omega, rfl, HB.out, HA.out, HQ.out, HL.out, HO.out, N5.out⟩
        case round =>
          clear HB HA HQ HL HO N5
          obtain ⟨j, hj0, hj4, rfl, HB, HA, HQ, HL, HO, N5⟩ := hrel
          by_cases hj : j = 4
          · subst hj
            have zN5 := N5.out.lt
            have cN52 := N5.out.cell 2
            have cN53 := N5.out.cell 3
            have cN54 := N5.out.cell 4
            go_wp2_with fail
            rw [eq1, eq3, K0.out, K1.out]
            exact ⟨⟨k + 1, by omega, rfl, rfl, by go_num, HB.out, HA.out, HQ.out, HL.out, HO.out, (by have := AQ.out; push_cast; exact this)⟩, by simp [intOf]; omega⟩
          · rcases (show j = 0 ∨ j = 1 ∨ j = 2 ∨ j = 3 by omega) with rfl | rfl | rfl | rfl
            all_goals
              clear hj hj0 hj4
              have zN5 := N5.out.lt
              have cN50 := N5.out.cell 0
              have cN51 := N5.out.cell 1
              have cN52 := N5.out.cell 2
              have cN53 := N5.out.cell 3
              go_wp2_with fail
              go_quiet (fail)
              have hq := bdn (Below.refl wr.heap.size wr) nq
              generalize wr.drewN nq = wt at *
              have nHA := Lib.hid (HA.out.below hq)
              have nHQ := Lib.hid (HQ.out.below hq)
              have nHL := Lib.hid (HL.out.below hq)
              have nHO := Lib.hid (HO.out.below hq)
              have nN5 := Lib.hid (N5.out.below hq)
              have nHB := Lib.hid (bthen HB.out hq)
              clear HA HQ HL HO N5 HB hq
              have HA := nHA
              have HQ := nHQ
              have HL := nHL
              have HO := nHO
              have N5 := nN5
              have HB := nHB
              clear nHA nHQ nHL nHO nN5 nHB
              have zN5 := N5.out.lt
              have cN50 := N5.out.cell 0
              have cN51 := N5.out.cell 1
              have cN52 := N5.out.cell 2
              have cN53 := N5.out.cell 3
            · skip
              go_wp2_with (first | (refine wpl_row rfl 27 _ rfl _ rfl #[hx', hy', hv', gx', gy', gv', lx', ly', lv', px', py', pv', nx', ny', nv', ax', ay', av', cx', cy', cv', dx', dy', dv', .int .i64 cl, .int .i64 bu] 26 HQ.out Try.rowRot rfl ?_; simp only [Act.put]) | (refine wpl_row rfl 36 _ rfl _ rfl #[.int .i64 wl, .int .i64 wh, .int .i64 tl, .int .i64 th, .int .i64 el, .int .i64 eh, .int .i64 nl, .int .i64 nh] 8 HA.out Try.rowAir rfl ?_; simp only [Act.put]) | (go_at_call 27; (with_reducible refine (HWK.out _ _ (.inl rfl) (.inl rfl) _ _ _ _ _ _ _ _ _ _ _ _ _ _ _ _ _ _ _ _ _ _ _ _ _ HO.out).mono ?_); rintro e w1 ⟨rfl, hb1⟩; have nHA := Lib.hid (HA.out.below hb1); have nHQ := Lib.hid (HQ.out.below hb1); have nHL := Lib.hid (HL.out.below hb1); have nHO := Lib.hid (HO.out.below hb1); have nN5 := Lib.hid (N5.out.below hb1); have nHB := Lib.hid (bthen HB.out hb1); have zz1 := hb1.size; clear HA HQ HL HO N5 HB hb1; have HA := nHA; have HQ := nHQ; have HL := nHL; have HO := nHO; have N5 := nN5; have HB := nHB; clear nHA nHQ nHL nHO nN5 nHB; (try clear zN5); have zN5 := N5.out.lt; (try clear cN50); have cN50 := N5.out.cell 0))
              exact ⟨⟨1, by omega, by omega, rfl, HB.out, HA.out, HQ.out, HL.out, HO.out, N5.out⟩, by simp [intOf]⟩
            · skip
              go_wp2_with (first | (refine wpl_row rfl 27 _ rfl _ rfl #[hx', hy', hv', gx', gy', gv', lx', ly', lv', px', py', pv', nx', ny', nv', ax', ay', av', cx', cy', cv', dx', dy', dv', .int .i64 cl, .int .i64 bu] 26 HQ.out Try.rowRot rfl ?_; simp only [Act.put]) | (refine wpl_row rfl 36 _ rfl _ rfl #[.int .i64 wl, .int .i64 wh, .int .i64 tl, .int .i64 th, .int .i64 el, .int .i64 eh, .int .i64 nl, .int .i64 nh] 8 HA.out Try.rowAir rfl ?_; simp only [Act.put]) | (go_at_call 27; (with_reducible refine (HWK.out _ _ (.inr rfl) (.inl rfl) _ _ _ _ _ _ _ _ _ _ _ _ _ _ _ _ _ _ _ _ _ _ _ _ _ HO.out).mono ?_); rintro e w1 ⟨rfl, hb1⟩; have nHA := Lib.hid (HA.out.below hb1); have nHQ := Lib.hid (HQ.out.below hb1); have nHL := Lib.hid (HL.out.below hb1); have nHO := Lib.hid (HO.out.below hb1); have nN5 := Lib.hid (N5.out.below hb1); have nHB := Lib.hid (bthen HB.out hb1); have zz1 := hb1.size; clear HA HQ HL HO N5 HB hb1; have HA := nHA; have HQ := nHQ; have HL := nHL; have HO := nHO; have N5 := nN5; have HB := nHB; clear nHA nHQ nHL nHO nN5 nHB; (try clear zN5); have zN5 := N5.out.lt; (try clear cN50); have cN50 := N5.out.cell 0))
              exact ⟨⟨2, by omega, by omega, rfl, HB.out, HA.out, HQ.out, HL.out, HO.out, N5.out⟩, by simp [intOf]⟩
            · skip
              go_wp2_with (first | (refine wpl_row rfl 27 _ rfl _ rfl #[hx', hy', hv', gx', gy', gv', lx', ly', lv', px', py', pv', nx', ny', nv', ax', ay', av', cx', cy', cv', dx', dy', dv', .int .i64 cl, .int .i64 bu] 26 HQ.out Try.rowRot rfl ?_; simp only [Act.put]) | (refine wpl_row rfl 36 _ rfl _ rfl #[.int .i64 wl, .int .i64 wh, .int .i64 tl, .int .i64 th, .int .i64 el, .int .i64 eh, .int .i64 nl, .int .i64 nh] 8 HA.out Try.rowAir rfl ?_; simp only [Act.put]) | (go_at_call 27; (with_reducible refine (HWK.out _ _ (.inl rfl) (.inr rfl) _ _ _ _ _ _ _ _ _ _ _ _ _ _ _ _ _ _ _ _ _ _ _ _ _ HO.out).mono ?_); rintro e w1 ⟨rfl, hb1⟩; have nHA := Lib.hid (HA.out.below hb1); have nHQ := Lib.hid (HQ.out.below hb1); have nHL := Lib.hid (HL.out.below hb1); have nHO := Lib.hid (HO.out.below hb1); have nN5 := Lib.hid (N5.out.below hb1); have nHB := Lib.hid (bthen HB.out hb1); have zz1 := hb1.size; clear HA HQ HL HO N5 HB hb1; have HA := nHA; have HQ := nHQ; have HL := nHL; have HO := nHO; have N5 := nN5; have HB := nHB; clear nHA nHQ nHL nHO nN5 nHB; (try clear zN5); have zN5 := N5.out.lt; (try clear cN50); have cN50 := N5.out.cell 0))
              exact ⟨⟨3, by omega, by omega, rfl, HB.out, HA.out, HQ.out, HL.out, HO.out, N5.out⟩, by simp [intOf]⟩
            · skip
              go_wp2_with (first | (refine wpl_row rfl 27 _ rfl _ rfl #[hx', hy', hv', gx', gy', gv', lx', ly', lv', px', py', pv', nx', ny', nv', ax', ay', av', cx', cy', cv', dx', dy', dv', .int .i64 cl, .int .i64 bu] 26 HQ.out Try.rowRot rfl ?_; simp only [Act.put]) | (refine wpl_row rfl 36 _ rfl _ rfl #[.int .i64 wl, .int .i64 wh, .int .i64 tl, .int .i64 th, .int .i64 el, .int .i64 eh, .int .i64 nl, .int .i64 nh] 8 HA.out Try.rowAir rfl ?_; simp only [Act.put]) | (go_at_call 27; (with_reducible refine (HWK.out _ _ (.inr rfl) (.inr rfl) _ _ _ _ _ _ _ _ _ _ _ _ _ _ _ _ _ _ _ _ _ _ _ _ _ HO.out).mono ?_); rintro e w1 ⟨rfl, hb1⟩; have nHA := Lib.hid (HA.out.below hb1); have nHQ := Lib.hid (HQ.out.below hb1); have nHL := Lib.hid (HL.out.below hb1); have nHO := Lib.hid (HO.out.below hb1); have nN5 := Lib.hid (N5.out.below hb1); have nHB := Lib.hid (bthen HB.out hb1); have zz1 := hb1.size; clear HA HQ HL HO N5 HB hb1; have HA := nHA; have HQ := nHQ; have HL := nHL; have HO := nHO; have N5 := nN5; have HB := nHB; clear nHA nHQ nHL nHO nN5 nHB; (try clear zN5); have zN5 := N5.out.lt; (try clear cN50); have cN50 := N5.out.cell 0))
              exact ⟨⟨4, by omega, by omega, rfl, HB.out, HA.out, HQ.out, HL.out, HO.out, N5.out⟩, by simp [intOf]⟩
        -- end
      · obtain rfl : k = n := by omega
        rw [← HV0.out, ← HV1.out]
        have zHL := HL.out.lt
        have cHL0 := HL.out.cell 0
        have cHL1 := HL.out.cell 1
        go_wp2_with fail
        obtain ⟨m, q, hkm, hdv⟩ : ∃ m q : Nat, k = m + q ∧ ((k : Int) / 2) = (m : Int) := ⟨k / 2, k - k / 2, by omega, by omega⟩
        rw [hdv]
        obtain ⟨X0, X1, E1, hP1, hQ1⟩ := part_cases (n := m) (D := D) HDC.out (by omega) (fun j hj => HG.out j (by omega))
        obtain ⟨Y0, Y1, E2, hP2, hQ2⟩ := part_cases (n := q) (D := fun j => D (m + j)) HDC.out (by omega) (fun j hj => HG.out (m + j) (by omega))
        have HK1 := Lib.hid (fun w1 hx hy hv gx gy gv lx ly lv px py pv nx ny nv ax ay av cx cy cv dx dy dv hR A c hD => by have := HK.out w1 hx hy hv gx gy gv lx ly lv px py pv nx ny nv ax ay av cx cy cv dx dy dv hR A c m D (by omega) hD; rw [hP1] at this; exact this)
        have HK2 := Lib.hid (fun w1 hx hy hv gx gy gv lx ly lv px py pv nx ny nv ax ay av cx cy cv dx dy dv hR A c hD => by have := HK.out w1 hx hy hv gx gy gv lx ly lv px py pv nx ny nv ax ay av cx cy cv dx dy dv hR A c q (fun j => D (m + j)) (by omega) hD; rw [hP2] at this; exact this)
        dsimp only at HK1 HK2
        have HD1 := Lib.hid (show DropsAt w A m D from dropsAt_left HD.out (by omega))
        have HD2 := Lib.hid (show DropsAt w (A.map (·.add (m * 5))) q (fun j => D (m + j)) from dropsAt_right HD.out (by omega))
        have HKM := Lib.hid hkm
        have z4 : (m : Int) + (q : Int) ≤ (k : Int) := by omega
        have z5 : m ≤ 30 := by omega
        have z6 : q ≤ 30 := by omega
        have z0 : (0 : Int) ≤ (m : Int) := by omega
        have z1 : (m : Int) ≤ (k : Int) := by omega
        have z2 : (m : Int) ≤ (c : Int) := by omega
        have z3 : (k : Int) ≤ (c : Int) := by omega
        clear hP1 hP2 hkm hdv
        refine wp_region_specL 13 [10, 11] (clsR wr.heap.size (.agg #[hx', hy', hv', gx', gy', gv', lx', ly', lv', px', py', pv', nx', ny', nv', ax', ay', av', cx', cy', cv', dx', dy', dv', .int .i64 cl, .int .i64 bu]) (.agg #[.int .i64 wl, .int .i64 wh, .int .i64 tl, .int .i64 th, .int .i64 el, .int .i64 eh, .int .i64 nl, .int .i64 nh]) (.slice A k c) (.slice A m c) (m : Int) m (D) X0 X1 0 E1) (fun i => decide (i = 12)) (by kernel_rfl) (by kernel_rfl) (by decide) clsR_below ?hop3 ?htail3
        case hop3 =>
          simp only [List.take_succ_cons, List.take_zero, allOps]
          refine ⟨?_, ?_, ?_, ?_, ?_, ?_, ?_, ?_, ?_, ?_, ?_, ?_, ?_, trivial⟩
          all_goals intro u A w1 hA hb hd
          all_goals simp only [putAll, dstOf, List.getElem?_toArray, List.getElem?_cons_succ, List.getElem?_cons_zero, Option.bind_some, Option.bind, Act.put, List.setIfInBounds_toArray, List.set_cons_succ, List.set_cons_zero] at hA; subst hA
          all_goals have HB1 := Lib.hid hb
          · refine OpOk.now rfl ?_
            clear hb hd
            go_wp2_with (refine wpl_row rfl 27 _ rfl _ rfl _ 26 (HQ.out.below HB1.out) Try.rowRot rfl ?_; simp only [Act.put])
            exact ⟨_, rfl, Below.refl _ _, rfl, fun h => absurd h (by decide)⟩
          · refine OpOk.now rfl ?_
            clear hb hd
            go_wp2_with (refine wpl_row rfl 36 _ rfl _ rfl _ 8 (HA.out.below HB1.out) Try.rowAir rfl ?_; simp only [Act.put])
            exact ⟨_, rfl, Below.refl _ _, rfl, fun h => absurd h (by decide)⟩
          · refine OpOk.now rfl ?_
            clear hb hd
            go_wp2
            exact ⟨_, rfl, bal (Below.refl _ _) _, ⟨_, rfl, Blk.new _ _ _⟩, fun h => absurd h (by decide)⟩
          · refine OpOk.now rfl ?_
            clear hb hd
            go_wp2
            exact ⟨_, rfl, Below.refl _ _, rfl, fun h => absurd h (by decide)⟩
          · refine OpOk.now rfl ?_
            clear hb hd
            go_wp2
            exact ⟨_, rfl, Below.refl _ _, rfl, fun h => absurd h (by decide)⟩
          · refine OpOk.now rfl ?_
            have d3 : u 3 = _ := hd 3 (by omega) (by kernel_rfl)
            have d4 : u 4 = _ := hd 4 (by omega) (by kernel_rfl)
            clear hb hd
            rw [d3, d4]
            clear d3 d4
            go_wp2
            exact ⟨_, rfl, Below.refl _ _, rfl, fun h => absurd h (by decide)⟩
          · refine OpOk.now rfl ?_
            have d2 := hd 2 (by omega) (by kernel_rfl)
            have d5 : u 5 = _ := hd 5 (by omega) (by kernel_rfl)
            clear hb hd
            rw [d5]
            clear d5
            obtain ⟨g, dg, d1⟩ := d2
            have hcx := Lib.hid (RecsAt.cells (DropsAt.recs (((HD1).out.below HB.out).below HB1.out)))
            rw [dg]
            clear dg
            refine wpl_append_newk rfl (.tmp 143) (.tmp 146) 68 rfl 74 i0 _ 5 40 Try.undDrops hi0 hz0 hz1 hz2 rfl (by omega) g rfl d1 0 (Nat.zero_le _) _ _ _ rfl _ hcx.out (fun _ _ => rfl) (by unfold maxLen; omega) (by omega) (fun v' w' ho hbl => ?_)
            exact ⟨v', rfl, hbl, (by obtain ⟨A', c', e, h1, h2, h3⟩ := RecsAt.of_owns (V := fun i j => .int .i64 ((D) i j)) (k := 5) (by omega) ho; exact ⟨A', c', e, h1, h2, h3⟩), fun h => absurd h (by decide)⟩
          · refine OpOk.now rfl ?_
            have d0 : u 0 = _ := hd 0 (by omega) (by kernel_rfl)
            have d1 : u 1 = _ := hd 1 (by omega) (by kernel_rfl)
            have d6 := hd 6 (by omega) (by kernel_rfl)
            clear hb hd
            rw [d0, d1]
            clear d0 d1
            obtain ⟨A', c', e5, -, -, r5⟩ := d6
            rw [e5]
            clear e5
            go_wp2_with (go_at_call 39; (with_reducible refine (HK1.out _ _ _ _ _ _ _ _ _ _ _ _ _ _ _ _ _ _ _ _ _ _ _ _ _ (HO.out.below HB1.out) _ _ r5).mono ?_); rintro e w2 ⟨rfl, hb2⟩)
            exact ⟨_, rfl, hb2, rfl, fun h => absurd h (by decide)⟩
          · refine OpOk.now rfl ?_
            have d7 : u 7 = _ := hd 7 (by omega) (by kernel_rfl)
            clear hb hd
            rw [d7]
            clear d7
            go_wp2
            exact ⟨_, rfl, Below.refl _ _, rfl, fun h => absurd h (by decide)⟩
          · refine OpOk.now rfl ?_
            have d8 : u 8 = _ := hd 8 (by omega) (by kernel_rfl)
            clear hb hd
            rw [d8]
            clear d8
            go_wp2
            exact ⟨_, rfl, Below.refl _ _, rfl, fun h => absurd h (by decide)⟩
          · have d8 : u 8 = _ := hd 8 (by omega) (by kernel_rfl)
            clear hb hd
            rw [d8]
            clear d8
            refine OpOk.late rfl ?_
            exact ⟨_, yields_extract rfl _ _ rfl _ rfl _ rfl, rfl⟩
          · have d8 : u 8 = _ := hd 8 (by omega) (by kernel_rfl)
            clear hb hd
            rw [d8]
            clear d8
            refine OpOk.late rfl ?_
            exact ⟨_, yields_extract rfl _ _ rfl _ rfl _ rfl, rfl⟩
          · refine OpOk.now rfl ?_
            have zz := hb.size
            clear hb hd
            go_wp2
            exact ⟨_, rfl, bal (Below.refl _ _) _, ⟨_, rfl, by omega, Blk.new _ _ _⟩, fun _ => ⟨_, rfl, Nat.le_refl _, by simp⟩⟩
        case htail3 =>
          intro u A w1 hA hb hd hf
          simp only [putAll, dstOf, List.getElem?_toArray, List.getElem?_cons_succ, List.getElem?_cons_zero, Option.bind_some, Option.bind, Act.put, List.setIfInBounds_toArray, List.set_cons_succ, List.set_cons_zero] at hA; subst hA
          have e0 : u 0 = _ := hd 0 (by omega)
          have e1 : u 1 = _ := hd 1 (by omega)
          have p2 := hd 2 (by omega)
          have e3 : u 3 = _ := hd 3 (by omega)
          have e4 : u 4 = _ := hd 4 (by omega)
          have e5 : u 5 = _ := hd 5 (by omega)
          have p6 := hd 6 (by omega)
          have e7 : u 7 = _ := hd 7 (by omega)
          have e8 : u 8 = _ := hd 8 (by omega)
          have e9 : u 9 = _ := hd 9 (by omega)
          have e10 : u 10 = _ := hd 10 (by omega)
          have e11 : u 11 = _ := hd 11 (by omega)
          obtain ⟨g12, e12, z12, b12⟩ := hd 12 (by omega)
          first | rw [e0, e1, e3, e4, e5, e7, e8, e9, e10, e11, e12] | simp only [e0, e1, e3, e4, e5, e7, e8, e9, e10, e11, e12]
          clear e0 e1 e3 e4 e5 e7 e8 e9 e10 e11 e12
          clear hd hf
          have x0 := b12.cell 0
          have x1 := b12.cell 1
          have x2 := fun i => b12.frozen i
          go_wp2_with fail
          dsimp only [NoPanic]
          have HX := Lib.hid (show Blk _ g12 _ #[.int .i64 X0, .int .i64 X1] from (b12.set_ 0 (.int .i64 X0)).set_ 1 (.int .i64 X1))
          have hbS := bset (bset hb z12 (i := 0) (.int .i64 X0)) z12 (i := 1) (.int .i64 X1)
          have nHA := Lib.hid (HA.out.below hbS)
          have nHQ := Lib.hid (HQ.out.below hbS)
          have nHL := Lib.hid (HL.out.below hbS)
          have nHO := Lib.hid (HO.out.below hbS)
          have nHB := Lib.hid (bthen HB.out hbS)
          clear HA HQ HL HO HB hbS
          have HA := nHA
          have HQ := nHQ
          have HL := nHL
          have HO := nHO
          have HB := nHB
          clear nHA nHQ nHL nHO nHB
          clear hb b12
          generalize (w1.setCell ⟨g12, 0, none⟩ (.int .i64 X0)).setCell ⟨g12, 1, none⟩ (.int .i64 X1) = w2 at *
          clear x0 x1 x2
          go_wp2_with fail
          refine wp_region_specL 13 [10, 11] (cltR w2.heap.size (.agg #[hx', hy', hv', gx', gy', gv', lx', ly', lv', px', py', pv', nx', ny', nv', ax', ay', av', cx', cy', cv', dx', dy', dv', .int .i64 cl, .int .i64 bu]) (.agg #[.int .i64 wl, .int .i64 wh, .int .i64 tl, .int .i64 th, .int .i64 el, .int .i64 eh, .int .i64 nl, .int .i64 nh]) (.slice A k c) (m : Int) q (fun j => D (m + j)) Y0 Y1 0 E2) (fun i => decide (i = 12)) (by kernel_rfl) (by kernel_rfl) (by decide) cltR_below ?hop4 ?htail4
          case hop4 =>
            simp only [List.take_succ_cons, List.take_zero, allOps]
            refine ⟨?_, ?_, ?_, ?_, ?_, ?_, ?_, ?_, ?_, ?_, ?_, ?_, ?_, trivial⟩
            all_goals intro u A w1 hA hb hd
            all_goals simp only [putAll, dstOf, List.getElem?_toArray, List.getElem?_cons_succ, List.getElem?_cons_zero, Option.bind_some, Option.bind, Act.put, List.setIfInBounds_toArray, List.set_cons_succ, List.set_cons_zero] at hA; subst hA
            all_goals have HB1 := Lib.hid hb
            · refine OpOk.now rfl ?_
              clear hb hd
              go_wp2_with (refine wpl_row rfl 27 _ rfl _ rfl _ 26 (HQ.out.below HB1.out) Try.rowRot rfl ?_; simp only [Act.put])
              exact ⟨_, rfl, Below.refl _ _, rfl, fun h => absurd h (by decide)⟩
            · refine OpOk.now rfl ?_
              clear hb hd
              go_wp2_with (refine wpl_row rfl 36 _ rfl _ rfl _ 8 (HA.out.below HB1.out) Try.rowAir rfl ?_; simp only [Act.put])
              exact ⟨_, rfl, Below.refl _ _, rfl, fun h => absurd h (by decide)⟩
            · refine OpOk.now rfl ?_
              clear hb hd
              go_wp2
              exact ⟨_, rfl, bal (Below.refl _ _) _, ⟨_, rfl, Blk.new _ _ _⟩, fun h => absurd h (by decide)⟩
            · refine OpOk.now rfl ?_
              clear hb hd
              go_wp2
              exact ⟨_, rfl, Below.refl _ _, rfl, fun h => absurd h (by decide)⟩
            · refine OpOk.now rfl ?_
              clear hb hd
              go_wp2
              exact ⟨_, rfl, Below.refl _ _, rfl, fun h => absurd h (by decide)⟩
            · refine OpOk.now rfl ?_
              have d3 : u 3 = _ := hd 3 (by omega) (by kernel_rfl)
              have d4 : u 4 = _ := hd 4 (by omega) (by kernel_rfl)
              clear hb hd
              rw [d3, d4]
              clear d3 d4
              obtain rfl := HKM.out
              rcases Nat.lt_or_ge m c with hmc | hmc
              · (cases A with | none => exact absurd (h0 rfl) (by omega) | some a => (go_wp2_with fail; exact ⟨_, rfl, Below.refl _ _, ⟨_, _, rfl, (HD2.out.below HB.out).below HB1.out⟩, fun h => absurd h (by decide)⟩))
              · ((obtain rfl : c = m := by omega); (obtain rfl : q = 0 := by omega); go_wp2_with fail; exact ⟨_, rfl, Below.refl _ _, ⟨_, _, rfl, fun h => absurd h (by omega)⟩, fun h => absurd h (by decide)⟩)
              skip
            · refine OpOk.now rfl ?_
              have d2 := hd 2 (by omega) (by kernel_rfl)
              have d5 := hd 5 (by omega) (by kernel_rfl)
              clear hb hd
              obtain ⟨g, dg, d1⟩ := d2
              obtain ⟨A2, c2, e5, h52⟩ := d5
              rw [e5]
              clear e5
              have hcx := Lib.hid (RecsAt.cells (DropsAt.recs h52))
              rw [dg]
              clear dg
              refine wpl_append_newk rfl (.tmp 155) (.tmp 158) 68 rfl 74 i0 _ 5 40 Try.undDrops hi0 hz0 hz1 hz2 rfl (by omega) g rfl d1 0 (Nat.zero_le _) _ _ _ rfl _ hcx.out (fun _ _ => rfl) (by unfold maxLen; omega) (by omega) (fun v' w' ho hbl => ?_)
              exact ⟨v', rfl, hbl, (by obtain ⟨A', c', e, h1, h2, h3⟩ := RecsAt.of_owns (V := fun i j => .int .i64 ((fun j => D (m + j)) i j)) (k := 5) (by omega) ho; exact ⟨A', c', e, h1, h2, h3⟩), fun h => absurd h (by decide)⟩
            · refine OpOk.now rfl ?_
              have d0 : u 0 = _ := hd 0 (by omega) (by kernel_rfl)
              have d1 : u 1 = _ := hd 1 (by omega) (by kernel_rfl)
              have d6 := hd 6 (by omega) (by kernel_rfl)
              clear hb hd
              rw [d0, d1]
              clear d0 d1
              obtain ⟨A', c', e5, -, -, r5⟩ := d6
              rw [e5]
              clear e5
              go_wp2_with (go_at_call 39; (with_reducible refine (HK2.out _ _ _ _ _ _ _ _ _ _ _ _ _ _ _ _ _ _ _ _ _ _ _ _ _ (HO.out.below HB1.out) _ _ r5).mono ?_); rintro e w2 ⟨rfl, hb2⟩)
              exact ⟨_, rfl, hb2, rfl, fun h => absurd h (by decide)⟩
            · refine OpOk.now rfl ?_
              have d7 : u 7 = _ := hd 7 (by omega) (by kernel_rfl)
              clear hb hd
              rw [d7]
              clear d7
              go_wp2
              exact ⟨_, rfl, Below.refl _ _, rfl, fun h => absurd h (by decide)⟩
            · refine OpOk.now rfl ?_
              have d8 : u 8 = _ := hd 8 (by omega) (by kernel_rfl)
              clear hb hd
              rw [d8]
              clear d8
              go_wp2
              exact ⟨_, rfl, Below.refl _ _, rfl, fun h => absurd h (by decide)⟩
            · have d8 : u 8 = _ := hd 8 (by omega) (by kernel_rfl)
              clear hb hd
              rw [d8]
              clear d8
              refine OpOk.late rfl ?_
              exact ⟨_, yields_extract rfl _ _ rfl _ rfl _ rfl, rfl⟩
            · have d8 : u 8 = _ := hd 8 (by omega) (by kernel_rfl)
              clear hb hd
              rw [d8]
              clear d8
              refine OpOk.late rfl ?_
              exact ⟨_, yields_extract rfl _ _ rfl _ rfl _ rfl, rfl⟩
            · refine OpOk.now rfl ?_
              have zz := hb.size
              clear hb hd
              go_wp2
              exact ⟨_, rfl, bal (Below.refl _ _) _, ⟨_, rfl, by omega, Blk.new _ _ _⟩, fun _ => ⟨_, rfl, Nat.le_refl _, by simp⟩⟩
          case htail4 =>
            intro u A w1 hA hb hd hf
            simp only [putAll, dstOf, List.getElem?_toArray, List.getElem?_cons_succ, List.getElem?_cons_zero, Option.bind_some, Option.bind, Act.put, List.setIfInBounds_toArray, List.set_cons_succ, List.set_cons_zero] at hA; subst hA
            have e0 : u 0 = _ := hd 0 (by omega)
            have e1 : u 1 = _ := hd 1 (by omega)
            have p2 := hd 2 (by omega)
            have e3 : u 3 = _ := hd 3 (by omega)
            have e4 : u 4 = _ := hd 4 (by omega)
            have p5 := hd 5 (by omega)
            have p6 := hd 6 (by omega)
            have e7 : u 7 = _ := hd 7 (by omega)
            have e8 : u 8 = _ := hd 8 (by omega)
            have e9 : u 9 = _ := hd 9 (by omega)
            have e10 : u 10 = _ := hd 10 (by omega)
            have e11 : u 11 = _ := hd 11 (by omega)
            obtain ⟨g12, e12, z12, b12⟩ := hd 12 (by omega)
            first | rw [e0, e1, e3, e4, e7, e8, e9, e10, e11, e12] | simp only [e0, e1, e3, e4, e7, e8, e9, e10, e11, e12]
            clear e0 e1 e3 e4 e7 e8 e9 e10 e11 e12
            clear hd hf
            have x0 := b12.cell 0
            have x1 := b12.cell 1
            have x2 := fun i => b12.frozen i
            go_wp2_with fail
            dsimp only [NoPanic]
            have HY := Lib.hid (show Blk _ g12 _ #[.int .i64 Y0, .int .i64 Y1] from (b12.set_ 0 (.int .i64 Y0)).set_ 1 (.int .i64 Y1))
            have hbS := bset (bset hb z12 (i := 0) (.int .i64 Y0)) z12 (i := 1) (.int .i64 Y1)
            have nHL := Lib.hid (HL.out.below hbS)
            have nHX := Lib.hid (HX.out.below hbS)
            have nHB := Lib.hid (bthen HB.out hbS)
            clear HL HX HB hbS
            have HL := nHL
            have HX := nHX
            have HB := nHB
            clear nHL nHX nHB
            clear hb b12
            generalize (w1.setCell ⟨g12, 0, none⟩ (.int .i64 Y0)).setCell ⟨g12, 1, none⟩ (.int .i64 Y1) = w2 at *
            clear x0 x1 x2 HK HK1 HK2 HQ HA HO
            have s0 := HL.out.lt
            have s1 := HX.out.lt
            have s2 := HY.out.lt
            have zHX := HX.out.lt
            have cHX0 := HX.out.cell 0
            have cHX1 := HX.out.cell 1
            have zHY := HY.out.lt
            have cHY0 := HY.out.cell 0
            have cHY1 := HY.out.cell 1
            have zHL := HL.out.lt
            have cHL0 := HL.out.cell 0
            have cHL1 := HL.out.cell 1
            rcases hQ1 with ⟨rfl, ex0, ex1, vx⟩ | rfl
            · rcases hQ2 with ⟨rfl, ey0, ey1, vy⟩ | rfl
              · have t0 : X0 + Y0 = V0 := by rw [ex0, ey0, HV0.out, ← lo_split, ← HKM.out]
                have t1 : X1 + Y1 = V1 := by rw [ex1, ey1, HV1.out, ← hi_split, ← HKM.out]
                have HAD := Lib.hid (fun w => show Calls Try.prog 46 #[.agg #[.int .i64 X0, .int .i64 X1], .agg #[.int .i64 Y0, .int .i64 Y1]] w fun e w' => e = .returned (.tuple #[.agg #[.int .i64 V0, .int .i64 V1], .int .i64 0]) ∧ Below w.heap.size w w' by have := Add_c X0 X1 Y0 Y1 w vx vy (by rw [t0, t1]; exact HVS.out); rw [t0, t1] at this; exact this)
                clear ex0 ex1 ey0 ey1 vx vy t0 t1
                go_wp2_with (first | (go_at_call 46; (with_reducible refine (HAD.out _).mono ?_); rintro e w1 ⟨rfl, hb1⟩; have nHL := Lib.hid (HL.out.below hb1); have nHB := Lib.hid (bthen HB.out hb1); have zz1 := hb1.size; clear HL HB hb1; have HL := nHL; have HB := nHB; clear nHL nHB; (try clear zHL); have zHL := HL.out.lt; (try clear cHL0); have cHL0 := HL.out.cell 0; (try clear cHL1); have cHL1 := HL.out.cell 1))
                have bHZ := Blk.new w1 34 #[.int .i64 V0, .int .i64 V1]
                have nHL := Lib.hid (HL.out.alloc (.cells #[.int .i64 V0, .int .i64 V1] 34))
                have nHB := Lib.hid (bal HB.out (.cells #[.int .i64 V0, .int .i64 V1] 34))
                clear HL HB
                have HL := nHL
                have HB := nHB
                clear nHL nHB
                generalize w1.alloc (.cells #[.int .i64 V0, .int .i64 V1] 34) = W2 at *
                generalize w1.heap.size = gHZ at *
                have HZ := Lib.hid bHZ
                clear bHZ
                have u0 := HZ.out.cell 0
                have u1 := HZ.out.cell 1
                have u2 := HL.out.cell 0
                have u3 := HL.out.cell 1
                go_wp2_with (first | (go_at_call 15; (with_reducible refine (works_c _).mono ?_); rintro e w1 ⟨rfl, hb1⟩; have nHL := Lib.hid (HL.out.below hb1); have nHB := Lib.hid (bthen HB.out hb1); have zz1 := hb1.size; clear HL HB hb1; have HL := nHL; have HB := nHB; clear nHL nHB))
                go_ret
                exact ⟨rfl, HB.out⟩
              · go_wp2_with fail
                go_ret
                exact ⟨rfl, HB.out⟩
            · rcases hQ2 with ⟨rfl, -⟩ | rfl
              all_goals
                go_wp2_with fail
                go_ret
                exact ⟨rfl, HB.out⟩
end Go.Proofs.Ytoembbcddhlokaa
