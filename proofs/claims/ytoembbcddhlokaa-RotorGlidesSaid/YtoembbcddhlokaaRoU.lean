/- Contracts: Glide of package rotor. -/
import Derived.Test.YtoembbcddhlokaaRoL
import Derived.Test.YtoembbcddhlokaaRfA
set_option linter.all false
namespace Go.Proofs.Ytoembbcddhlokaa
open Go Go.RowKit Go.Proofs
set_option maxRecDepth 100000
set_option maxHeartbeats 4000000

theorem Try.rowLooked : RowTy Try.prog 101 7 := ⟨by kernel_rfl, by kernel_rfl⟩

theorem glide1_c (hx hy hv gx gy gv lx ly lv px py pv nx ny nv ax ay av cx cy cv dx dy dv : Value) (cl bu : Int) (wl wh tl th el eh nl nh : Int) (S : Tabs) (b s c : Nat) (n : Int) (w : World) (hT : TblAt w dx dy dv S.d) (hM : Blk w b 27 #[hx, hy, hv, gx, gy, gv, lx, ly, lv, px, py, pv, nx, ny, nv, ax, ay, av, cx, cy, cv, dx, dy, dv, .int .i64 cl, .int .i64 bu]) (hS : Blk w s 3 #[.int .i64 n]) (hA : Blk w c 36 #[.int .i64 wl, .int .i64 wh, .int .i64 tl, .int .i64 th, .int .i64 el, .int .i64 eh, .int .i64 nl, .int .i64 nh]) :
   Calls Try.prog 84 #[.pointer (some ⟨b, 0, none⟩), .pointer (some ⟨s, 0, none⟩), .pointer (some ⟨c, 0, none⟩)] w fun e w' => e = .returned (.agg #[dx, dy, dv, .int .i64 n, .int .i64 n, .int .i64 wl, .int .i64 wh]) ∧ Below w.heap.size w w' := by
  obtain ⟨a1, n1, d1, rfl⟩ := hT.s1
  obtain ⟨a2, n2, d2, rfl⟩ := hT.s2
  obtain ⟨a3, n3, d3, rfl⟩ := hT.s3
  have HM := Lib.hid (hM.alloc (.cells #[.slice none 0 0, .slice none 0 0, .slice none 0 0, .int .i64 0, .int .i64 0, .int .i64 0, .int .i64 0] 101))
  have HS := Lib.hid (hS.alloc (.cells #[.slice none 0 0, .slice none 0 0, .slice none 0 0, .int .i64 0, .int .i64 0, .int .i64 0, .int .i64 0] 101))
  have HA := Lib.hid (hA.alloc (.cells #[.slice none 0 0, .slice none 0 0, .slice none 0 0, .int .i64 0, .int .i64 0, .int .i64 0, .int .i64 0] 101))
  have HZ := Lib.hid (Blk.new w 101 #[.slice none 0 0, .slice none 0 0, .slice none 0 0, .int .i64 0, .int .i64 0, .int .i64 0, .int .i64 0])
  have HB := Lib.hid (bal (Below.refl w.heap.size w) (.cells #[.slice none 0 0, .slice none 0 0, .slice none 0 0, .int .i64 0, .int .i64 0, .int .i64 0, .int .i64 0] 101))
  clear hM hS hA hT
  go_enter Try.func84, Try.ntmps84
  go_wp2
  generalize w.alloc (.cells #[.slice none 0 0, .slice none 0 0, .slice none 0 0, .int .i64 0, .int .i64 0, .int .i64 0, .int .i64 0] 101) = W at *
  have aHM21 := fun (r : After W) => (HM.out.below r.below).cell 21
  simp only [List.getElem?_toArray, List.getElem?_cons_succ, List.getElem?_cons_zero] at aHM21
  have aHM22 := fun (r : After W) => (HM.out.below r.below).cell 22
  simp only [List.getElem?_toArray, List.getElem?_cons_succ, List.getElem?_cons_zero] at aHM22
  have aHM23 := fun (r : After W) => (HM.out.below r.below).cell 23
  simp only [List.getElem?_toArray, List.getElem?_cons_succ, List.getElem?_cons_zero] at aHM23
  have aHS0 := fun (r : After W) => (HS.out.below r.below).cell 0
  simp only [List.getElem?_toArray, List.getElem?_cons_succ, List.getElem?_cons_zero] at aHS0
  have aHA0 := fun (r : After W) => (HA.out.below r.below).cell 0
  simp only [List.getElem?_toArray, List.getElem?_cons_succ, List.getElem?_cons_zero] at aHA0
  have aHA1 := fun (r : After W) => (HA.out.below r.below).cell 1
  simp only [List.getElem?_toArray, List.getElem?_cons_succ, List.getElem?_cons_zero] at aHA1
  (refine wp_region_aftert 7 (by kernel_rfl) (by kernel_rfl) ?_; simp only [List.take_succ_cons, List.take_zero, List.drop_succ_cons, List.drop_zero]; (repeat (go_big_quiet_step ( (go_at_call 85; (with_reducible refine qafter (one_c _ _)))))); refine wpQuiet_nil ?_; rintro _ ⟨r, rfl⟩)
  have BR := Lib.hid (bthen HB.out r.below)
  have HZ1 := Lib.hid (HZ.out.below r.below)
  have z0 := HZ1.out.cell 0
  have z1 := HZ1.out.cell 1
  have z2 := HZ1.out.cell 2
  have z3 := HZ1.out.cell 3
  have z4 := HZ1.out.cell 4
  have z5 := HZ1.out.cell 5
  have z6 := HZ1.out.cell 6
  have z7 := fun i => HZ1.out.frozen i
  clear aHM21 aHM22 aHM23 aHS0 aHA0 aHA1
  go_wp2
  exact bodyPost_ret (res_c rfl _ _ #[.slice a1 n1 d1, .slice a2 n2 d2, .slice a3 n3 d3, .int .i64 n, .int .i64 n, .int .i64 wl, .int .i64 wh] 7 rfl (((((((HZ1.out.set_ 0 _).set_ 1 _).set_ 2 _).set_ 3 _).set_ 4 _).set_ 5 _).set_ 6 _) Try.rowLooked rfl) rfl ⟨rfl, bset (bset (bset (bset (bset (bset (bset BR.out (by omega) _) (by omega) _) (by omega) _) (by omega) _) (by omega) _) (by omega) _) (by omega) _⟩

theorem glide2_c (hx hy hv gx gy gv lx ly lv px py pv nx ny nv ax ay av cx cy cv dx dy dv : Value) (cl bu : Int) (wl wh tl th el eh nl nh : Int) (S : Tabs) (f b s c : Nat) (n : Int) (w : World) (hT : TblAt w dx dy dv S.d) (hM : Blk w b 27 #[hx, hy, hv, gx, gy, gv, lx, ly, lv, px, py, pv, nx, ny, nv, ax, ay, av, cx, cy, cv, dx, dy, dv, .int .i64 cl, .int .i64 bu]) (hS : Blk w s 3 #[.int .i64 n]) (hA : Blk w c 36 #[.int .i64 wl, .int .i64 wh, .int .i64 tl, .int .i64 th, .int .i64 el, .int .i64 eh, .int .i64 nl, .int .i64 nh])
    (hF : Blk w f 106 #[.func (.func 84) #[] #[.pointer (some ⟨b, 0, none⟩), .pointer (some ⟨s, 0, none⟩), .pointer (some ⟨c, 0, none⟩)]]) (h1 : rightB S.d 1 10000 = true) :
   Calls Try.prog 86 #[.pointer (some ⟨f, 0, none⟩)] w fun e w' => ∃ v, e = .returned v ∧ Looks w' v 1 (look1 ⟨S.d, n, n, wl, wh⟩) ∧ Below w.heap.size w w' := by
  have HC := Lib.hid (glide1_c hx hy hv gx gy gv lx ly lv px py pv nx ny nv ax ay av cx cy cv dx dy dv cl bu wl wh tl th el eh nl nh S b s c n w hT hM hS hA)
  have HP := Lib.hid (lkE_pos h1)
  have HT := Lib.hid hT
  have c0 := hF.cell 0
  clear hM hS hA hF h1
  obtain ⟨a1, n1, d1, rfl⟩ := hT.s1
  obtain ⟨a2, n2, d2, rfl⟩ := hT.s2
  obtain ⟨a3, n3, d3, rfl⟩ := hT.s3
  clear hT
  go_enter Try.func86, Try.ntmps86
  go_wp2_with (first | (go_at_call 84; (with_reducible refine HC.out.mono ?_); rintro e w1 ⟨rfl, hb1⟩; have HB1 := Lib.hid hb1; clear hb1))
  go_ret
  exact ⟨_, rfl, looks1 (a := ⟨S.d, n, n, wl, wh⟩) (Blk.new _ _ _) (HT.out.below (bal HB1.out _)) HP.out.1 HP.out.2, bal HB1.out _⟩

theorem glide3_c (x b0 b1 : Int) (g : Nat) (w : World) (hG : Blk w g 34 #[.int .i64 b0, .int .i64 b1]) (h0 : 0 ≤ x) (h1 : x ≤ 1000000000000) (h2 : 1 ≤ b0) (h3 : b0 ≤ 10000) (h4 : 1 ≤ b1) (h5 : b1 ≤ 10000) :
   Calls Try.prog 87 #[.int .i64 x, .pointer (some ⟨g, 0, none⟩)] w fun e w' => e = .returned (.agg #[.int .i64 (x / b1), .int .i64 (cdiv x b0)]) ∧ Below w.heap.size w w' := by
  rw [← up_eq h2]
  have HG := Lib.hid (hG.alloc (.cells #[.int .i64 0, .int .i64 0] 34))
  have HZ := Lib.hid (Blk.new w 34 #[.int .i64 0, .int .i64 0])
  have HB := Lib.hid (bal (Below.refl w.heap.size w) (.cells #[.int .i64 0, .int .i64 0] 34))
  clear hG
  go_enter Try.func87, Try.ntmps87
  go_wp2
  generalize w.alloc (.cells #[.int .i64 0, .int .i64 0] 34) = W at *
  have g0 := HG.out.cell 0
  have g1 := HG.out.cell 1
  (refine wp_region_drawnt 13 (by kernel_rfl) (by kernel_rfl) ?_; simp only [List.take_succ_cons, List.take_zero, List.drop_succ_cons, List.drop_zero]; (repeat (go_big_quiet_step ( fail))); refine wpQuiet_nil ?_; rintro _ ⟨nq, rfl⟩)
  have HZ1 := Lib.hid (Blk.below HZ.out (bdn (Below.refl W.heap.size W) nq))
  have z0 := HZ1.out.cell 0
  have z1 := HZ1.out.cell 1
  have z2 := fun i => HZ1.out.frozen i
  clear g0 g1
  go_wp2
  exact bodyPost_ret (res_c rfl _ _ #[.int .i64 (x / b1), .int .i64 ((x + b0 - 1) / b0)] 2 rfl ((HZ1.out.set_ 0 _).set_ 1 _) Try.rowSpan rfl) rfl ⟨rfl, bset (bset (bdn HB.out _) (by omega) _) (by omega) _⟩

def gliE (S : Tabs) (cl bu : Int) (wl wh tl th el eh nl nh : Int) (n h : Int) : Int := chkE (rotB S cl bu) (airB wl wh tl th el eh nl nh) false (!lkE S.d n n wl wh || (!inB n 0 1000000 || !inB h 0 1000000))
def gliV (S : Tabs) (wl wh n h : Int) : Bool := vspan (h / bHi S.d n n wl wh) (cdiv h (bLo S.d n n wl wh)) && vspan (n * h / bHi S.d n n wl wh) (cdiv (n * h) (bLo S.d n n wl wh))
def gliX (S : Tabs) (cl bu : Int) (wl wh tl th el eh nl nh : Int) (n h : Int) : Int := if gliE S cl bu wl wh tl th el eh nl nh n h = 0 then (if gliV S wl wh n h then 0 else 2) else gliE S cl bu wl wh tl th el eh nl nh n h
def gliT0 (S : Tabs) (cl bu : Int) (wl wh tl th el eh nl nh : Int) (n h : Int) : Int := okN (gliX S cl bu wl wh tl th el eh nl nh n h) (h / bHi S.d n n wl wh)
def gliT1 (S : Tabs) (cl bu : Int) (wl wh tl th el eh nl nh : Int) (n h : Int) : Int := okN (gliX S cl bu wl wh tl th el eh nl nh n h) (cdiv h (bLo S.d n n wl wh))
def gliF0 (S : Tabs) (cl bu : Int) (wl wh tl th el eh nl nh : Int) (n h : Int) : Int := okN (gliX S cl bu wl wh tl th el eh nl nh n h) (n * h / bHi S.d n n wl wh)
def gliF1 (S : Tabs) (cl bu : Int) (wl wh tl th el eh nl nh : Int) (n h : Int) : Int := okN (gliX S cl bu wl wh tl th el eh nl nh n h) (cdiv (n * h) (bLo S.d n n wl wh))
theorem gliX_e {S : Tabs} {cl bu wl wh tl th el eh nl nh n h : Int} (hE : gliE S cl bu wl wh tl th el eh nl nh n h ≠ 0) : gliX S cl bu wl wh tl th el eh nl nh n h = gliE S cl bu wl wh tl th el eh nl nh n h := by unfold gliX; rw [if_neg hE]
theorem gliX_o {S : Tabs} {cl bu wl wh tl th el eh nl nh n h : Int} (hE : gliE S cl bu wl wh tl th el eh nl nh n h = 0) : gliX S cl bu wl wh tl th el eh nl nh n h = if gliV S wl wh n h then 0 else 2 := by unfold gliX; rw [if_pos hE]
/-- The first error of Glide. -/
def gliC (S : Tabs) (cl bu : Int) (wl wh tl th el eh nl nh : Int) (n : Int) : Int := chkE (rotB S cl bu) (airB wl wh tl th el eh nl nh) false (!lkE S.d n n wl wh)
theorem gliC_no {S : Tabs} {cl bu wl wh tl th el eh nl nh n h : Int} (hE : gliC S cl bu wl wh tl th el eh nl nh n ≠ 0) : gliE S cl bu wl wh tl th el eh nl nh n h = gliC S cl bu wl wh tl th el eh nl nh n := by
  unfold gliC gliE at *
  generalize rotB S cl bu = a1 at *
  generalize airB wl wh tl th el eh nl nh = a2 at *
  generalize lkE S.d n n wl wh = a3 at *
  cases a1 <;> cases a2 <;> cases a3 <;> simp [chkE] at hE ⊢
theorem gliC_ok {S : Tabs} {cl bu wl wh tl th el eh nl nh n h : Int} (hE : gliC S cl bu wl wh tl th el eh nl nh n = 0) : gliE S cl bu wl wh tl th el eh nl nh n h = (if inB n 0 1000000 && inB h 0 1000000 then 0 else 1) ∧ rotB S cl bu = true ∧ Fits S.d n n wl wh := by
  have hE' := hE
  unfold gliC at hE'
  obtain ⟨h1, h2, -, h4⟩ := chkE_zero hE'
  simp only [Bool.not_eq_false'] at h4
  have h2' := h2
  unfold airB at h2'; simp only [Bool.and_eq_true] at h2'
  refine ⟨?_, h1, ?_⟩
  · unfold gliE; rw [h1, h2, h4]
    cases inB n 0 1000000 <;> cases inB h 0 1000000 <;> rfl
  · have hl := h4
    have hX := tblB_X (right_t (rotB_d h1))
    have lX := axisB_len hX
    have r0 := axisB_range hX (k := 0) (by omega)
    have r1 := axisB_range hX (k := S.d.X.length - 1) (by omega)
    unfold lkE liesB at hl
    simp only [Bool.and_eq_true, decide_eq_true_eq] at hl
    exact Fits.mk' (rotB_d h1) (by unfold vspan inB; simp only [Bool.and_eq_true, decide_eq_true_eq]; omega) h2'.1.1.1 h4

theorem Glide_c (hx hy hv gx gy gv lx ly lv px py pv nx ny nv ax ay av cx cy cv dx dy dv : Value) (cl bu : Int) (wl wh tl th el eh nl nh : Int) (S : Tabs) (n h : Int) (w : World) (hR : RotAt w hx hy hv gx gy gv lx ly lv px py pv nx ny nv ax ay av cx cy cv dx dy dv cl bu S) (hn : I64 n) (hh : I64 h) :
   Calls Try.prog 35 #[.agg #[hx, hy, hv, gx, gy, gv, lx, ly, lv, px, py, pv, nx, ny, nv, ax, ay, av, cx, cy, cv, dx, dy, dv, .int .i64 cl, .int .i64 bu], .agg #[.int .i64 wl, .int .i64 wh, .int .i64 tl, .int .i64 th, .int .i64 el, .int .i64 eh, .int .i64 nl, .int .i64 nh], .int .i64 n, .int .i64 h] w fun e w' => e = .returned (.tuple #[.agg #[.int .i64 (gliT0 S cl bu wl wh tl th el eh nl nh n h), .int .i64 (gliT1 S cl bu wl wh tl th el eh nl nh n h)], .agg #[.int .i64 (gliF0 S cl bu wl wh tl th el eh nl nh n h), .int .i64 (gliF1 S cl bu wl wh tl th el eh nl nh n h)], .int .i64 (gliX S cl bu wl wh tl th el eh nl nh n h)]) ∧ Below w.heap.size w w' := by
  have HR := Lib.hid hR
  have hc := fun w1 hR hT => check_c hx hy hv gx gy gv lx ly lv px py pv nx ny nv ax ay av cx cy cv dx dy dv cl bu wl wh tl th el eh nl nh S none 0 0 (fun _ => 0) (fun _ => 0) 86 #[.pointer (some ⟨w.heap.size + 1 + 1 + 1 + 1 + 1, 0, none⟩)] 1 (look1 ⟨S.d, n, n, wl, wh⟩) w1 hR (by omega) (fun h => absurd h (by omega)) (enters_of Try.func86 (by kernel_rfl) rfl) hT
  rw [show chkE (rotB S cl bu) (airB wl wh tl th el eh nl nh) (anyBad 0 (fun _ => 0) (fun _ => 0)) (offL 1 (look1 ⟨S.d, n, n, wl, wh⟩)) = gliC S cl bu wl wh tl th el eh nl nh n by rw [offL1]; rfl] at hc
  clear hR
  unfold gliT0 gliT1 gliF0 gliF1
  by_cases hE : gliC S cl bu wl wh tl th el eh nl nh n = 0
  case neg =>
    have hne : (gliC S cl bu wl wh tl th el eh nl nh n != 0) = true := by simpa using hE
    rw [gliX_e (by rw [gliC_no hE]; exact hE), gliC_no hE, okN_no hE, okN_no hE, okN_no hE, okN_no hE]
    have HC := Lib.hid hc
    generalize gliC S cl bu wl wh tl th el eh nl nh n = E at *
    have HI1 := trivial
    have HI2 := trivial
    have B := trivial
    clear hE hc
    go_enter Try.func35, Try.ntmps35
    go_wp2_with (first | (refine wpl_row rfl 27 _ rfl _ rfl #[hx, hy, hv, gx, gy, gv, lx, ly, lv, px, py, pv, nx, ny, nv, ax, ay, av, cx, cy, cv, dx, dy, dv, .int .i64 cl, .int .i64 bu] 26 ?_ Try.rowRot rfl ?_; (focus exact (by repeat (first | (refine Blk.newAt _ _ _ ?_; first | rfl | (simp; done)) | refine Blk.alloc ?_ _))); simp only [Act.put]) | (refine wpl_row rfl 36 _ rfl _ rfl #[.int .i64 wl, .int .i64 wh, .int .i64 tl, .int .i64 th, .int .i64 el, .int .i64 eh, .int .i64 nl, .int .i64 nh] 8 ?_ Try.rowAir rfl ?_; (focus exact (by repeat (first | (refine Blk.newAt _ _ _ ?_; first | rfl | (simp; done)) | refine Blk.alloc ?_ _))); simp only [Act.put]))
    have bHM : Blk ((((((w.alloc (.cells #[hx, hy, hv, gx, gy, gv, lx, ly, lv, px, py, pv, nx, ny, nv, ax, ay, av, cx, cy, cv, dx, dy, dv, .int .i64 cl, .int .i64 bu] 27)).alloc (.cells #[.int .i64 wl, .int .i64 wh, .int .i64 tl, .int .i64 th, .int .i64 el, .int .i64 eh, .int .i64 nl, .int .i64 nh] 36)).alloc (.cells #[.int .i64 n] 3)).alloc (.cells #[.int .i64 0, .int .i64 0] 34)).alloc (.cells #[.int .i64 0, .int .i64 0] 34)).alloc (.cells #[.func (.func 84) #[] #[.pointer (some ⟨w.heap.size, 0, none⟩), .pointer (some ⟨w.heap.size + 1 + 1, 0, none⟩), .pointer (some ⟨w.heap.size + 1, 0, none⟩)]] 106)) (w.heap.size) 27 #[hx, hy, hv, gx, gy, gv, lx, ly, lv, px, py, pv, nx, ny, nv, ax, ay, av, cx, cy, cv, dx, dy, dv, .int .i64 cl, .int .i64 bu] := (by repeat (first | (refine Blk.newAt _ _ _ ?_; first | rfl | (simp; done)) | refine Blk.alloc ?_ _))
    have bHA : Blk ((((((w.alloc (.cells #[hx, hy, hv, gx, gy, gv, lx, ly, lv, px, py, pv, nx, ny, nv, ax, ay, av, cx, cy, cv, dx, dy, dv, .int .i64 cl, .int .i64 bu] 27)).alloc (.cells #[.int .i64 wl, .int .i64 wh, .int .i64 tl, .int .i64 th, .int .i64 el, .int .i64 eh, .int .i64 nl, .int .i64 nh] 36)).alloc (.cells #[.int .i64 n] 3)).alloc (.cells #[.int .i64 0, .int .i64 0] 34)).alloc (.cells #[.int .i64 0, .int .i64 0] 34)).alloc (.cells #[.func (.func 84) #[] #[.pointer (some ⟨w.heap.size, 0, none⟩), .pointer (some ⟨w.heap.size + 1 + 1, 0, none⟩), .pointer (some ⟨w.heap.size + 1, 0, none⟩)]] 106)) (w.heap.size + 1) 36 #[.int .i64 wl, .int .i64 wh, .int .i64 tl, .int .i64 th, .int .i64 el, .int .i64 eh, .int .i64 nl, .int .i64 nh] := (by repeat (first | (refine Blk.newAt _ _ _ ?_; first | rfl | (simp; done)) | refine Blk.alloc ?_ _))
    have bHI : Blk ((((((w.alloc (.cells #[hx, hy, hv, gx, gy, gv, lx, ly, lv, px, py, pv, nx, ny, nv, ax, ay, av, cx, cy, cv, dx, dy, dv, .int .i64 cl, .int .i64 bu] 27)).alloc (.cells #[.int .i64 wl, .int .i64 wh, .int .i64 tl, .int .i64 th, .int .i64 el, .int .i64 eh, .int .i64 nl, .int .i64 nh] 36)).alloc (.cells #[.int .i64 n] 3)).alloc (.cells #[.int .i64 0, .int .i64 0] 34)).alloc (.cells #[.int .i64 0, .int .i64 0] 34)).alloc (.cells #[.func (.func 84) #[] #[.pointer (some ⟨w.heap.size, 0, none⟩), .pointer (some ⟨w.heap.size + 1 + 1, 0, none⟩), .pointer (some ⟨w.heap.size + 1, 0, none⟩)]] 106)) (w.heap.size + 1 + 1) 3 #[.int .i64 n] := (by repeat (first | (refine Blk.newAt _ _ _ ?_; first | rfl | (simp; done)) | refine Blk.alloc ?_ _))
    have bHY : Blk ((((((w.alloc (.cells #[hx, hy, hv, gx, gy, gv, lx, ly, lv, px, py, pv, nx, ny, nv, ax, ay, av, cx, cy, cv, dx, dy, dv, .int .i64 cl, .int .i64 bu] 27)).alloc (.cells #[.int .i64 wl, .int .i64 wh, .int .i64 tl, .int .i64 th, .int .i64 el, .int .i64 eh, .int .i64 nl, .int .i64 nh] 36)).alloc (.cells #[.int .i64 n] 3)).alloc (.cells #[.int .i64 0, .int .i64 0] 34)).alloc (.cells #[.int .i64 0, .int .i64 0] 34)).alloc (.cells #[.func (.func 84) #[] #[.pointer (some ⟨w.heap.size, 0, none⟩), .pointer (some ⟨w.heap.size + 1 + 1, 0, none⟩), .pointer (some ⟨w.heap.size + 1, 0, none⟩)]] 106)) (w.heap.size + 1 + 1 + 1) 34 #[.int .i64 0, .int .i64 0] := (by repeat (first | (refine Blk.newAt _ _ _ ?_; first | rfl | (simp; done)) | refine Blk.alloc ?_ _))
    have bHZ : Blk ((((((w.alloc (.cells #[hx, hy, hv, gx, gy, gv, lx, ly, lv, px, py, pv, nx, ny, nv, ax, ay, av, cx, cy, cv, dx, dy, dv, .int .i64 cl, .int .i64 bu] 27)).alloc (.cells #[.int .i64 wl, .int .i64 wh, .int .i64 tl, .int .i64 th, .int .i64 el, .int .i64 eh, .int .i64 nl, .int .i64 nh] 36)).alloc (.cells #[.int .i64 n] 3)).alloc (.cells #[.int .i64 0, .int .i64 0] 34)).alloc (.cells #[.int .i64 0, .int .i64 0] 34)).alloc (.cells #[.func (.func 84) #[] #[.pointer (some ⟨w.heap.size, 0, none⟩), .pointer (some ⟨w.heap.size + 1 + 1, 0, none⟩), .pointer (some ⟨w.heap.size + 1, 0, none⟩)]] 106)) (w.heap.size + 1 + 1 + 1 + 1) 34 #[.int .i64 0, .int .i64 0] := (by repeat (first | (refine Blk.newAt _ _ _ ?_; first | rfl | (simp; done)) | refine Blk.alloc ?_ _))
    have bHF : Blk ((((((w.alloc (.cells #[hx, hy, hv, gx, gy, gv, lx, ly, lv, px, py, pv, nx, ny, nv, ax, ay, av, cx, cy, cv, dx, dy, dv, .int .i64 cl, .int .i64 bu] 27)).alloc (.cells #[.int .i64 wl, .int .i64 wh, .int .i64 tl, .int .i64 th, .int .i64 el, .int .i64 eh, .int .i64 nl, .int .i64 nh] 36)).alloc (.cells #[.int .i64 n] 3)).alloc (.cells #[.int .i64 0, .int .i64 0] 34)).alloc (.cells #[.int .i64 0, .int .i64 0] 34)).alloc (.cells #[.func (.func 84) #[] #[.pointer (some ⟨w.heap.size, 0, none⟩), .pointer (some ⟨w.heap.size + 1 + 1, 0, none⟩), .pointer (some ⟨w.heap.size + 1, 0, none⟩)]] 106)) (w.heap.size + 1 + 1 + 1 + 1 + 1) 106 #[.func (.func 84) #[] #[.pointer (some ⟨w.heap.size, 0, none⟩), .pointer (some ⟨w.heap.size + 1 + 1, 0, none⟩), .pointer (some ⟨w.heap.size + 1, 0, none⟩)]] := (by repeat (first | (refine Blk.newAt _ _ _ ?_; first | rfl | (simp; done)) | refine Blk.alloc ?_ _))
    have bHB : Below w.heap.size w ((((((w.alloc (.cells #[hx, hy, hv, gx, gy, gv, lx, ly, lv, px, py, pv, nx, ny, nv, ax, ay, av, cx, cy, cv, dx, dy, dv, .int .i64 cl, .int .i64 bu] 27)).alloc (.cells #[.int .i64 wl, .int .i64 wh, .int .i64 tl, .int .i64 th, .int .i64 el, .int .i64 eh, .int .i64 nl, .int .i64 nh] 36)).alloc (.cells #[.int .i64 n] 3)).alloc (.cells #[.int .i64 0, .int .i64 0] 34)).alloc (.cells #[.int .i64 0, .int .i64 0] 34)).alloc (.cells #[.func (.func 84) #[] #[.pointer (some ⟨w.heap.size, 0, none⟩), .pointer (some ⟨w.heap.size + 1 + 1, 0, none⟩), .pointer (some ⟨w.heap.size + 1, 0, none⟩)]] 106)) := (by repeat' (first | exact Below.refl _ _ | assumption | refine Below.drew ?_ | refine bdn ?_ _ | refine bal ?_ _ | refine Below.setCell ?_ (by first | (simp; done) | omega | (simp; omega)) _))
    generalize ((((((w.alloc (.cells #[hx, hy, hv, gx, gy, gv, lx, ly, lv, px, py, pv, nx, ny, nv, ax, ay, av, cx, cy, cv, dx, dy, dv, .int .i64 cl, .int .i64 bu] 27)).alloc (.cells #[.int .i64 wl, .int .i64 wh, .int .i64 tl, .int .i64 th, .int .i64 el, .int .i64 eh, .int .i64 nl, .int .i64 nh] 36)).alloc (.cells #[.int .i64 n] 3)).alloc (.cells #[.int .i64 0, .int .i64 0] 34)).alloc (.cells #[.int .i64 0, .int .i64 0] 34)).alloc (.cells #[.func (.func 84) #[] #[.pointer (some ⟨w.heap.size, 0, none⟩), .pointer (some ⟨w.heap.size + 1 + 1, 0, none⟩), .pointer (some ⟨w.heap.size + 1, 0, none⟩)]] 106)) = W at *
    have zW := bHF.lt
    have HM := Lib.hid bHM
    have HA := Lib.hid bHA
    have HI := Lib.hid bHI
    have HY := Lib.hid bHY
    have HZ := Lib.hid bHZ
    have HF := Lib.hid bHF
    have HB := Lib.hid bHB
    clear bHM bHA bHI bHY bHZ bHF bHB
    go_wp2_with (first | (go_at_call 66; refine (HC.out _ (HR.out.below HB.out) (fun hr W' hW => glide2_c hx hy hv gx gy gv lx ly lv px py pv nx ny nv ax ay av cx cy cv dx dy dv cl bu wl wh tl th el eh nl nh S _ _ _ _ n W' (HR.out.d.below (bthen HB.out hW)) (HM.out.below hW) (HI.out.below hW) (HA.out.below hW) (HF.out.below hW) (rotB_d hr))).mono ?_; rintro e w1 ⟨rfl, hb1⟩; have nHM := Lib.hid (HM.out.below hb1); have nHA := Lib.hid (HA.out.below hb1); have nHI := Lib.hid (HI.out.below hb1); have nHY := Lib.hid (HY.out.below hb1); have nHZ := Lib.hid (HZ.out.below hb1); have nHF := Lib.hid (HF.out.below hb1); have nHB := Lib.hid (bthen HB.out hb1); have zz1 := hb1.size; clear HM HA HI HY HZ HF HB hb1; have HM := nHM; have HA := nHA; have HI := nHI; have HY := nHY; have HZ := nHZ; have HF := nHF; have HB := nHB; clear nHM nHA nHI nHY nHZ nHF nHB; (try clear zHI); have zHI := HI.out.lt; (try clear cHI0); have cHI0 := HI.out.cell 0; (try clear zHY); have zHY := HY.out.lt; (try clear cHY0); have cHY0 := HY.out.cell 0; (try clear cHY1); have cHY1 := HY.out.cell 1; (try clear fHY); have fHY := fun i => HY.out.frozen i; (try clear zHZ); have zHZ := HZ.out.lt; (try clear cHZ0); have cHZ0 := HZ.out.cell 0; (try clear cHZ1); have cHZ1 := HZ.out.cell 1; (try clear fHZ); have fHZ := fun i => HZ.out.frozen i; (try clear zHF); have zHF := HF.out.lt; (try clear cHF0); have cHF0 := HF.out.cell 0) | (go_at_call 53; (with_reducible refine (HI1.out _).mono ?_); rintro e w3 ⟨rfl, rfl⟩) | (go_at_call 53; (with_reducible refine (HI2.out _).mono ?_); rintro e w3 ⟨rfl, rfl⟩) | (go_at_call 84; (with_reducible refine (glide1_c hx hy hv gx gy gv lx ly lv px py pv nx ny nv ax ay av cx cy cv dx dy dv cl bu wl wh tl th el eh nl nh S _ _ _ n _ (HR.out.d.below HB.out) HM.out HI.out HA.out).mono ?_); rintro e w1 ⟨rfl, hb1⟩; have nHI := Lib.hid (HI.out.below hb1); have nHY := Lib.hid (HY.out.below hb1); have nHZ := Lib.hid (HZ.out.below hb1); have nHB := Lib.hid (bthen HB.out hb1); have zz1 := hb1.size; clear HI HY HZ HB hb1; have HI := nHI; have HY := nHY; have HZ := nHZ; have HB := nHB; clear nHI nHY nHZ nHB; (try clear zHI); have zHI := HI.out.lt; (try clear cHI0); have cHI0 := HI.out.cell 0) | (go_at_call 79; (with_reducible refine (B.out _ _ _ _ (HR.out.d.below HB.out) HF0.out).mono ?_); rintro e w1 ⟨rfl, hb1⟩; have nHI := Lib.hid (HI.out.below hb1); have nHY := Lib.hid (HY.out.below hb1); have nHZ := Lib.hid (HZ.out.below hb1); have nHB := Lib.hid (bthen HB.out hb1); have zz1 := hb1.size; clear HI HY HZ HB hb1; have HI := nHI; have HY := nHY; have HZ := nHZ; have HB := nHB; clear nHI nHY nHZ nHB; (try clear zHI); have zHI := HI.out.lt; (try clear cHI0); have cHI0 := HI.out.cell 0))
    exact bodyPost_ret (res_cct rfl _ _ _ #[.int .i64 0, .int .i64 0] #[.int .i64 0, .int .i64 0] 2 2 rfl rfl ((((HY.out.set_ 0 _).set_ 1 _).far' (by omega) _).far' (by omega) _) Try.rowSpan rfl ((((HZ.out.far' (by omega) _).far' (by omega) _).set_ 0 _).set_ 1 _) Try.rowSpan rfl) rfl ⟨rfl, (bset (bset (bset (bset HB.out (by omega) _) (by omega) _) (by omega) _) (by omega) _)⟩
  obtain ⟨e0, hr, hF⟩ := gliC_ok (h := h) hE
  rw [hE] at hc
  have HC := Lib.hid hc
  clear hc hE
  have HI1 := Lib.hid (fun w => ro_within_c n 0 1000000 w)
  have HI2 := Lib.hid (fun w => ro_within_c h 0 1000000 w)
  cases c1 : inB n 0 1000000
  case false =>
    rw [c1, Bool.false_and, if_neg (by decide)] at e0
    rw [gliX_e (by rw [e0]; decide), e0, okN_no (by decide), okN_no (by decide), okN_no (by decide), okN_no (by decide)]
    rw [c1] at HI1
    have B := trivial
    clear e0 hr hF c1
    go_enter Try.func35, Try.ntmps35
    go_wp2_with (first | (refine wpl_row rfl 27 _ rfl _ rfl #[hx, hy, hv, gx, gy, gv, lx, ly, lv, px, py, pv, nx, ny, nv, ax, ay, av, cx, cy, cv, dx, dy, dv, .int .i64 cl, .int .i64 bu] 26 ?_ Try.rowRot rfl ?_; (focus exact (by repeat (first | (refine Blk.newAt _ _ _ ?_; first | rfl | (simp; done)) | refine Blk.alloc ?_ _))); simp only [Act.put]) | (refine wpl_row rfl 36 _ rfl _ rfl #[.int .i64 wl, .int .i64 wh, .int .i64 tl, .int .i64 th, .int .i64 el, .int .i64 eh, .int .i64 nl, .int .i64 nh] 8 ?_ Try.rowAir rfl ?_; (focus exact (by repeat (first | (refine Blk.newAt _ _ _ ?_; first | rfl | (simp; done)) | refine Blk.alloc ?_ _))); simp only [Act.put]))
    have bHM : Blk ((((((w.alloc (.cells #[hx, hy, hv, gx, gy, gv, lx, ly, lv, px, py, pv, nx, ny, nv, ax, ay, av, cx, cy, cv, dx, dy, dv, .int .i64 cl, .int .i64 bu] 27)).alloc (.cells #[.int .i64 wl, .int .i64 wh, .int .i64 tl, .int .i64 th, .int .i64 el, .int .i64 eh, .int .i64 nl, .int .i64 nh] 36)).alloc (.cells #[.int .i64 n] 3)).alloc (.cells #[.int .i64 0, .int .i64 0] 34)).alloc (.cells #[.int .i64 0, .int .i64 0] 34)).alloc (.cells #[.func (.func 84) #[] #[.pointer (some ⟨w.heap.size, 0, none⟩), .pointer (some ⟨w.heap.size + 1 + 1, 0, none⟩), .pointer (some ⟨w.heap.size + 1, 0, none⟩)]] 106)) (w.heap.size) 27 #[hx, hy, hv, gx, gy, gv, lx, ly, lv, px, py, pv, nx, ny, nv, ax, ay, av, cx, cy, cv, dx, dy, dv, .int .i64 cl, .int .i64 bu] := (by repeat (first | (refine Blk.newAt _ _ _ ?_; first | rfl | (simp; done)) | refine Blk.alloc ?_ _))
    have bHA : Blk ((((((w.alloc (.cells #[hx, hy, hv, gx, gy, gv, lx, ly, lv, px, py, pv, nx, ny, nv, ax, ay, av, cx, cy, cv, dx, dy, dv, .int .i64 cl, .int .i64 bu] 27)).alloc (.cells #[.int .i64 wl, .int .i64 wh, .int .i64 tl, .int .i64 th, .int .i64 el, .int .i64 eh, .int .i64 nl, .int .i64 nh] 36)).alloc (.cells #[.int .i64 n] 3)).alloc (.cells #[.int .i64 0, .int .i64 0] 34)).alloc (.cells #[.int .i64 0, .int .i64 0] 34)).alloc (.cells #[.func (.func 84) #[] #[.pointer (some ⟨w.heap.size, 0, none⟩), .pointer (some ⟨w.heap.size + 1 + 1, 0, none⟩), .pointer (some ⟨w.heap.size + 1, 0, none⟩)]] 106)) (w.heap.size + 1) 36 #[.int .i64 wl, .int .i64 wh, .int .i64 tl, .int .i64 th, .int .i64 el, .int .i64 eh, .int .i64 nl, .int .i64 nh] := (by repeat (first | (refine Blk.newAt _ _ _ ?_; first | rfl | (simp; done)) | refine Blk.alloc ?_ _))
    have bHI : Blk ((((((w.alloc (.cells #[hx, hy, hv, gx, gy, gv, lx, ly, lv, px, py, pv, nx, ny, nv, ax, ay, av, cx, cy, cv, dx, dy, dv, .int .i64 cl, .int .i64 bu] 27)).alloc (.cells #[.int .i64 wl, .int .i64 wh, .int .i64 tl, .int .i64 th, .int .i64 el, .int .i64 eh, .int .i64 nl, .int .i64 nh] 36)).alloc (.cells #[.int .i64 n] 3)).alloc (.cells #[.int .i64 0, .int .i64 0] 34)).alloc (.cells #[.int .i64 0, .int .i64 0] 34)).alloc (.cells #[.func (.func 84) #[] #[.pointer (some ⟨w.heap.size, 0, none⟩), .pointer (some ⟨w.heap.size + 1 + 1, 0, none⟩), .pointer (some ⟨w.heap.size + 1, 0, none⟩)]] 106)) (w.heap.size + 1 + 1) 3 #[.int .i64 n] := (by repeat (first | (refine Blk.newAt _ _ _ ?_; first | rfl | (simp; done)) | refine Blk.alloc ?_ _))
    have bHY : Blk ((((((w.alloc (.cells #[hx, hy, hv, gx, gy, gv, lx, ly, lv, px, py, pv, nx, ny, nv, ax, ay, av, cx, cy, cv, dx, dy, dv, .int .i64 cl, .int .i64 bu] 27)).alloc (.cells #[.int .i64 wl, .int .i64 wh, .int .i64 tl, .int .i64 th, .int .i64 el, .int .i64 eh, .int .i64 nl, .int .i64 nh] 36)).alloc (.cells #[.int .i64 n] 3)).alloc (.cells #[.int .i64 0, .int .i64 0] 34)).alloc (.cells #[.int .i64 0, .int .i64 0] 34)).alloc (.cells #[.func (.func 84) #[] #[.pointer (some ⟨w.heap.size, 0, none⟩), .pointer (some ⟨w.heap.size + 1 + 1, 0, none⟩), .pointer (some ⟨w.heap.size + 1, 0, none⟩)]] 106)) (w.heap.size + 1 + 1 + 1) 34 #[.int .i64 0, .int .i64 0] := (by repeat (first | (refine Blk.newAt _ _ _ ?_; first | rfl | (simp; done)) | refine Blk.alloc ?_ _))
    have bHZ : Blk ((((((w.alloc (.cells #[hx, hy, hv, gx, gy, gv, lx, ly, lv, px, py, pv, nx, ny, nv, ax, ay, av, cx, cy, cv, dx, dy, dv, .int .i64 cl, .int .i64 bu] 27)).alloc (.cells #[.int .i64 wl, .int .i64 wh, .int .i64 tl, .int .i64 th, .int .i64 el, .int .i64 eh, .int .i64 nl, .int .i64 nh] 36)).alloc (.cells #[.int .i64 n] 3)).alloc (.cells #[.int .i64 0, .int .i64 0] 34)).alloc (.cells #[.int .i64 0, .int .i64 0] 34)).alloc (.cells #[.func (.func 84) #[] #[.pointer (some ⟨w.heap.size, 0, none⟩), .pointer (some ⟨w.heap.size + 1 + 1, 0, none⟩), .pointer (some ⟨w.heap.size + 1, 0, none⟩)]] 106)) (w.heap.size + 1 + 1 + 1 + 1) 34 #[.int .i64 0, .int .i64 0] := (by repeat (first | (refine Blk.newAt _ _ _ ?_; first | rfl | (simp; done)) | refine Blk.alloc ?_ _))
    have bHF : Blk ((((((w.alloc (.cells #[hx, hy, hv, gx, gy, gv, lx, ly, lv, px, py, pv, nx, ny, nv, ax, ay, av, cx, cy, cv, dx, dy, dv, .int .i64 cl, .int .i64 bu] 27)).alloc (.cells #[.int .i64 wl, .int .i64 wh, .int .i64 tl, .int .i64 th, .int .i64 el, .int .i64 eh, .int .i64 nl, .int .i64 nh] 36)).alloc (.cells #[.int .i64 n] 3)).alloc (.cells #[.int .i64 0, .int .i64 0] 34)).alloc (.cells #[.int .i64 0, .int .i64 0] 34)).alloc (.cells #[.func (.func 84) #[] #[.pointer (some ⟨w.heap.size, 0, none⟩), .pointer (some ⟨w.heap.size + 1 + 1, 0, none⟩), .pointer (some ⟨w.heap.size + 1, 0, none⟩)]] 106)) (w.heap.size + 1 + 1 + 1 + 1 + 1) 106 #[.func (.func 84) #[] #[.pointer (some ⟨w.heap.size, 0, none⟩), .pointer (some ⟨w.heap.size + 1 + 1, 0, none⟩), .pointer (some ⟨w.heap.size + 1, 0, none⟩)]] := (by repeat (first | (refine Blk.newAt _ _ _ ?_; first | rfl | (simp; done)) | refine Blk.alloc ?_ _))
    have bHB : Below w.heap.size w ((((((w.alloc (.cells #[hx, hy, hv, gx, gy, gv, lx, ly, lv, px, py, pv, nx, ny, nv, ax, ay, av, cx, cy, cv, dx, dy, dv, .int .i64 cl, .int .i64 bu] 27)).alloc (.cells #[.int .i64 wl, .int .i64 wh, .int .i64 tl, .int .i64 th, .int .i64 el, .int .i64 eh, .int .i64 nl, .int .i64 nh] 36)).alloc (.cells #[.int .i64 n] 3)).alloc (.cells #[.int .i64 0, .int .i64 0] 34)).alloc (.cells #[.int .i64 0, .int .i64 0] 34)).alloc (.cells #[.func (.func 84) #[] #[.pointer (some ⟨w.heap.size, 0, none⟩), .pointer (some ⟨w.heap.size + 1 + 1, 0, none⟩), .pointer (some ⟨w.heap.size + 1, 0, none⟩)]] 106)) := (by repeat' (first | exact Below.refl _ _ | assumption | refine Below.drew ?_ | refine bdn ?_ _ | refine bal ?_ _ | refine Below.setCell ?_ (by first | (simp; done) | omega | (simp; omega)) _))
    generalize ((((((w.alloc (.cells #[hx, hy, hv, gx, gy, gv, lx, ly, lv, px, py, pv, nx, ny, nv, ax, ay, av, cx, cy, cv, dx, dy, dv, .int .i64 cl, .int .i64 bu] 27)).alloc (.cells #[.int .i64 wl, .int .i64 wh, .int .i64 tl, .int .i64 th, .int .i64 el, .int .i64 eh, .int .i64 nl, .int .i64 nh] 36)).alloc (.cells #[.int .i64 n] 3)).alloc (.cells #[.int .i64 0, .int .i64 0] 34)).alloc (.cells #[.int .i64 0, .int .i64 0] 34)).alloc (.cells #[.func (.func 84) #[] #[.pointer (some ⟨w.heap.size, 0, none⟩), .pointer (some ⟨w.heap.size + 1 + 1, 0, none⟩), .pointer (some ⟨w.heap.size + 1, 0, none⟩)]] 106)) = W at *
    have zW := bHF.lt
    have HM := Lib.hid bHM
    have HA := Lib.hid bHA
    have HI := Lib.hid bHI
    have HY := Lib.hid bHY
    have HZ := Lib.hid bHZ
    have HF := Lib.hid bHF
    have HB := Lib.hid bHB
    clear bHM bHA bHI bHY bHZ bHF bHB
    go_wp2_with (first | (go_at_call 66; refine (HC.out _ (HR.out.below HB.out) (fun hr W' hW => glide2_c hx hy hv gx gy gv lx ly lv px py pv nx ny nv ax ay av cx cy cv dx dy dv cl bu wl wh tl th el eh nl nh S _ _ _ _ n W' (HR.out.d.below (bthen HB.out hW)) (HM.out.below hW) (HI.out.below hW) (HA.out.below hW) (HF.out.below hW) (rotB_d hr))).mono ?_; rintro e w1 ⟨rfl, hb1⟩; have nHM := Lib.hid (HM.out.below hb1); have nHA := Lib.hid (HA.out.below hb1); have nHI := Lib.hid (HI.out.below hb1); have nHY := Lib.hid (HY.out.below hb1); have nHZ := Lib.hid (HZ.out.below hb1); have nHF := Lib.hid (HF.out.below hb1); have nHB := Lib.hid (bthen HB.out hb1); have zz1 := hb1.size; clear HM HA HI HY HZ HF HB hb1; have HM := nHM; have HA := nHA; have HI := nHI; have HY := nHY; have HZ := nHZ; have HF := nHF; have HB := nHB; clear nHM nHA nHI nHY nHZ nHF nHB; (try clear zHI); have zHI := HI.out.lt; (try clear cHI0); have cHI0 := HI.out.cell 0; (try clear zHY); have zHY := HY.out.lt; (try clear cHY0); have cHY0 := HY.out.cell 0; (try clear cHY1); have cHY1 := HY.out.cell 1; (try clear fHY); have fHY := fun i => HY.out.frozen i; (try clear zHZ); have zHZ := HZ.out.lt; (try clear cHZ0); have cHZ0 := HZ.out.cell 0; (try clear cHZ1); have cHZ1 := HZ.out.cell 1; (try clear fHZ); have fHZ := fun i => HZ.out.frozen i; (try clear zHF); have zHF := HF.out.lt; (try clear cHF0); have cHF0 := HF.out.cell 0) | (go_at_call 53; (with_reducible refine (HI1.out _).mono ?_); rintro e w3 ⟨rfl, rfl⟩) | (go_at_call 53; (with_reducible refine (HI2.out _).mono ?_); rintro e w3 ⟨rfl, rfl⟩) | (go_at_call 84; (with_reducible refine (glide1_c hx hy hv gx gy gv lx ly lv px py pv nx ny nv ax ay av cx cy cv dx dy dv cl bu wl wh tl th el eh nl nh S _ _ _ n _ (HR.out.d.below HB.out) HM.out HI.out HA.out).mono ?_); rintro e w1 ⟨rfl, hb1⟩; have nHI := Lib.hid (HI.out.below hb1); have nHY := Lib.hid (HY.out.below hb1); have nHZ := Lib.hid (HZ.out.below hb1); have nHB := Lib.hid (bthen HB.out hb1); have zz1 := hb1.size; clear HI HY HZ HB hb1; have HI := nHI; have HY := nHY; have HZ := nHZ; have HB := nHB; clear nHI nHY nHZ nHB; (try clear zHI); have zHI := HI.out.lt; (try clear cHI0); have cHI0 := HI.out.cell 0) | (go_at_call 79; (with_reducible refine (B.out _ _ _ _ (HR.out.d.below HB.out) HF0.out).mono ?_); rintro e w1 ⟨rfl, hb1⟩; have nHI := Lib.hid (HI.out.below hb1); have nHY := Lib.hid (HY.out.below hb1); have nHZ := Lib.hid (HZ.out.below hb1); have nHB := Lib.hid (bthen HB.out hb1); have zz1 := hb1.size; clear HI HY HZ HB hb1; have HI := nHI; have HY := nHY; have HZ := nHZ; have HB := nHB; clear nHI nHY nHZ nHB; (try clear zHI); have zHI := HI.out.lt; (try clear cHI0); have cHI0 := HI.out.cell 0))
    exact bodyPost_ret (res_cct rfl _ _ _ #[.int .i64 0, .int .i64 0] #[.int .i64 0, .int .i64 0] 2 2 rfl rfl ((((HY.out.set_ 0 _).set_ 1 _).far' (by omega) _).far' (by omega) _) Try.rowSpan rfl ((((HZ.out.far' (by omega) _).far' (by omega) _).set_ 0 _).set_ 1 _) Try.rowSpan rfl) rfl ⟨rfl, (bset (bset (bset (bset HB.out (by omega) _) (by omega) _) (by omega) _) (by omega) _)⟩
  rw [c1] at HI1
  cases c2 : inB h 0 1000000
  case false =>
    rw [c1, c2, Bool.and_false, if_neg (by decide)] at e0
    rw [gliX_e (by rw [e0]; decide), e0, okN_no (by decide), okN_no (by decide), okN_no (by decide), okN_no (by decide)]
    rw [c2] at HI2
    have B := trivial
    clear e0 hr hF c1 c2
    go_enter Try.func35, Try.ntmps35
    go_wp2_with (first | (refine wpl_row rfl 27 _ rfl _ rfl #[hx, hy, hv, gx, gy, gv, lx, ly, lv, px, py, pv, nx, ny, nv, ax, ay, av, cx, cy, cv, dx, dy, dv, .int .i64 cl, .int .i64 bu] 26 ?_ Try.rowRot rfl ?_; (focus exact (by repeat (first | (refine Blk.newAt _ _ _ ?_; first | rfl | (simp; done)) | refine Blk.alloc ?_ _))); simp only [Act.put]) | (refine wpl_row rfl 36 _ rfl _ rfl #[.int .i64 wl, .int .i64 wh, .int .i64 tl, .int .i64 th, .int .i64 el, .int .i64 eh, .int .i64 nl, .int .i64 nh] 8 ?_ Try.rowAir rfl ?_; (focus exact (by repeat (first | (refine Blk.newAt _ _ _ ?_; first | rfl | (simp; done)) | refine Blk.alloc ?_ _))); simp only [Act.put]))
    have bHM : Blk ((((((w.alloc (.cells #[hx, hy, hv, gx, gy, gv, lx, ly, lv, px, py, pv, nx, ny, nv, ax, ay, av, cx, cy, cv, dx, dy, dv, .int .i64 cl, .int .i64 bu] 27)).alloc (.cells #[.int .i64 wl, .int .i64 wh, .int .i64 tl, .int .i64 th, .int .i64 el, .int .i64 eh, .int .i64 nl, .int .i64 nh] 36)).alloc (.cells #[.int .i64 n] 3)).alloc (.cells #[.int .i64 0, .int .i64 0] 34)).alloc (.cells #[.int .i64 0, .int .i64 0] 34)).alloc (.cells #[.func (.func 84) #[] #[.pointer (some ⟨w.heap.size, 0, none⟩), .pointer (some ⟨w.heap.size + 1 + 1, 0, none⟩), .pointer (some ⟨w.heap.size + 1, 0, none⟩)]] 106)) (w.heap.size) 27 #[hx, hy, hv, gx, gy, gv, lx, ly, lv, px, py, pv, nx, ny, nv, ax, ay, av, cx, cy, cv, dx, dy, dv, .int .i64 cl, .int .i64 bu] := (by repeat (first | (refine Blk.newAt _ _ _ ?_; first | rfl | (simp; done)) | refine Blk.alloc ?_ _))
    have bHA : Blk ((((((w.alloc (.cells #[hx, hy, hv, gx, gy, gv, lx, ly, lv, px, py, pv, nx, ny, nv, ax, ay, av, cx, cy, cv, dx, dy, dv, .int .i64 cl, .int .i64 bu] 27)).alloc (.cells #[.int .i64 wl, .int .i64 wh, .int .i64 tl, .int .i64 th, .int .i64 el, .int .i64 eh, .int .i64 nl, .int .i64 nh] 36)).alloc (.cells #[.int .i64 n] 3)).alloc (.cells #[.int .i64 0, .int .i64 0] 34)).alloc (.cells #[.int .i64 0, .int .i64 0] 34)).alloc (.cells #[.func (.func 84) #[] #[.pointer (some ⟨w.heap.size, 0, none⟩), .pointer (some ⟨w.heap.size + 1 + 1, 0, none⟩), .pointer (some ⟨w.heap.size + 1, 0, none⟩)]] 106)) (w.heap.size + 1) 36 #[.int .i64 wl, .int .i64 wh, .int .i64 tl, .int .i64 th, .int .i64 el, .int .i64 eh, .int .i64 nl, .int .i64 nh] := (by repeat (first | (refine Blk.newAt _ _ _ ?_; first | rfl | (simp; done)) | refine Blk.alloc ?_ _))
    have bHI : Blk ((((((w.alloc (.cells #[hx, hy, hv, gx, gy, gv, lx, ly, lv, px, py, pv, nx, ny, nv, ax, ay, av, cx, cy, cv, dx, dy, dv, .int .i64 cl, .int .i64 bu] 27)).alloc (.cells #[.int .i64 wl, .int .i64 wh, .int .i64 tl, .int .i64 th, .int .i64 el, .int .i64 eh, .int .i64 nl, .int .i64 nh] 36)).alloc (.cells #[.int .i64 n] 3)).alloc (.cells #[.int .i64 0, .int .i64 0] 34)).alloc (.cells #[.int .i64 0, .int .i64 0] 34)).alloc (.cells #[.func (.func 84) #[] #[.pointer (some ⟨w.heap.size, 0, none⟩), .pointer (some ⟨w.heap.size + 1 + 1, 0, none⟩), .pointer (some ⟨w.heap.size + 1, 0, none⟩)]] 106)) (w.heap.size + 1 + 1) 3 #[.int .i64 n] := (by repeat (first | (refine Blk.newAt _ _ _ ?_; first | rfl | (simp; done)) | refine Blk.alloc ?_ _))
    have bHY : Blk ((((((w.alloc (.cells #[hx, hy, hv, gx, gy, gv, lx, ly, lv, px, py, pv, nx, ny, nv, ax, ay, av, cx, cy, cv, dx, dy, dv, .int .i64 cl, .int .i64 bu] 27)).alloc (.cells #[.int .i64 wl, .int .i64 wh, .int .i64 tl, .int .i64 th, .int .i64 el, .int .i64 eh, .int .i64 nl, .int .i64 nh] 36)).alloc (.cells #[.int .i64 n] 3)).alloc (.cells #[.int .i64 0, .int .i64 0] 34)).alloc (.cells #[.int .i64 0, .int .i64 0] 34)).alloc (.cells #[.func (.func 84) #[] #[.pointer (some ⟨w.heap.size, 0, none⟩), .pointer (some ⟨w.heap.size + 1 + 1, 0, none⟩), .pointer (some ⟨w.heap.size + 1, 0, none⟩)]] 106)) (w.heap.size + 1 + 1 + 1) 34 #[.int .i64 0, .int .i64 0] := (by repeat (first | (refine Blk.newAt _ _ _ ?_; first | rfl | (simp; done)) | refine Blk.alloc ?_ _))
    have bHZ : Blk ((((((w.alloc (.cells #[hx, hy, hv, gx, gy, gv, lx, ly, lv, px, py, pv, nx, ny, nv, ax, ay, av, cx, cy, cv, dx, dy, dv, .int .i64 cl, .int .i64 bu] 27)).alloc (.cells #[.int .i64 wl, .int .i64 wh, .int .i64 tl, .int .i64 th, .int .i64 el, .int .i64 eh, .int .i64 nl, .int .i64 nh] 36)).alloc (.cells #[.int .i64 n] 3)).alloc (.cells #[.int .i64 0, .int .i64 0] 34)).alloc (.cells #[.int .i64 0, .int .i64 0] 34)).alloc (.cells #[.func (.func 84) #[] #[.pointer (some ⟨w.heap.size, 0, none⟩), .pointer (some ⟨w.heap.size + 1 + 1, 0, none⟩), .pointer (some ⟨w.heap.size + 1, 0, none⟩)]] 106)) (w.heap.size + 1 + 1 + 1 + 1) 34 #[.int .i64 0, .int .i64 0] := (by repeat (first | (refine Blk.newAt _ _ _ ?_; first | rfl | (simp; done)) | refine Blk.alloc ?_ _))
    have bHF : Blk ((((((w.alloc (.cells #[hx, hy, hv, gx, gy, gv, lx, ly, lv, px, py, pv, nx, ny, nv, ax, ay, av, cx, cy, cv, dx, dy, dv, .int .i64 cl, .int .i64 bu] 27)).alloc (.cells #[.int .i64 wl, .int .i64 wh, .int .i64 tl, .int .i64 th, .int .i64 el, .int .i64 eh, .int .i64 nl, .int .i64 nh] 36)).alloc (.cells #[.int .i64 n] 3)).alloc (.cells #[.int .i64 0, .int .i64 0] 34)).alloc (.cells #[.int .i64 0, .int .i64 0] 34)).alloc (.cells #[.func (.func 84) #[] #[.pointer (some ⟨w.heap.size, 0, none⟩), .pointer (some ⟨w.heap.size + 1 + 1, 0, none⟩), .pointer (some ⟨w.heap.size + 1, 0, none⟩)]] 106)) (w.heap.size + 1 + 1 + 1 + 1 + 1) 106 #[.func (.func 84) #[] #[.pointer (some ⟨w.heap.size, 0, none⟩), .pointer (some ⟨w.heap.size + 1 + 1, 0, none⟩), .pointer (some ⟨w.heap.size + 1, 0, none⟩)]] := (by repeat (first | (refine Blk.newAt _ _ _ ?_; first | rfl | (simp; done)) | refine Blk.alloc ?_ _))
    have bHB : Below w.heap.size w ((((((w.alloc (.cells #[hx, hy, hv, gx, gy, gv, lx, ly, lv, px, py, pv, nx, ny, nv, ax, ay, av, cx, cy, cv, dx, dy, dv, .int .i64 cl, .int .i64 bu] 27)).alloc (.cells #[.int .i64 wl, .int .i64 wh, .int .i64 tl, .int .i64 th, .int .i64 el, .int .i64 eh, .int .i64 nl, .int .i64 nh] 36)).alloc (.cells #[.int .i64 n] 3)).alloc (.cells #[.int .i64 0, .int .i64 0] 34)).alloc (.cells #[.int .i64 0, .int .i64 0] 34)).alloc (.cells #[.func (.func 84) #[] #[.pointer (some ⟨w.heap.size, 0, none⟩), .pointer (some ⟨w.heap.size + 1 + 1, 0, none⟩), .pointer (some ⟨w.heap.size + 1, 0, none⟩)]] 106)) := (by repeat' (first | exact Below.refl _ _ | assumption | refine Below.drew ?_ | refine bdn ?_ _ | refine bal ?_ _ | refine Below.setCell ?_ (by first | (simp; done) | omega | (simp; omega)) _))
    generalize ((((((w.alloc (.cells #[hx, hy, hv, gx, gy, gv, lx, ly, lv, px, py, pv, nx, ny, nv, ax, ay, av, cx, cy, cv, dx, dy, dv, .int .i64 cl, .int .i64 bu] 27)).alloc (.cells #[.int .i64 wl, .int .i64 wh, .int .i64 tl, .int .i64 th, .int .i64 el, .int .i64 eh, .int .i64 nl, .int .i64 nh] 36)).alloc (.cells #[.int .i64 n] 3)).alloc (.cells #[.int .i64 0, .int .i64 0] 34)).alloc (.cells #[.int .i64 0, .int .i64 0] 34)).alloc (.cells #[.func (.func 84) #[] #[.pointer (some ⟨w.heap.size, 0, none⟩), .pointer (some ⟨w.heap.size + 1 + 1, 0, none⟩), .pointer (some ⟨w.heap.size + 1, 0, none⟩)]] 106)) = W at *
    have zW := bHF.lt
    have HM := Lib.hid bHM
    have HA := Lib.hid bHA
    have HI := Lib.hid bHI
    have HY := Lib.hid bHY
    have HZ := Lib.hid bHZ
    have HF := Lib.hid bHF
    have HB := Lib.hid bHB
    clear bHM bHA bHI bHY bHZ bHF bHB
    go_wp2_with (first | (go_at_call 66; refine (HC.out _ (HR.out.below HB.out) (fun hr W' hW => glide2_c hx hy hv gx gy gv lx ly lv px py pv nx ny nv ax ay av cx cy cv dx dy dv cl bu wl wh tl th el eh nl nh S _ _ _ _ n W' (HR.out.d.below (bthen HB.out hW)) (HM.out.below hW) (HI.out.below hW) (HA.out.below hW) (HF.out.below hW) (rotB_d hr))).mono ?_; rintro e w1 ⟨rfl, hb1⟩; have nHM := Lib.hid (HM.out.below hb1); have nHA := Lib.hid (HA.out.below hb1); have nHI := Lib.hid (HI.out.below hb1); have nHY := Lib.hid (HY.out.below hb1); have nHZ := Lib.hid (HZ.out.below hb1); have nHF := Lib.hid (HF.out.below hb1); have nHB := Lib.hid (bthen HB.out hb1); have zz1 := hb1.size; clear HM HA HI HY HZ HF HB hb1; have HM := nHM; have HA := nHA; have HI := nHI; have HY := nHY; have HZ := nHZ; have HF := nHF; have HB := nHB; clear nHM nHA nHI nHY nHZ nHF nHB; (try clear zHI); have zHI := HI.out.lt; (try clear cHI0); have cHI0 := HI.out.cell 0; (try clear zHY); have zHY := HY.out.lt; (try clear cHY0); have cHY0 := HY.out.cell 0; (try clear cHY1); have cHY1 := HY.out.cell 1; (try clear fHY); have fHY := fun i => HY.out.frozen i; (try clear zHZ); have zHZ := HZ.out.lt; (try clear cHZ0); have cHZ0 := HZ.out.cell 0; (try clear cHZ1); have cHZ1 := HZ.out.cell 1; (try clear fHZ); have fHZ := fun i => HZ.out.frozen i; (try clear zHF); have zHF := HF.out.lt; (try clear cHF0); have cHF0 := HF.out.cell 0) | (go_at_call 53; (with_reducible refine (HI1.out _).mono ?_); rintro e w3 ⟨rfl, rfl⟩) | (go_at_call 53; (with_reducible refine (HI2.out _).mono ?_); rintro e w3 ⟨rfl, rfl⟩) | (go_at_call 84; (with_reducible refine (glide1_c hx hy hv gx gy gv lx ly lv px py pv nx ny nv ax ay av cx cy cv dx dy dv cl bu wl wh tl th el eh nl nh S _ _ _ n _ (HR.out.d.below HB.out) HM.out HI.out HA.out).mono ?_); rintro e w1 ⟨rfl, hb1⟩; have nHI := Lib.hid (HI.out.below hb1); have nHY := Lib.hid (HY.out.below hb1); have nHZ := Lib.hid (HZ.out.below hb1); have nHB := Lib.hid (bthen HB.out hb1); have zz1 := hb1.size; clear HI HY HZ HB hb1; have HI := nHI; have HY := nHY; have HZ := nHZ; have HB := nHB; clear nHI nHY nHZ nHB; (try clear zHI); have zHI := HI.out.lt; (try clear cHI0); have cHI0 := HI.out.cell 0) | (go_at_call 79; (with_reducible refine (B.out _ _ _ _ (HR.out.d.below HB.out) HF0.out).mono ?_); rintro e w1 ⟨rfl, hb1⟩; have nHI := Lib.hid (HI.out.below hb1); have nHY := Lib.hid (HY.out.below hb1); have nHZ := Lib.hid (HZ.out.below hb1); have nHB := Lib.hid (bthen HB.out hb1); have zz1 := hb1.size; clear HI HY HZ HB hb1; have HI := nHI; have HY := nHY; have HZ := nHZ; have HB := nHB; clear nHI nHY nHZ nHB; (try clear zHI); have zHI := HI.out.lt; (try clear cHI0); have cHI0 := HI.out.cell 0))
    exact bodyPost_ret (res_cct rfl _ _ _ #[.int .i64 0, .int .i64 0] #[.int .i64 0, .int .i64 0] 2 2 rfl rfl ((((HY.out.set_ 0 _).set_ 1 _).far' (by omega) _).far' (by omega) _) Try.rowSpan rfl ((((HZ.out.far' (by omega) _).far' (by omega) _).set_ 0 _).set_ 1 _) Try.rowSpan rfl) rfl ⟨rfl, (bset (bset (bset (bset HB.out (by omega) _) (by omega) _) (by omega) _) (by omega) _)⟩
  rw [c2] at HI2
  rw [c1, c2, Bool.and_true, if_pos rfl] at e0
  rw [gliX_o e0]
  have n1 := inB_iff.1 c1
  have n2 := inB_iff.1 c2
  have lim := bnd_lim (rotB_d hr) hF
  have B := Lib.hid (fun w1 x y v => bnd_c x y v S.d n n wl wh w1)
  have HF0 := Lib.hid hF
  unfold gliV
  generalize bLo S.d n n wl wh = p0 at *
  generalize bHi S.d n n wl wh = p1 at *
  have m0 := Int.mul_nonneg n1.1 n2.1
  have m1 := Int.mul_le_mul n1.2 n2.2 n2.1 (by omega)
  have G1 := Lib.hid (fun w1 g hG => glide3_c h p0 p1 g w1 hG (by omega) (by omega) (by omega) (by omega) (by omega) (by omega))
  have G2 := Lib.hid (fun w1 g hG => glide3_c (n * h) p0 p1 g w1 hG (by omega) (by omega) (by omega) (by omega) (by omega) (by omega))
  have C1 := fun w => ro_valid_c (h / p1) (cdiv h p0) w
  have C2 := fun w => ro_valid_c (n * h / p1) (cdiv (n * h) p0) w
  generalize vspan (h / p1) (cdiv h p0) = v1 at *
  generalize vspan (n * h / p1) (cdiv (n * h) p0) = v2 at *
  generalize h / p1 = T0 at *
  generalize cdiv h p0 = T1 at *
  generalize n * h / p1 = F0 at *
  generalize cdiv (n * h) p0 = F1 at *
  clear e0 hr hF c1 c2 lim
  cases v1
  case false =>
    have HC1 := Lib.hid C1
    clear C1 C2
    rw [Bool.false_and, if_neg (by decide), okN_no (by decide), okN_no (by decide), okN_no (by decide), okN_no (by decide)]
    go_enter Try.func35, Try.ntmps35
    go_wp2_with (first | (refine wpl_row rfl 27 _ rfl _ rfl #[hx, hy, hv, gx, gy, gv, lx, ly, lv, px, py, pv, nx, ny, nv, ax, ay, av, cx, cy, cv, dx, dy, dv, .int .i64 cl, .int .i64 bu] 26 ?_ Try.rowRot rfl ?_; (focus exact (by repeat (first | (refine Blk.newAt _ _ _ ?_; first | rfl | (simp; done)) | refine Blk.alloc ?_ _))); simp only [Act.put]) | (refine wpl_row rfl 36 _ rfl _ rfl #[.int .i64 wl, .int .i64 wh, .int .i64 tl, .int .i64 th, .int .i64 el, .int .i64 eh, .int .i64 nl, .int .i64 nh] 8 ?_ Try.rowAir rfl ?_; (focus exact (by repeat (first | (refine Blk.newAt _ _ _ ?_; first | rfl | (simp; done)) | refine Blk.alloc ?_ _))); simp only [Act.put]))
    have bHM : Blk ((((((w.alloc (.cells #[hx, hy, hv, gx, gy, gv, lx, ly, lv, px, py, pv, nx, ny, nv, ax, ay, av, cx, cy, cv, dx, dy, dv, .int .i64 cl, .int .i64 bu] 27)).alloc (.cells #[.int .i64 wl, .int .i64 wh, .int .i64 tl, .int .i64 th, .int .i64 el, .int .i64 eh, .int .i64 nl, .int .i64 nh] 36)).alloc (.cells #[.int .i64 n] 3)).alloc (.cells #[.int .i64 0, .int .i64 0] 34)).alloc (.cells #[.int .i64 0, .int .i64 0] 34)).alloc (.cells #[.func (.func 84) #[] #[.pointer (some ⟨w.heap.size, 0, none⟩), .pointer (some ⟨w.heap.size + 1 + 1, 0, none⟩), .pointer (some ⟨w.heap.size + 1, 0, none⟩)]] 106)) (w.heap.size) 27 #[hx, hy, hv, gx, gy, gv, lx, ly, lv, px, py, pv, nx, ny, nv, ax, ay, av, cx, cy, cv, dx, dy, dv, .int .i64 cl, .int .i64 bu] := (by repeat (first | (refine Blk.newAt _ _ _ ?_; first | rfl | (simp; done)) | refine Blk.alloc ?_ _))
    have bHA : Blk ((((((w.alloc (.cells #[hx, hy, hv, gx, gy, gv, lx, ly, lv, px, py, pv, nx, ny, nv, ax, ay, av, cx, cy, cv, dx, dy, dv, .int .i64 cl, .int .i64 bu] 27)).alloc (.cells #[.int .i64 wl, .int .i64 wh, .int .i64 tl, .int .i64 th, .int .i64 el, .int .i64 eh, .int .i64 nl, .int .i64 nh] 36)).alloc (.cells #[.int .i64 n] 3)).alloc (.cells #[.int .i64 0, .int .i64 0] 34)).alloc (.cells #[.int .i64 0, .int .i64 0] 34)).alloc (.cells #[.func (.func 84) #[] #[.pointer (some ⟨w.heap.size, 0, none⟩), .pointer (some ⟨w.heap.size + 1 + 1, 0, none⟩), .pointer (some ⟨w.heap.size + 1, 0, none⟩)]] 106)) (w.heap.size + 1) 36 #[.int .i64 wl, .int .i64 wh, .int .i64 tl, .int .i64 th, .int .i64 el, .int .i64 eh, .int .i64 nl, .int .i64 nh] := (by repeat (first | (refine Blk.newAt _ _ _ ?_; first | rfl | (simp; done)) | refine Blk.alloc ?_ _))
    have bHI : Blk ((((((w.alloc (.cells #[hx, hy, hv, gx, gy, gv, lx, ly, lv, px, py, pv, nx, ny, nv, ax, ay, av, cx, cy, cv, dx, dy, dv, .int .i64 cl, .int .i64 bu] 27)).alloc (.cells #[.int .i64 wl, .int .i64 wh, .int .i64 tl, .int .i64 th, .int .i64 el, .int .i64 eh, .int .i64 nl, .int .i64 nh] 36)).alloc (.cells #[.int .i64 n] 3)).alloc (.cells #[.int .i64 0, .int .i64 0] 34)).alloc (.cells #[.int .i64 0, .int .i64 0] 34)).alloc (.cells #[.func (.func 84) #[] #[.pointer (some ⟨w.heap.size, 0, none⟩), .pointer (some ⟨w.heap.size + 1 + 1, 0, none⟩), .pointer (some ⟨w.heap.size + 1, 0, none⟩)]] 106)) (w.heap.size + 1 + 1) 3 #[.int .i64 n] := (by repeat (first | (refine Blk.newAt _ _ _ ?_; first | rfl | (simp; done)) | refine Blk.alloc ?_ _))
    have bHY : Blk ((((((w.alloc (.cells #[hx, hy, hv, gx, gy, gv, lx, ly, lv, px, py, pv, nx, ny, nv, ax, ay, av, cx, cy, cv, dx, dy, dv, .int .i64 cl, .int .i64 bu] 27)).alloc (.cells #[.int .i64 wl, .int .i64 wh, .int .i64 tl, .int .i64 th, .int .i64 el, .int .i64 eh, .int .i64 nl, .int .i64 nh] 36)).alloc (.cells #[.int .i64 n] 3)).alloc (.cells #[.int .i64 0, .int .i64 0] 34)).alloc (.cells #[.int .i64 0, .int .i64 0] 34)).alloc (.cells #[.func (.func 84) #[] #[.pointer (some ⟨w.heap.size, 0, none⟩), .pointer (some ⟨w.heap.size + 1 + 1, 0, none⟩), .pointer (some ⟨w.heap.size + 1, 0, none⟩)]] 106)) (w.heap.size + 1 + 1 + 1) 34 #[.int .i64 0, .int .i64 0] := (by repeat (first | (refine Blk.newAt _ _ _ ?_; first | rfl | (simp; done)) | refine Blk.alloc ?_ _))
    have bHZ : Blk ((((((w.alloc (.cells #[hx, hy, hv, gx, gy, gv, lx, ly, lv, px, py, pv, nx, ny, nv, ax, ay, av, cx, cy, cv, dx, dy, dv, .int .i64 cl, .int .i64 bu] 27)).alloc (.cells #[.int .i64 wl, .int .i64 wh, .int .i64 tl, .int .i64 th, .int .i64 el, .int .i64 eh, .int .i64 nl, .int .i64 nh] 36)).alloc (.cells #[.int .i64 n] 3)).alloc (.cells #[.int .i64 0, .int .i64 0] 34)).alloc (.cells #[.int .i64 0, .int .i64 0] 34)).alloc (.cells #[.func (.func 84) #[] #[.pointer (some ⟨w.heap.size, 0, none⟩), .pointer (some ⟨w.heap.size + 1 + 1, 0, none⟩), .pointer (some ⟨w.heap.size + 1, 0, none⟩)]] 106)) (w.heap.size + 1 + 1 + 1 + 1) 34 #[.int .i64 0, .int .i64 0] := (by repeat (first | (refine Blk.newAt _ _ _ ?_; first | rfl | (simp; done)) | refine Blk.alloc ?_ _))
    have bHF : Blk ((((((w.alloc (.cells #[hx, hy, hv, gx, gy, gv, lx, ly, lv, px, py, pv, nx, ny, nv, ax, ay, av, cx, cy, cv, dx, dy, dv, .int .i64 cl, .int .i64 bu] 27)).alloc (.cells #[.int .i64 wl, .int .i64 wh, .int .i64 tl, .int .i64 th, .int .i64 el, .int .i64 eh, .int .i64 nl, .int .i64 nh] 36)).alloc (.cells #[.int .i64 n] 3)).alloc (.cells #[.int .i64 0, .int .i64 0] 34)).alloc (.cells #[.int .i64 0, .int .i64 0] 34)).alloc (.cells #[.func (.func 84) #[] #[.pointer (some ⟨w.heap.size, 0, none⟩), .pointer (some ⟨w.heap.size + 1 + 1, 0, none⟩), .pointer (some ⟨w.heap.size + 1, 0, none⟩)]] 106)) (w.heap.size + 1 + 1 + 1 + 1 + 1) 106 #[.func (.func 84) #[] #[.pointer (some ⟨w.heap.size, 0, none⟩), .pointer (some ⟨w.heap.size + 1 + 1, 0, none⟩), .pointer (some ⟨w.heap.size + 1, 0, none⟩)]] := (by repeat (first | (refine Blk.newAt _ _ _ ?_; first | rfl | (simp; done)) | refine Blk.alloc ?_ _))
    have bHB : Below w.heap.size w ((((((w.alloc (.cells #[hx, hy, hv, gx, gy, gv, lx, ly, lv, px, py, pv, nx, ny, nv, ax, ay, av, cx, cy, cv, dx, dy, dv, .int .i64 cl, .int .i64 bu] 27)).alloc (.cells #[.int .i64 wl, .int .i64 wh, .int .i64 tl, .int .i64 th, .int .i64 el, .int .i64 eh, .int .i64 nl, .int .i64 nh] 36)).alloc (.cells #[.int .i64 n] 3)).alloc (.cells #[.int .i64 0, .int .i64 0] 34)).alloc (.cells #[.int .i64 0, .int .i64 0] 34)).alloc (.cells #[.func (.func 84) #[] #[.pointer (some ⟨w.heap.size, 0, none⟩), .pointer (some ⟨w.heap.size + 1 + 1, 0, none⟩), .pointer (some ⟨w.heap.size + 1, 0, none⟩)]] 106)) := (by repeat' (first | exact Below.refl _ _ | assumption | refine Below.drew ?_ | refine bdn ?_ _ | refine bal ?_ _ | refine Below.setCell ?_ (by first | (simp; done) | omega | (simp; omega)) _))
    generalize ((((((w.alloc (.cells #[hx, hy, hv, gx, gy, gv, lx, ly, lv, px, py, pv, nx, ny, nv, ax, ay, av, cx, cy, cv, dx, dy, dv, .int .i64 cl, .int .i64 bu] 27)).alloc (.cells #[.int .i64 wl, .int .i64 wh, .int .i64 tl, .int .i64 th, .int .i64 el, .int .i64 eh, .int .i64 nl, .int .i64 nh] 36)).alloc (.cells #[.int .i64 n] 3)).alloc (.cells #[.int .i64 0, .int .i64 0] 34)).alloc (.cells #[.int .i64 0, .int .i64 0] 34)).alloc (.cells #[.func (.func 84) #[] #[.pointer (some ⟨w.heap.size, 0, none⟩), .pointer (some ⟨w.heap.size + 1 + 1, 0, none⟩), .pointer (some ⟨w.heap.size + 1, 0, none⟩)]] 106)) = W at *
    have zW := bHF.lt
    have HM := Lib.hid bHM
    have HA := Lib.hid bHA
    have HI := Lib.hid bHI
    have HY := Lib.hid bHY
    have HZ := Lib.hid bHZ
    have HF := Lib.hid bHF
    have HB := Lib.hid bHB
    clear bHM bHA bHI bHY bHZ bHF bHB
    go_wp2_with (first | (go_at_call 66; refine (HC.out _ (HR.out.below HB.out) (fun hr W' hW => glide2_c hx hy hv gx gy gv lx ly lv px py pv nx ny nv ax ay av cx cy cv dx dy dv cl bu wl wh tl th el eh nl nh S _ _ _ _ n W' (HR.out.d.below (bthen HB.out hW)) (HM.out.below hW) (HI.out.below hW) (HA.out.below hW) (HF.out.below hW) (rotB_d hr))).mono ?_; rintro e w1 ⟨rfl, hb1⟩; have nHM := Lib.hid (HM.out.below hb1); have nHA := Lib.hid (HA.out.below hb1); have nHI := Lib.hid (HI.out.below hb1); have nHY := Lib.hid (HY.out.below hb1); have nHZ := Lib.hid (HZ.out.below hb1); have nHF := Lib.hid (HF.out.below hb1); have nHB := Lib.hid (bthen HB.out hb1); have zz1 := hb1.size; clear HM HA HI HY HZ HF HB hb1; have HM := nHM; have HA := nHA; have HI := nHI; have HY := nHY; have HZ := nHZ; have HF := nHF; have HB := nHB; clear nHM nHA nHI nHY nHZ nHF nHB; (try clear zHI); have zHI := HI.out.lt; (try clear cHI0); have cHI0 := HI.out.cell 0; (try clear zHY); have zHY := HY.out.lt; (try clear cHY0); have cHY0 := HY.out.cell 0; (try clear cHY1); have cHY1 := HY.out.cell 1; (try clear fHY); have fHY := fun i => HY.out.frozen i; (try clear zHZ); have zHZ := HZ.out.lt; (try clear cHZ0); have cHZ0 := HZ.out.cell 0; (try clear cHZ1); have cHZ1 := HZ.out.cell 1; (try clear fHZ); have fHZ := fun i => HZ.out.frozen i; (try clear zHF); have zHF := HF.out.lt; (try clear cHF0); have cHF0 := HF.out.cell 0) | (go_at_call 53; (with_reducible refine (HI1.out _).mono ?_); rintro e w3 ⟨rfl, rfl⟩) | (go_at_call 53; (with_reducible refine (HI2.out _).mono ?_); rintro e w3 ⟨rfl, rfl⟩) | (go_at_call 84; (with_reducible refine (glide1_c hx hy hv gx gy gv lx ly lv px py pv nx ny nv ax ay av cx cy cv dx dy dv cl bu wl wh tl th el eh nl nh S _ _ _ n _ (HR.out.d.below HB.out) HM.out HI.out HA.out).mono ?_); rintro e w1 ⟨rfl, hb1⟩; have nHI := Lib.hid (HI.out.below hb1); have nHY := Lib.hid (HY.out.below hb1); have nHZ := Lib.hid (HZ.out.below hb1); have nHB := Lib.hid (bthen HB.out hb1); have zz1 := hb1.size; clear HI HY HZ HB hb1; have HI := nHI; have HY := nHY; have HZ := nHZ; have HB := nHB; clear nHI nHY nHZ nHB; (try clear zHI); have zHI := HI.out.lt; (try clear cHI0); have cHI0 := HI.out.cell 0) | (go_at_call 79; (with_reducible refine (B.out _ _ _ _ (HR.out.d.below HB.out) HF0.out).mono ?_); rintro e w1 ⟨rfl, hb1⟩; have nHI := Lib.hid (HI.out.below hb1); have nHY := Lib.hid (HY.out.below hb1); have nHZ := Lib.hid (HZ.out.below hb1); have nHB := Lib.hid (bthen HB.out hb1); have zz1 := hb1.size; clear HI HY HZ HB hb1; have HI := nHI; have HY := nHY; have HZ := nHZ; have HB := nHB; clear nHI nHY nHZ nHB; (try clear zHI); have zHI := HI.out.lt; (try clear cHI0); have cHI0 := HI.out.cell 0))
    have bHG := Blk.new w1 34 #[.int .i64 p0, .int .i64 p1]
    have nHI := Lib.hid (HI.out.alloc (.cells #[.int .i64 p0, .int .i64 p1] 34))
    have nHY := Lib.hid (HY.out.alloc (.cells #[.int .i64 p0, .int .i64 p1] 34))
    have nHZ := Lib.hid (HZ.out.alloc (.cells #[.int .i64 p0, .int .i64 p1] 34))
    have nHB := Lib.hid (bal HB.out (.cells #[.int .i64 p0, .int .i64 p1] 34))
    clear HI HY HZ HB
    have HI := nHI
    have HY := nHY
    have HZ := nHZ
    have HB := nHB
    clear nHI nHY nHZ nHB
    generalize w1.alloc (.cells #[.int .i64 p0, .int .i64 p1] 34) = W2 at *
    generalize w1.heap.size = gHG at *
    have HG := Lib.hid bHG
    clear bHG
    have aHI0 := fun (r : After W2) => (HI.out.below r.below).cell 0
    simp only [List.getElem?_toArray, List.getElem?_cons_succ, List.getElem?_cons_zero] at aHI0
    (refine wp_region_aftert 8 (by kernel_rfl) (by kernel_rfl) ?_; simp only [List.take_succ_cons, List.take_zero, List.drop_succ_cons, List.drop_zero]; (repeat (go_big_quiet_step ( first | (go_at_call 87; (with_reducible refine qafter (G1.out _ _ (HG.out.below (After.below _))))) | (go_at_call 87; (with_reducible refine qafter (G2.out _ _ (HG.out.below (After.below _)))))))); refine wpQuiet_nil ?_; rintro _ ⟨r, rfl⟩)
    have nHY := Lib.hid (HY.out.below r.below)
    have nHZ := Lib.hid (HZ.out.below r.below)
    have nHB := Lib.hid (bthen HB.out r.below)
    clear HY HZ HI HB HG aHI0
    have y0 := nHY.out.cell 0
    have y1 := nHY.out.cell 1
    have y2 := fun i => nHY.out.frozen i
    have z0 := nHZ.out.cell 0
    have z1 := nHZ.out.cell 1
    have z2 := fun i => nHZ.out.frozen i
    go_wp2_with fail
    have HY := Lib.hid ((((nHY.out.set_ 0 (.int .i64 T0)).set_ 1 (.int .i64 T1)).far' (f := w.heap.size + 1 + 1 + 1 + 1) (by omega) (i := 0) (.int .i64 F0)).far' (f := w.heap.size + 1 + 1 + 1 + 1) (by omega) (i := 1) (.int .i64 F1))
    have HZ := Lib.hid ((((nHZ.out.far' (f := w.heap.size + 1 + 1 + 1) (by omega) (i := 0) (.int .i64 T0)).far' (f := w.heap.size + 1 + 1 + 1) (by omega) (i := 1) (.int .i64 T1)).set_ 0 (.int .i64 F0)).set_ 1 (.int .i64 F1))
    have HB := Lib.hid (bset (bset (bset (bset nHB.out (g := w.heap.size + 1 + 1 + 1) (by omega) (i := 0) (.int .i64 T0)) (g := w.heap.size + 1 + 1 + 1) (by omega) (i := 1) (.int .i64 T1)) (g := w.heap.size + 1 + 1 + 1 + 1) (by omega) (i := 0) (.int .i64 F0)) (g := w.heap.size + 1 + 1 + 1 + 1) (by omega) (i := 1) (.int .i64 F1))
    clear nHY nHZ nHB y0 y1 y2 z0 z1 z2
    generalize (((r.w.setCell ⟨w.heap.size + 1 + 1 + 1, 0, none⟩ (.int .i64 T0)).setCell ⟨w.heap.size + 1 + 1 + 1, 1, none⟩ (.int .i64 T1)).setCell ⟨w.heap.size + 1 + 1 + 1 + 1, 0, none⟩ (.int .i64 F0)).setCell ⟨w.heap.size + 1 + 1 + 1 + 1, 1, none⟩ (.int .i64 F1) = W5 at *
    have zHY := HY.out.lt
    have cHY0 := HY.out.cell 0
    have cHY1 := HY.out.cell 1
    have fHY := fun i => HY.out.frozen i
    have zHZ := HZ.out.lt
    have cHZ0 := HZ.out.cell 0
    have cHZ1 := HZ.out.cell 1
    have fHZ := fun i => HZ.out.frozen i
    go_wp2_with (first | (go_at_call 88; (with_reducible refine (HC1.out _).mono ?_); rintro e w1 ⟨rfl, hb1⟩; have nHY := Lib.hid (HY.out.below hb1); have nHZ := Lib.hid (HZ.out.below hb1); have nHB := Lib.hid (bthen HB.out hb1); have zz1 := hb1.size; clear HY HZ HB hb1; have HY := nHY; have HZ := nHZ; have HB := nHB; clear nHY nHZ nHB; (try clear zHY); have zHY := HY.out.lt; (try clear cHY0); have cHY0 := HY.out.cell 0; (try clear cHY1); have cHY1 := HY.out.cell 1; (try clear fHY); have fHY := fun i => HY.out.frozen i; (try clear zHZ); have zHZ := HZ.out.lt; (try clear cHZ0); have cHZ0 := HZ.out.cell 0; (try clear cHZ1); have cHZ1 := HZ.out.cell 1; (try clear fHZ); have fHZ := fun i => HZ.out.frozen i) | (go_at_call 88; (with_reducible refine (HC2.out _).mono ?_); rintro e w1 ⟨rfl, hb1⟩; have nHY := Lib.hid (HY.out.below hb1); have nHZ := Lib.hid (HZ.out.below hb1); have nHB := Lib.hid (bthen HB.out hb1); have zz1 := hb1.size; clear HY HZ HB hb1; have HY := nHY; have HZ := nHZ; have HB := nHB; clear nHY nHZ nHB; (try clear zHY); have zHY := HY.out.lt; (try clear cHY0); have cHY0 := HY.out.cell 0; (try clear cHY1); have cHY1 := HY.out.cell 1; (try clear fHY); have fHY := fun i => HY.out.frozen i; (try clear zHZ); have zHZ := HZ.out.lt; (try clear cHZ0); have cHZ0 := HZ.out.cell 0; (try clear cHZ1); have cHZ1 := HZ.out.cell 1; (try clear fHZ); have fHZ := fun i => HZ.out.frozen i))
    exact bodyPost_ret (res_cct rfl _ _ _ #[.int .i64 0, .int .i64 0] #[.int .i64 0, .int .i64 0] 2 2 rfl rfl ((((HY.out.set_ 0 _).set_ 1 _).far' (by omega) _).far' (by omega) _) Try.rowSpan rfl ((((HZ.out.far' (by omega) _).far' (by omega) _).set_ 0 _).set_ 1 _) Try.rowSpan rfl) rfl ⟨rfl, (bset (bset (bset (bset HB.out (by omega) _) (by omega) _) (by omega) _) (by omega) _)⟩
  cases v2
  case false =>
    have HC1 := Lib.hid C1
    have HC2 := Lib.hid C2
    clear C1 C2
    rw [Bool.true_and, if_neg (by decide), okN_no (by decide), okN_no (by decide), okN_no (by decide), okN_no (by decide)]
    go_enter Try.func35, Try.ntmps35
    go_wp2_with (first | (refine wpl_row rfl 27 _ rfl _ rfl #[hx, hy, hv, gx, gy, gv, lx, ly, lv, px, py, pv, nx, ny, nv, ax, ay, av, cx, cy, cv, dx, dy, dv, .int .i64 cl, .int .i64 bu] 26 ?_ Try.rowRot rfl ?_; (focus exact (by repeat (first | (refine Blk.newAt _ _ _ ?_; first | rfl | (simp; done)) | refine Blk.alloc ?_ _))); simp only [Act.put]) | (refine wpl_row rfl 36 _ rfl _ rfl #[.int .i64 wl, .int .i64 wh, .int .i64 tl, .int .i64 th, .int .i64 el, .int .i64 eh, .int .i64 nl, .int .i64 nh] 8 ?_ Try.rowAir rfl ?_; (focus exact (by repeat (first | (refine Blk.newAt _ _ _ ?_; first | rfl | (simp; done)) | refine Blk.alloc ?_ _))); simp only [Act.put]))
    have bHM : Blk ((((((w.alloc (.cells #[hx, hy, hv, gx, gy, gv, lx, ly, lv, px, py, pv, nx, ny, nv, ax, ay, av, cx, cy, cv, dx, dy, dv, .int .i64 cl, .int .i64 bu] 27)).alloc (.cells #[.int .i64 wl, .int .i64 wh, .int .i64 tl, .int .i64 th, .int .i64 el, .int .i64 eh, .int .i64 nl, .int .i64 nh] 36)).alloc (.cells #[.int .i64 n] 3)).alloc (.cells #[.int .i64 0, .int .i64 0] 34)).alloc (.cells #[.int .i64 0, .int .i64 0] 34)).alloc (.cells #[.func (.func 84) #[] #[.pointer (some ⟨w.heap.size, 0, none⟩), .pointer (some ⟨w.heap.size + 1 + 1, 0, none⟩), .pointer (some ⟨w.heap.size + 1, 0, none⟩)]] 106)) (w.heap.size) 27 #[hx, hy, hv, gx, gy, gv, lx, ly, lv, px, py, pv, nx, ny, nv, ax, ay, av, cx, cy, cv, dx, dy, dv, .int .i64 cl, .int .i64 bu] := (by repeat (first | (refine Blk.newAt _ _ _ ?_; first | rfl | (simp; done)) | refine Blk.alloc ?_ _))
    have bHA : Blk ((((((w.alloc (.cells #[hx, hy, hv, gx, gy, gv, lx, ly, lv, px, py, pv, nx, ny, nv, ax, ay, av, cx, cy, cv, dx, dy, dv, .int .i64 cl, .int .i64 bu] 27)).alloc (.cells #[.int .i64 wl, .int .i64 wh, .int .i64 tl, .int .i64 th, .int .i64 el, .int .i64 eh, .int .i64 nl, .int .i64 nh] 36)).alloc (.cells #[.int .i64 n] 3)).alloc (.cells #[.int .i64 0, .int .i64 0] 34)).alloc (.cells #[.int .i64 0, .int .i64 0] 34)).alloc (.cells #[.func (.func 84) #[] #[.pointer (some ⟨w.heap.size, 0, none⟩), .pointer (some ⟨w.heap.size + 1 + 1, 0, none⟩), .pointer (some ⟨w.heap.size + 1, 0, none⟩)]] 106)) (w.heap.size + 1) 36 #[.int .i64 wl, .int .i64 wh, .int .i64 tl, .int .i64 th, .int .i64 el, .int .i64 eh, .int .i64 nl, .int .i64 nh] := (by repeat (first | (refine Blk.newAt _ _ _ ?_; first | rfl | (simp; done)) | refine Blk.alloc ?_ _))
    have bHI : Blk ((((((w.alloc (.cells #[hx, hy, hv, gx, gy, gv, lx, ly, lv, px, py, pv, nx, ny, nv, ax, ay, av, cx, cy, cv, dx, dy, dv, .int .i64 cl, .int .i64 bu] 27)).alloc (.cells #[.int .i64 wl, .int .i64 wh, .int .i64 tl, .int .i64 th, .int .i64 el, .int .i64 eh, .int .i64 nl, .int .i64 nh] 36)).alloc (.cells #[.int .i64 n] 3)).alloc (.cells #[.int .i64 0, .int .i64 0] 34)).alloc (.cells #[.int .i64 0, .int .i64 0] 34)).alloc (.cells #[.func (.func 84) #[] #[.pointer (some ⟨w.heap.size, 0, none⟩), .pointer (some ⟨w.heap.size + 1 + 1, 0, none⟩), .pointer (some ⟨w.heap.size + 1, 0, none⟩)]] 106)) (w.heap.size + 1 + 1) 3 #[.int .i64 n] := (by repeat (first | (refine Blk.newAt _ _ _ ?_; first | rfl | (simp; done)) | refine Blk.alloc ?_ _))
    have bHY : Blk ((((((w.alloc (.cells #[hx, hy, hv, gx, gy, gv, lx, ly, lv, px, py, pv, nx, ny, nv, ax, ay, av, cx, cy, cv, dx, dy, dv, .int .i64 cl, .int .i64 bu] 27)).alloc (.cells #[.int .i64 wl, .int .i64 wh, .int .i64 tl, .int .i64 th, .int .i64 el, .int .i64 eh, .int .i64 nl, .int .i64 nh] 36)).alloc (.cells #[.int .i64 n] 3)).alloc (.cells #[.int .i64 0, .int .i64 0] 34)).alloc (.cells #[.int .i64 0, .int .i64 0] 34)).alloc (.cells #[.func (.func 84) #[] #[.pointer (some ⟨w.heap.size, 0, none⟩), .pointer (some ⟨w.heap.size + 1 + 1, 0, none⟩), .pointer (some ⟨w.heap.size + 1, 0, none⟩)]] 106)) (w.heap.size + 1 + 1 + 1) 34 #[.int .i64 0, .int .i64 0] := (by repeat (first | (refine Blk.newAt _ _ _ ?_; first | rfl | (simp; done)) | refine Blk.alloc ?_ _))
    have bHZ : Blk ((((((w.alloc (.cells #[hx, hy, hv, gx, gy, gv, lx, ly, lv, px, py, pv, nx, ny, nv, ax, ay, av, cx, cy, cv, dx, dy, dv, .int .i64 cl, .int .i64 bu] 27)).alloc (.cells #[.int .i64 wl, .int .i64 wh, .int .i64 tl, .int .i64 th, .int .i64 el, .int .i64 eh, .int .i64 nl, .int .i64 nh] 36)).alloc (.cells #[.int .i64 n] 3)).alloc (.cells #[.int .i64 0, .int .i64 0] 34)).alloc (.cells #[.int .i64 0, .int .i64 0] 34)).alloc (.cells #[.func (.func 84) #[] #[.pointer (some ⟨w.heap.size, 0, none⟩), .pointer (some ⟨w.heap.size + 1 + 1, 0, none⟩), .pointer (some ⟨w.heap.size + 1, 0, none⟩)]] 106)) (w.heap.size + 1 + 1 + 1 + 1) 34 #[.int .i64 0, .int .i64 0] := (by repeat (first | (refine Blk.newAt _ _ _ ?_; first | rfl | (simp; done)) | refine Blk.alloc ?_ _))
    have bHF : Blk ((((((w.alloc (.cells #[hx, hy, hv, gx, gy, gv, lx, ly, lv, px, py, pv, nx, ny, nv, ax, ay, av, cx, cy, cv, dx, dy, dv, .int .i64 cl, .int .i64 bu] 27)).alloc (.cells #[.int .i64 wl, .int .i64 wh, .int .i64 tl, .int .i64 th, .int .i64 el, .int .i64 eh, .int .i64 nl, .int .i64 nh] 36)).alloc (.cells #[.int .i64 n] 3)).alloc (.cells #[.int .i64 0, .int .i64 0] 34)).alloc (.cells #[.int .i64 0, .int .i64 0] 34)).alloc (.cells #[.func (.func 84) #[] #[.pointer (some ⟨w.heap.size, 0, none⟩), .pointer (some ⟨w.heap.size + 1 + 1, 0, none⟩), .pointer (some ⟨w.heap.size + 1, 0, none⟩)]] 106)) (w.heap.size + 1 + 1 + 1 + 1 + 1) 106 #[.func (.func 84) #[] #[.pointer (some ⟨w.heap.size, 0, none⟩), .pointer (some ⟨w.heap.size + 1 + 1, 0, none⟩), .pointer (some ⟨w.heap.size + 1, 0, none⟩)]] := (by repeat (first | (refine Blk.newAt _ _ _ ?_; first | rfl | (simp; done)) | refine Blk.alloc ?_ _))
    have bHB : Below w.heap.size w ((((((w.alloc (.cells #[hx, hy, hv, gx, gy, gv, lx, ly, lv, px, py, pv, nx, ny, nv, ax, ay, av, cx, cy, cv, dx, dy, dv, .int .i64 cl, .int .i64 bu] 27)).alloc (.cells #[.int .i64 wl, .int .i64 wh, .int .i64 tl, .int .i64 th, .int .i64 el, .int .i64 eh, .int .i64 nl, .int .i64 nh] 36)).alloc (.cells #[.int .i64 n] 3)).alloc (.cells #[.int .i64 0, .int .i64 0] 34)).alloc (.cells #[.int .i64 0, .int .i64 0] 34)).alloc (.cells #[.func (.func 84) #[] #[.pointer (some ⟨w.heap.size, 0, none⟩), .pointer (some ⟨w.heap.size + 1 + 1, 0, none⟩), .pointer (some ⟨w.heap.size + 1, 0, none⟩)]] 106)) := (by repeat' (first | exact Below.refl _ _ | assumption | refine Below.drew ?_ | refine bdn ?_ _ | refine bal ?_ _ | refine Below.setCell ?_ (by first | (simp; done) | omega | (simp; omega)) _))
    generalize ((((((w.alloc (.cells #[hx, hy, hv, gx, gy, gv, lx, ly, lv, px, py, pv, nx, ny, nv, ax, ay, av, cx, cy, cv, dx, dy, dv, .int .i64 cl, .int .i64 bu] 27)).alloc (.cells #[.int .i64 wl, .int .i64 wh, .int .i64 tl, .int .i64 th, .int .i64 el, .int .i64 eh, .int .i64 nl, .int .i64 nh] 36)).alloc (.cells #[.int .i64 n] 3)).alloc (.cells #[.int .i64 0, .int .i64 0] 34)).alloc (.cells #[.int .i64 0, .int .i64 0] 34)).alloc (.cells #[.func (.func 84) #[] #[.pointer (some ⟨w.heap.size, 0, none⟩), .pointer (some ⟨w.heap.size + 1 + 1, 0, none⟩), .pointer (some ⟨w.heap.size + 1, 0, none⟩)]] 106)) = W at *
    have zW := bHF.lt
    have HM := Lib.hid bHM
    have HA := Lib.hid bHA
    have HI := Lib.hid bHI
    have HY := Lib.hid bHY
    have HZ := Lib.hid bHZ
    have HF := Lib.hid bHF
    have HB := Lib.hid bHB
    clear bHM bHA bHI bHY bHZ bHF bHB
    go_wp2_with (first | (go_at_call 66; refine (HC.out _ (HR.out.below HB.out) (fun hr W' hW => glide2_c hx hy hv gx gy gv lx ly lv px py pv nx ny nv ax ay av cx cy cv dx dy dv cl bu wl wh tl th el eh nl nh S _ _ _ _ n W' (HR.out.d.below (bthen HB.out hW)) (HM.out.below hW) (HI.out.below hW) (HA.out.below hW) (HF.out.below hW) (rotB_d hr))).mono ?_; rintro e w1 ⟨rfl, hb1⟩; have nHM := Lib.hid (HM.out.below hb1); have nHA := Lib.hid (HA.out.below hb1); have nHI := Lib.hid (HI.out.below hb1); have nHY := Lib.hid (HY.out.below hb1); have nHZ := Lib.hid (HZ.out.below hb1); have nHF := Lib.hid (HF.out.below hb1); have nHB := Lib.hid (bthen HB.out hb1); have zz1 := hb1.size; clear HM HA HI HY HZ HF HB hb1; have HM := nHM; have HA := nHA; have HI := nHI; have HY := nHY; have HZ := nHZ; have HF := nHF; have HB := nHB; clear nHM nHA nHI nHY nHZ nHF nHB; (try clear zHI); have zHI := HI.out.lt; (try clear cHI0); have cHI0 := HI.out.cell 0; (try clear zHY); have zHY := HY.out.lt; (try clear cHY0); have cHY0 := HY.out.cell 0; (try clear cHY1); have cHY1 := HY.out.cell 1; (try clear fHY); have fHY := fun i => HY.out.frozen i; (try clear zHZ); have zHZ := HZ.out.lt; (try clear cHZ0); have cHZ0 := HZ.out.cell 0; (try clear cHZ1); have cHZ1 := HZ.out.cell 1; (try clear fHZ); have fHZ := fun i => HZ.out.frozen i; (try clear zHF); have zHF := HF.out.lt; (try clear cHF0); have cHF0 := HF.out.cell 0) | (go_at_call 53; (with_reducible refine (HI1.out _).mono ?_); rintro e w3 ⟨rfl, rfl⟩) | (go_at_call 53; (with_reducible refine (HI2.out _).mono ?_); rintro e w3 ⟨rfl, rfl⟩) | (go_at_call 84; (with_reducible refine (glide1_c hx hy hv gx gy gv lx ly lv px py pv nx ny nv ax ay av cx cy cv dx dy dv cl bu wl wh tl th el eh nl nh S _ _ _ n _ (HR.out.d.below HB.out) HM.out HI.out HA.out).mono ?_); rintro e w1 ⟨rfl, hb1⟩; have nHI := Lib.hid (HI.out.below hb1); have nHY := Lib.hid (HY.out.below hb1); have nHZ := Lib.hid (HZ.out.below hb1); have nHB := Lib.hid (bthen HB.out hb1); have zz1 := hb1.size; clear HI HY HZ HB hb1; have HI := nHI; have HY := nHY; have HZ := nHZ; have HB := nHB; clear nHI nHY nHZ nHB; (try clear zHI); have zHI := HI.out.lt; (try clear cHI0); have cHI0 := HI.out.cell 0) | (go_at_call 79; (with_reducible refine (B.out _ _ _ _ (HR.out.d.below HB.out) HF0.out).mono ?_); rintro e w1 ⟨rfl, hb1⟩; have nHI := Lib.hid (HI.out.below hb1); have nHY := Lib.hid (HY.out.below hb1); have nHZ := Lib.hid (HZ.out.below hb1); have nHB := Lib.hid (bthen HB.out hb1); have zz1 := hb1.size; clear HI HY HZ HB hb1; have HI := nHI; have HY := nHY; have HZ := nHZ; have HB := nHB; clear nHI nHY nHZ nHB; (try clear zHI); have zHI := HI.out.lt; (try clear cHI0); have cHI0 := HI.out.cell 0))
    have bHG := Blk.new w1 34 #[.int .i64 p0, .int .i64 p1]
    have nHI := Lib.hid (HI.out.alloc (.cells #[.int .i64 p0, .int .i64 p1] 34))
    have nHY := Lib.hid (HY.out.alloc (.cells #[.int .i64 p0, .int .i64 p1] 34))
    have nHZ := Lib.hid (HZ.out.alloc (.cells #[.int .i64 p0, .int .i64 p1] 34))
    have nHB := Lib.hid (bal HB.out (.cells #[.int .i64 p0, .int .i64 p1] 34))
    clear HI HY HZ HB
    have HI := nHI
    have HY := nHY
    have HZ := nHZ
    have HB := nHB
    clear nHI nHY nHZ nHB
    generalize w1.alloc (.cells #[.int .i64 p0, .int .i64 p1] 34) = W2 at *
    generalize w1.heap.size = gHG at *
    have HG := Lib.hid bHG
    clear bHG
    have aHI0 := fun (r : After W2) => (HI.out.below r.below).cell 0
    simp only [List.getElem?_toArray, List.getElem?_cons_succ, List.getElem?_cons_zero] at aHI0
    (refine wp_region_aftert 8 (by kernel_rfl) (by kernel_rfl) ?_; simp only [List.take_succ_cons, List.take_zero, List.drop_succ_cons, List.drop_zero]; (repeat (go_big_quiet_step ( first | (go_at_call 87; (with_reducible refine qafter (G1.out _ _ (HG.out.below (After.below _))))) | (go_at_call 87; (with_reducible refine qafter (G2.out _ _ (HG.out.below (After.below _)))))))); refine wpQuiet_nil ?_; rintro _ ⟨r, rfl⟩)
    have nHY := Lib.hid (HY.out.below r.below)
    have nHZ := Lib.hid (HZ.out.below r.below)
    have nHB := Lib.hid (bthen HB.out r.below)
    clear HY HZ HI HB HG aHI0
    have y0 := nHY.out.cell 0
    have y1 := nHY.out.cell 1
    have y2 := fun i => nHY.out.frozen i
    have z0 := nHZ.out.cell 0
    have z1 := nHZ.out.cell 1
    have z2 := fun i => nHZ.out.frozen i
    go_wp2_with fail
    have HY := Lib.hid ((((nHY.out.set_ 0 (.int .i64 T0)).set_ 1 (.int .i64 T1)).far' (f := w.heap.size + 1 + 1 + 1 + 1) (by omega) (i := 0) (.int .i64 F0)).far' (f := w.heap.size + 1 + 1 + 1 + 1) (by omega) (i := 1) (.int .i64 F1))
    have HZ := Lib.hid ((((nHZ.out.far' (f := w.heap.size + 1 + 1 + 1) (by omega) (i := 0) (.int .i64 T0)).far' (f := w.heap.size + 1 + 1 + 1) (by omega) (i := 1) (.int .i64 T1)).set_ 0 (.int .i64 F0)).set_ 1 (.int .i64 F1))
    have HB := Lib.hid (bset (bset (bset (bset nHB.out (g := w.heap.size + 1 + 1 + 1) (by omega) (i := 0) (.int .i64 T0)) (g := w.heap.size + 1 + 1 + 1) (by omega) (i := 1) (.int .i64 T1)) (g := w.heap.size + 1 + 1 + 1 + 1) (by omega) (i := 0) (.int .i64 F0)) (g := w.heap.size + 1 + 1 + 1 + 1) (by omega) (i := 1) (.int .i64 F1))
    clear nHY nHZ nHB y0 y1 y2 z0 z1 z2
    generalize (((r.w.setCell ⟨w.heap.size + 1 + 1 + 1, 0, none⟩ (.int .i64 T0)).setCell ⟨w.heap.size + 1 + 1 + 1, 1, none⟩ (.int .i64 T1)).setCell ⟨w.heap.size + 1 + 1 + 1 + 1, 0, none⟩ (.int .i64 F0)).setCell ⟨w.heap.size + 1 + 1 + 1 + 1, 1, none⟩ (.int .i64 F1) = W5 at *
    have zHY := HY.out.lt
    have cHY0 := HY.out.cell 0
    have cHY1 := HY.out.cell 1
    have fHY := fun i => HY.out.frozen i
    have zHZ := HZ.out.lt
    have cHZ0 := HZ.out.cell 0
    have cHZ1 := HZ.out.cell 1
    have fHZ := fun i => HZ.out.frozen i
    go_wp2_with (first | (go_at_call 88; (with_reducible refine (HC1.out _).mono ?_); rintro e w1 ⟨rfl, hb1⟩; have nHY := Lib.hid (HY.out.below hb1); have nHZ := Lib.hid (HZ.out.below hb1); have nHB := Lib.hid (bthen HB.out hb1); have zz1 := hb1.size; clear HY HZ HB hb1; have HY := nHY; have HZ := nHZ; have HB := nHB; clear nHY nHZ nHB; (try clear zHY); have zHY := HY.out.lt; (try clear cHY0); have cHY0 := HY.out.cell 0; (try clear cHY1); have cHY1 := HY.out.cell 1; (try clear fHY); have fHY := fun i => HY.out.frozen i; (try clear zHZ); have zHZ := HZ.out.lt; (try clear cHZ0); have cHZ0 := HZ.out.cell 0; (try clear cHZ1); have cHZ1 := HZ.out.cell 1; (try clear fHZ); have fHZ := fun i => HZ.out.frozen i) | (go_at_call 88; (with_reducible refine (HC2.out _).mono ?_); rintro e w1 ⟨rfl, hb1⟩; have nHY := Lib.hid (HY.out.below hb1); have nHZ := Lib.hid (HZ.out.below hb1); have nHB := Lib.hid (bthen HB.out hb1); have zz1 := hb1.size; clear HY HZ HB hb1; have HY := nHY; have HZ := nHZ; have HB := nHB; clear nHY nHZ nHB; (try clear zHY); have zHY := HY.out.lt; (try clear cHY0); have cHY0 := HY.out.cell 0; (try clear cHY1); have cHY1 := HY.out.cell 1; (try clear fHY); have fHY := fun i => HY.out.frozen i; (try clear zHZ); have zHZ := HZ.out.lt; (try clear cHZ0); have cHZ0 := HZ.out.cell 0; (try clear cHZ1); have cHZ1 := HZ.out.cell 1; (try clear fHZ); have fHZ := fun i => HZ.out.frozen i))
    exact bodyPost_ret (res_cct rfl _ _ _ #[.int .i64 0, .int .i64 0] #[.int .i64 0, .int .i64 0] 2 2 rfl rfl ((((HY.out.set_ 0 _).set_ 1 _).far' (by omega) _).far' (by omega) _) Try.rowSpan rfl ((((HZ.out.far' (by omega) _).far' (by omega) _).set_ 0 _).set_ 1 _) Try.rowSpan rfl) rfl ⟨rfl, (bset (bset (bset (bset HB.out (by omega) _) (by omega) _) (by omega) _) (by omega) _)⟩
  have HC1 := Lib.hid C1
  have HC2 := Lib.hid C2
  clear C1 C2
  rw [Bool.true_and, if_pos rfl, okN_ok, okN_ok, okN_ok, okN_ok]
  go_enter Try.func35, Try.ntmps35
  go_wp2_with (first | (refine wpl_row rfl 27 _ rfl _ rfl #[hx, hy, hv, gx, gy, gv, lx, ly, lv, px, py, pv, nx, ny, nv, ax, ay, av, cx, cy, cv, dx, dy, dv, .int .i64 cl, .int .i64 bu] 26 ?_ Try.rowRot rfl ?_; (focus exact (by repeat (first | (refine Blk.newAt _ _ _ ?_; first | rfl | (simp; done)) | refine Blk.alloc ?_ _))); simp only [Act.put]) | (refine wpl_row rfl 36 _ rfl _ rfl #[.int .i64 wl, .int .i64 wh, .int .i64 tl, .int .i64 th, .int .i64 el, .int .i64 eh, .int .i64 nl, .int .i64 nh] 8 ?_ Try.rowAir rfl ?_; (focus exact (by repeat (first | (refine Blk.newAt _ _ _ ?_; first | rfl | (simp; done)) | refine Blk.alloc ?_ _))); simp only [Act.put]))
  have bHM : Blk ((((((w.alloc (.cells #[hx, hy, hv, gx, gy, gv, lx, ly, lv, px, py, pv, nx, ny, nv, ax, ay, av, cx, cy, cv, dx, dy, dv, .int .i64 cl, .int .i64 bu] 27)).alloc (.cells #[.int .i64 wl, .int .i64 wh, .int .i64 tl, .int .i64 th, .int .i64 el, .int .i64 eh, .int .i64 nl, .int .i64 nh] 36)).alloc (.cells #[.int .i64 n] 3)).alloc (.cells #[.int .i64 0, .int .i64 0] 34)).alloc (.cells #[.int .i64 0, .int .i64 0] 34)).alloc (.cells #[.func (.func 84) #[] #[.pointer (some ⟨w.heap.size, 0, none⟩), .pointer (some ⟨w.heap.size + 1 + 1, 0, none⟩), .pointer (some ⟨w.heap.size + 1, 0, none⟩)]] 106)) (w.heap.size) 27 #[hx, hy, hv, gx, gy, gv, lx, ly, lv, px, py, pv, nx, ny, nv, ax, ay, av, cx, cy, cv, dx, dy, dv, .int .i64 cl, .int .i64 bu] := (by repeat (first | (refine Blk.newAt _ _ _ ?_; first | rfl | (simp; done)) | refine Blk.alloc ?_ _))
  have bHA : Blk ((((((w.alloc (.cells #[hx, hy, hv, gx, gy, gv, lx, ly, lv, px, py, pv, nx, ny, nv, ax, ay, av, cx, cy, cv, dx, dy, dv, .int .i64 cl, .int .i64 bu] 27)).alloc (.cells #[.int .i64 wl, .int .i64 wh, .int .i64 tl, .int .i64 th, .int .i64 el, .int .i64 eh, .int .i64 nl, .int .i64 nh] 36)).alloc (.cells #[.int .i64 n] 3)).alloc (.cells #[.int .i64 0, .int .i64 0] 34)).alloc (.cells #[.int .i64 0, .int .i64 0] 34)).alloc (.cells #[.func (.func 84) #[] #[.pointer (some ⟨w.heap.size, 0, none⟩), .pointer (some ⟨w.heap.size + 1 + 1, 0, none⟩), .pointer (some ⟨w.heap.size + 1, 0, none⟩)]] 106)) (w.heap.size + 1) 36 #[.int .i64 wl, .int .i64 wh, .int .i64 tl, .int .i64 th, .int .i64 el, .int .i64 eh, .int .i64 nl, .int .i64 nh] := (by repeat (first | (refine Blk.newAt _ _ _ ?_; first | rfl | (simp; done)) | refine Blk.alloc ?_ _))
  have bHI : Blk ((((((w.alloc (.cells #[hx, hy, hv, gx, gy, gv, lx, ly, lv, px, py, pv, nx, ny, nv, ax, ay, av, cx, cy, cv, dx, dy, dv, .int .i64 cl, .int .i64 bu] 27)).alloc (.cells #[.int .i64 wl, .int .i64 wh, .int .i64 tl, .int .i64 th, .int .i64 el, .int .i64 eh, .int .i64 nl, .int .i64 nh] 36)).alloc (.cells #[.int .i64 n] 3)).alloc (.cells #[.int .i64 0, .int .i64 0] 34)).alloc (.cells #[.int .i64 0, .int .i64 0] 34)).alloc (.cells #[.func (.func 84) #[] #[.pointer (some ⟨w.heap.size, 0, none⟩), .pointer (some ⟨w.heap.size + 1 + 1, 0, none⟩), .pointer (some ⟨w.heap.size + 1, 0, none⟩)]] 106)) (w.heap.size + 1 + 1) 3 #[.int .i64 n] := (by repeat (first | (refine Blk.newAt _ _ _ ?_; first | rfl | (simp; done)) | refine Blk.alloc ?_ _))
  have bHY : Blk ((((((w.alloc (.cells #[hx, hy, hv, gx, gy, gv, lx, ly, lv, px, py, pv, nx, ny, nv, ax, ay, av, cx, cy, cv, dx, dy, dv, .int .i64 cl, .int .i64 bu] 27)).alloc (.cells #[.int .i64 wl, .int .i64 wh, .int .i64 tl, .int .i64 th, .int .i64 el, .int .i64 eh, .int .i64 nl, .int .i64 nh] 36)).alloc (.cells #[.int .i64 n] 3)).alloc (.cells #[.int .i64 0, .int .i64 0] 34)).alloc (.cells #[.int .i64 0, .int .i64 0] 34)).alloc (.cells #[.func (.func 84) #[] #[.pointer (some ⟨w.heap.size, 0, none⟩), .pointer (some ⟨w.heap.size + 1 + 1, 0, none⟩), .pointer (some ⟨w.heap.size + 1, 0, none⟩)]] 106)) (w.heap.size + 1 + 1 + 1) 34 #[.int .i64 0, .int .i64 0] := (by repeat (first | (refine Blk.newAt _ _ _ ?_; first | rfl | (simp; done)) | refine Blk.alloc ?_ _))
  have bHZ : Blk ((((((w.alloc (.cells #[hx, hy, hv, gx, gy, gv, lx, ly, lv, px, py, pv, nx, ny, nv, ax, ay, av, cx, cy, cv, dx, dy, dv, .int .i64 cl, .int .i64 bu] 27)).alloc (.cells #[.int .i64 wl, .int .i64 wh, .int .i64 tl, .int .i64 th, .int .i64 el, .int .i64 eh, .int .i64 nl, .int .i64 nh] 36)).alloc (.cells #[.int .i64 n] 3)).alloc (.cells #[.int .i64 0, .int .i64 0] 34)).alloc (.cells #[.int .i64 0, .int .i64 0] 34)).alloc (.cells #[.func (.func 84) #[] #[.pointer (some ⟨w.heap.size, 0, none⟩), .pointer (some ⟨w.heap.size + 1 + 1, 0, none⟩), .pointer (some ⟨w.heap.size + 1, 0, none⟩)]] 106)) (w.heap.size + 1 + 1 + 1 + 1) 34 #[.int .i64 0, .int .i64 0] := (by repeat (first | (refine Blk.newAt _ _ _ ?_; first | rfl | (simp; done)) | refine Blk.alloc ?_ _))
  have bHF : Blk ((((((w.alloc (.cells #[hx, hy, hv, gx, gy, gv, lx, ly, lv, px, py, pv, nx, ny, nv, ax, ay, av, cx, cy, cv, dx, dy, dv, .int .i64 cl, .int .i64 bu] 27)).alloc (.cells #[.int .i64 wl, .int .i64 wh, .int .i64 tl, .int .i64 th, .int .i64 el, .int .i64 eh, .int .i64 nl, .int .i64 nh] 36)).alloc (.cells #[.int .i64 n] 3)).alloc (.cells #[.int .i64 0, .int .i64 0] 34)).alloc (.cells #[.int .i64 0, .int .i64 0] 34)).alloc (.cells #[.func (.func 84) #[] #[.pointer (some ⟨w.heap.size, 0, none⟩), .pointer (some ⟨w.heap.size + 1 + 1, 0, none⟩), .pointer (some ⟨w.heap.size + 1, 0, none⟩)]] 106)) (w.heap.size + 1 + 1 + 1 + 1 + 1) 106 #[.func (.func 84) #[] #[.pointer (some ⟨w.heap.size, 0, none⟩), .pointer (some ⟨w.heap.size + 1 + 1, 0, none⟩), .pointer (some ⟨w.heap.size + 1, 0, none⟩)]] := (by repeat (first | (refine Blk.newAt _ _ _ ?_; first | rfl | (simp; done)) | refine Blk.alloc ?_ _))
  have bHB : Below w.heap.size w ((((((w.alloc (.cells #[hx, hy, hv, gx, gy, gv, lx, ly, lv, px, py, pv, nx, ny, nv, ax, ay, av, cx, cy, cv, dx, dy, dv, .int .i64 cl, .int .i64 bu] 27)).alloc (.cells #[.int .i64 wl, .int .i64 wh, .int .i64 tl, .int .i64 th, .int .i64 el, .int .i64 eh, .int .i64 nl, .int .i64 nh] 36)).alloc (.cells #[.int .i64 n] 3)).alloc (.cells #[.int .i64 0, .int .i64 0] 34)).alloc (.cells #[.int .i64 0, .int .i64 0] 34)).alloc (.cells #[.func (.func 84) #[] #[.pointer (some ⟨w.heap.size, 0, none⟩), .pointer (some ⟨w.heap.size + 1 + 1, 0, none⟩), .pointer (some ⟨w.heap.size + 1, 0, none⟩)]] 106)) := (by repeat' (first | exact Below.refl _ _ | assumption | refine Below.drew ?_ | refine bdn ?_ _ | refine bal ?_ _ | refine Below.setCell ?_ (by first | (simp; done) | omega | (simp; omega)) _))
  generalize ((((((w.alloc (.cells #[hx, hy, hv, gx, gy, gv, lx, ly, lv, px, py, pv, nx, ny, nv, ax, ay, av, cx, cy, cv, dx, dy, dv, .int .i64 cl, .int .i64 bu] 27)).alloc (.cells #[.int .i64 wl, .int .i64 wh, .int .i64 tl, .int .i64 th, .int .i64 el, .int .i64 eh, .int .i64 nl, .int .i64 nh] 36)).alloc (.cells #[.int .i64 n] 3)).alloc (.cells #[.int .i64 0, .int .i64 0] 34)).alloc (.cells #[.int .i64 0, .int .i64 0] 34)).alloc (.cells #[.func (.func 84) #[] #[.pointer (some ⟨w.heap.size, 0, none⟩), .pointer (some ⟨w.heap.size + 1 + 1, 0, none⟩), .pointer (some ⟨w.heap.size + 1, 0, none⟩)]] 106)) = W at *
  have zW := bHF.lt
  have HM := Lib.hid bHM
  have HA := Lib.hid bHA
  have HI := Lib.hid bHI
  have HY := Lib.hid bHY
  have HZ := Lib.hid bHZ
  have HF := Lib.hid bHF
  have HB := Lib.hid bHB
  clear bHM bHA bHI bHY bHZ bHF bHB
  go_wp2_with (first | (go_at_call 66; refine (HC.out _ (HR.out.below HB.out) (fun hr W' hW => glide2_c hx hy hv gx gy gv lx ly lv px py pv nx ny nv ax ay av cx cy cv dx dy dv cl bu wl wh tl th el eh nl nh S _ _ _ _ n W' (HR.out.d.below (bthen HB.out hW)) (HM.out.below hW) (HI.out.below hW) (HA.out.below hW) (HF.out.below hW) (rotB_d hr))).mono ?_; rintro e w1 ⟨rfl, hb1⟩; have nHM := Lib.hid (HM.out.below hb1); have nHA := Lib.hid (HA.out.below hb1); have nHI := Lib.hid (HI.out.below hb1); have nHY := Lib.hid (HY.out.below hb1); have nHZ := Lib.hid (HZ.out.below hb1); have nHF := Lib.hid (HF.out.below hb1); have nHB := Lib.hid (bthen HB.out hb1); have zz1 := hb1.size; clear HM HA HI HY HZ HF HB hb1; have HM := nHM; have HA := nHA; have HI := nHI; have HY := nHY; have HZ := nHZ; have HF := nHF; have HB := nHB; clear nHM nHA nHI nHY nHZ nHF nHB; (try clear zHI); have zHI := HI.out.lt; (try clear cHI0); have cHI0 := HI.out.cell 0; (try clear zHY); have zHY := HY.out.lt; (try clear cHY0); have cHY0 := HY.out.cell 0; (try clear cHY1); have cHY1 := HY.out.cell 1; (try clear fHY); have fHY := fun i => HY.out.frozen i; (try clear zHZ); have zHZ := HZ.out.lt; (try clear cHZ0); have cHZ0 := HZ.out.cell 0; (try clear cHZ1); have cHZ1 := HZ.out.cell 1; (try clear fHZ); have fHZ := fun i => HZ.out.frozen i; (try clear zHF); have zHF := HF.out.lt; (try clear cHF0); have cHF0 := HF.out.cell 0) | (go_at_call 53; (with_reducible refine (HI1.out _).mono ?_); rintro e w3 ⟨rfl, rfl⟩) | (go_at_call 53; (with_reducible refine (HI2.out _).mono ?_); rintro e w3 ⟨rfl, rfl⟩) | (go_at_call 84; (with_reducible refine (glide1_c hx hy hv gx gy gv lx ly lv px py pv nx ny nv ax ay av cx cy cv dx dy dv cl bu wl wh tl th el eh nl nh S _ _ _ n _ (HR.out.d.below HB.out) HM.out HI.out HA.out).mono ?_); rintro e w1 ⟨rfl, hb1⟩; have nHI := Lib.hid (HI.out.below hb1); have nHY := Lib.hid (HY.out.below hb1); have nHZ := Lib.hid (HZ.out.below hb1); have nHB := Lib.hid (bthen HB.out hb1); have zz1 := hb1.size; clear HI HY HZ HB hb1; have HI := nHI; have HY := nHY; have HZ := nHZ; have HB := nHB; clear nHI nHY nHZ nHB; (try clear zHI); have zHI := HI.out.lt; (try clear cHI0); have cHI0 := HI.out.cell 0) | (go_at_call 79; (with_reducible refine (B.out _ _ _ _ (HR.out.d.below HB.out) HF0.out).mono ?_); rintro e w1 ⟨rfl, hb1⟩; have nHI := Lib.hid (HI.out.below hb1); have nHY := Lib.hid (HY.out.below hb1); have nHZ := Lib.hid (HZ.out.below hb1); have nHB := Lib.hid (bthen HB.out hb1); have zz1 := hb1.size; clear HI HY HZ HB hb1; have HI := nHI; have HY := nHY; have HZ := nHZ; have HB := nHB; clear nHI nHY nHZ nHB; (try clear zHI); have zHI := HI.out.lt; (try clear cHI0); have cHI0 := HI.out.cell 0))
  have bHG := Blk.new w1 34 #[.int .i64 p0, .int .i64 p1]
  have nHI := Lib.hid (HI.out.alloc (.cells #[.int .i64 p0, .int .i64 p1] 34))
  have nHY := Lib.hid (HY.out.alloc (.cells #[.int .i64 p0, .int .i64 p1] 34))
  have nHZ := Lib.hid (HZ.out.alloc (.cells #[.int .i64 p0, .int .i64 p1] 34))
  have nHB := Lib.hid (bal HB.out (.cells #[.int .i64 p0, .int .i64 p1] 34))
  clear HI HY HZ HB
  have HI := nHI
  have HY := nHY
  have HZ := nHZ
  have HB := nHB
  clear nHI nHY nHZ nHB
  generalize w1.alloc (.cells #[.int .i64 p0, .int .i64 p1] 34) = W2 at *
  generalize w1.heap.size = gHG at *
  have HG := Lib.hid bHG
  clear bHG
  have aHI0 := fun (r : After W2) => (HI.out.below r.below).cell 0
  simp only [List.getElem?_toArray, List.getElem?_cons_succ, List.getElem?_cons_zero] at aHI0
  (refine wp_region_aftert 8 (by kernel_rfl) (by kernel_rfl) ?_; simp only [List.take_succ_cons, List.take_zero, List.drop_succ_cons, List.drop_zero]; (repeat (go_big_quiet_step ( first | (go_at_call 87; (with_reducible refine qafter (G1.out _ _ (HG.out.below (After.below _))))) | (go_at_call 87; (with_reducible refine qafter (G2.out _ _ (HG.out.below (After.below _)))))))); refine wpQuiet_nil ?_; rintro _ ⟨r, rfl⟩)
  have nHY := Lib.hid (HY.out.below r.below)
  have nHZ := Lib.hid (HZ.out.below r.below)
  have nHB := Lib.hid (bthen HB.out r.below)
  clear HY HZ HI HB HG aHI0
  have y0 := nHY.out.cell 0
  have y1 := nHY.out.cell 1
  have y2 := fun i => nHY.out.frozen i
  have z0 := nHZ.out.cell 0
  have z1 := nHZ.out.cell 1
  have z2 := fun i => nHZ.out.frozen i
  go_wp2_with fail
  have HY := Lib.hid ((((nHY.out.set_ 0 (.int .i64 T0)).set_ 1 (.int .i64 T1)).far' (f := w.heap.size + 1 + 1 + 1 + 1) (by omega) (i := 0) (.int .i64 F0)).far' (f := w.heap.size + 1 + 1 + 1 + 1) (by omega) (i := 1) (.int .i64 F1))
  have HZ := Lib.hid ((((nHZ.out.far' (f := w.heap.size + 1 + 1 + 1) (by omega) (i := 0) (.int .i64 T0)).far' (f := w.heap.size + 1 + 1 + 1) (by omega) (i := 1) (.int .i64 T1)).set_ 0 (.int .i64 F0)).set_ 1 (.int .i64 F1))
  have HB := Lib.hid (bset (bset (bset (bset nHB.out (g := w.heap.size + 1 + 1 + 1) (by omega) (i := 0) (.int .i64 T0)) (g := w.heap.size + 1 + 1 + 1) (by omega) (i := 1) (.int .i64 T1)) (g := w.heap.size + 1 + 1 + 1 + 1) (by omega) (i := 0) (.int .i64 F0)) (g := w.heap.size + 1 + 1 + 1 + 1) (by omega) (i := 1) (.int .i64 F1))
  clear nHY nHZ nHB y0 y1 y2 z0 z1 z2
  generalize (((r.w.setCell ⟨w.heap.size + 1 + 1 + 1, 0, none⟩ (.int .i64 T0)).setCell ⟨w.heap.size + 1 + 1 + 1, 1, none⟩ (.int .i64 T1)).setCell ⟨w.heap.size + 1 + 1 + 1 + 1, 0, none⟩ (.int .i64 F0)).setCell ⟨w.heap.size + 1 + 1 + 1 + 1, 1, none⟩ (.int .i64 F1) = W5 at *
  have zHY := HY.out.lt
  have cHY0 := HY.out.cell 0
  have cHY1 := HY.out.cell 1
  have fHY := fun i => HY.out.frozen i
  have zHZ := HZ.out.lt
  have cHZ0 := HZ.out.cell 0
  have cHZ1 := HZ.out.cell 1
  have fHZ := fun i => HZ.out.frozen i
  go_wp2_with (first | (go_at_call 88; (with_reducible refine (HC1.out _).mono ?_); rintro e w1 ⟨rfl, hb1⟩; have nHY := Lib.hid (HY.out.below hb1); have nHZ := Lib.hid (HZ.out.below hb1); have nHB := Lib.hid (bthen HB.out hb1); have zz1 := hb1.size; clear HY HZ HB hb1; have HY := nHY; have HZ := nHZ; have HB := nHB; clear nHY nHZ nHB; (try clear zHY); have zHY := HY.out.lt; (try clear cHY0); have cHY0 := HY.out.cell 0; (try clear cHY1); have cHY1 := HY.out.cell 1; (try clear fHY); have fHY := fun i => HY.out.frozen i; (try clear zHZ); have zHZ := HZ.out.lt; (try clear cHZ0); have cHZ0 := HZ.out.cell 0; (try clear cHZ1); have cHZ1 := HZ.out.cell 1; (try clear fHZ); have fHZ := fun i => HZ.out.frozen i) | (go_at_call 88; (with_reducible refine (HC2.out _).mono ?_); rintro e w1 ⟨rfl, hb1⟩; have nHY := Lib.hid (HY.out.below hb1); have nHZ := Lib.hid (HZ.out.below hb1); have nHB := Lib.hid (bthen HB.out hb1); have zz1 := hb1.size; clear HY HZ HB hb1; have HY := nHY; have HZ := nHZ; have HB := nHB; clear nHY nHZ nHB; (try clear zHY); have zHY := HY.out.lt; (try clear cHY0); have cHY0 := HY.out.cell 0; (try clear cHY1); have cHY1 := HY.out.cell 1; (try clear fHY); have fHY := fun i => HY.out.frozen i; (try clear zHZ); have zHZ := HZ.out.lt; (try clear cHZ0); have cHZ0 := HZ.out.cell 0; (try clear cHZ1); have cHZ1 := HZ.out.cell 1; (try clear fHZ); have fHZ := fun i => HZ.out.frozen i))
  go_region
  go_wp2
  exact bodyPost_ret (res_cct rfl _ _ _ #[.int .i64 T0, .int .i64 T1] #[.int .i64 F0, .int .i64 F1] 2 2 rfl rfl (Blk.drew ((((HY.out.set_ 0 _).set_ 1 _).far' (by omega) _).far' (by omega) _)) Try.rowSpan rfl (Blk.drew ((((HZ.out.far' (by omega) _).far' (by omega) _).set_ 0 _).set_ 1 _)) Try.rowSpan rfl) rfl ⟨rfl, (Below.drew (bset (bset (bset (bset HB.out (by omega) _) (by omega) _) (by omega) _) (by omega) _))⟩
end Go.Proofs.Ytoembbcddhlokaa
