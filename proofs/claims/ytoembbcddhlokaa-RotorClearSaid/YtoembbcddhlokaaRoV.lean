/- Contracts: Descent of package rotor. -/
import Derived.Test.YtoembbcddhlokaaRoS
import Derived.Test.YtoembbcddhlokaaRgM
import Derived.Test.YtoembbcddhlokaaRgN
set_option linter.all false
namespace Go.Proofs.Ytoembbcddhlokaa
open Go Go.RowKit Go.Proofs
set_option maxRecDepth 100000
set_option maxHeartbeats 4000000


theorem descT_c (hx hy hv gx gy gv lx ly lv px py pv nx ny nv ax ay av cx cy cv dx dy dv : Value) (cl bu wl wh tl th el eh nl nh : Int) (S : Tabs) (b c : Nat) (w0 w : World) (hR : RotAt w0 hx hy hv gx gy gv lx ly lv px py pv nx ny nv ax ay av cx cy cv dx dy dv cl bu S) (hb : Below w0.heap.size w0 w) (hM : Blk w b 88 #[hx, hy, hv, gx, gy, gv, lx, ly, lv, px, py, pv, nx, ny, nv, ax, ay, av, cx, cy, cv, dx, dy, dv, .int .i64 cl, .int .i64 bu, .int .i64 wl, .int .i64 wh, .int .i64 tl, .int .i64 th, .int .i64 el, .int .i64 eh, .int .i64 nl, .int .i64 nh]) (hr : Blk w c 27 #[hx, hy, hv, gx, gy, gv, lx, ly, lv, px, py, pv, nx, ny, nv, ax, ay, av, cx, cy, cv, dx, dy, dv, .int .i64 cl, .int .i64 bu]) (h1 : rightB S.a 0 10000 = true) :
   Calls Try.prog 95 #[.pointer (some ⟨b, 0, none⟩), .pointer (some ⟨c, 0, none⟩)] w fun e w' => ∃ v, e = .returned v ∧ Looks w' v 1 (look1 ⟨S.a, nth S.a.X 0, nth S.a.X 0, wl, wh⟩) ∧ Below w.heap.size w w' := by
  have HR := Lib.hid (hR.below hb)
  have hM2 := Lib.hid (fun r : After w => hM.below r.below)
  have hR2 := Lib.hid (fun r : After w => HR.out.below r.below)
  have HP1 := Lib.hid (lkE_pos h1)
  have c0 : ∀ r : After w, r.w.cell? ⟨c, 15, none⟩ = some ax := fun r => (hr.below r.below).cell 15
  obtain ⟨b2, off, e2, hl2, hc2⟩ : ∃ b2 off, (∃ n c, ax = .slice (some ⟨b2, off, none⟩) n c ∧ 0 < n) ∧ b2 < w.heap.size ∧ w.cell? ⟨b2, off, none⟩ = some (.int .i64 (nth S.a.X 0)) := by
    obtain ⟨A, c', e, -, -, -, hA⟩ := HR.out.a.x
    obtain ⟨b2, off, rfl, hlt, hk⟩ := hA HP1.out.1
    exact ⟨b2, off, ⟨_, _, e, HP1.out.1⟩, hlt, by simpa using hk 0 HP1.out.1⟩
  obtain ⟨n1, d1, rfl, hn1⟩ := e2
  have c1 : ∀ r : After w, r.w.cell? ⟨b2, off, none⟩ = some (.int .i64 (nth S.a.X 0)) := fun r => (r.below.cell (p := ⟨b2, off, none⟩) hl2).trans hc2
  clear hR hb hM h1 hr hc2
  generalize nth S.a.X 0 = x0 at *
  obtain ⟨a2, n2, d2, rfl⟩ := HR.out.a.s2
  obtain ⟨a3, n3, d3, rfl⟩ := HR.out.a.s3
  go_enter Try.func95, Try.ntmps95
  go_wp2
  refine wp_region_aftert 8 (by kernel_rfl) (by kernel_rfl) ?_
  simp only [List.take_succ_cons, List.take_zero, List.drop_succ_cons, List.drop_zero]
  repeat (first | (refine wpq_row rfl 88 (.tmp 0) rfl _ rfl _ 34 (fun _ hw => by obtain ⟨r, rfl⟩ := hw; exact hM2.out r) Try.rowMach rfl ?_; simp only [Act.put, List.setIfInBounds_toArray, List.set_cons_succ, List.set_cons_zero]) | go_big_quiet_step (first | (go_at_call 68; (with_reducible refine qafter (ring_c _ _ _ _ _ _ _ _ _ _ _ _ _ _ _ _ _ _ _ _ _ _ _ _ _ _ _ _ _ _ _ _ _ _ HR.out.a.s1 HR.out.a.s2 HR.out.a.s3 _ _ _))) | (go_at_call 85; (with_reducible refine qafter (one_c _ _)))))
  refine wpQuiet_nil ?_
  rintro _ ⟨r, rfl⟩
  have BR := r.below
  have RR := Lib.hid (hR2.out r)
  clear c0 c1
  go_wp2
  go_ret
  exact ⟨_, rfl, looks1 (a := ⟨S.a, x0, x0, wl, wh⟩) (Blk.new _ _ _) (RR.out.a.below (bal (Below.refl _ _) _)) HP1.out.1 HP1.out.2, bal BR _⟩

/-- What a slice of drops reads as: five numbers each (speed, sink, ticks). -/
def DropsAt (w : World) (A : Option Addr) (n : Nat) (D : Nat → Nat → Int) : Prop :=
  0 < n → ∃ b off, A = some ⟨b, off, none⟩ ∧ b < w.heap.size ∧ ∀ k, k < n → ∀ j, j < 5 → w.cell? ⟨b, off + k * 5 + j, none⟩ = some (.int .i64 (D k j))
theorem DropsAt.below {w w' : World} {A : Option Addr} {n : Nat} {D : Nat → Nat → Int} (h : DropsAt w A n D) (hb : Below w.heap.size w w') : DropsAt w' A n D := by
  intro hn
  obtain ⟨b, off, hA, hlt, hc⟩ := h hn
  exact ⟨b, off, hA, Nat.lt_of_lt_of_le hlt hb.size, fun k hk j hj => (hb.cell (p := ⟨b, off + k * 5 + j, none⟩) hlt).trans (hc k hk j hj)⟩

def dBad (S : Tabs) (wl wh : Int) (d : Nat → Int) : Bool := !inB (d 4) 0 1000 || (!vspan (d 0) (d 1) || (!vspan (d 2) (d 3) || !lkE S.a (d 0) (d 1) wl wh))
def dWak (S : Tabs) (wl wh : Int) (d : Nat → Int) : Bool := wakV S wl wh (d 0) (d 1) (d 2) (d 3)
/-- Where the drops stop, and why. -/
def dScan (S : Tabs) (wl wh : Int) (D : Nat → Nat → Int) : Nat → Nat → Int × Int
  | 0, _ => (0, 0)
  | m + 1, k => if dBad S wl wh (D k) = true then ((k : Int), 1) else if dWak S wl wh (D k) = true then ((k : Int), 22) else dScan S wl wh D m (k + 1)
def dLo (D : Nat → Nat → Int) : Nat → Int
  | 0 => 0
  | k + 1 => dLo D k + D k 2 * D k 4
def dHi (D : Nat → Nat → Int) : Nat → Int
  | 0 => 0
  | k + 1 => dHi D k + D k 3 * D k 4
def desC (S : Tabs) (cl bu : Int) (wl wh tl th el eh nl nh : Int) : Int := chkE (rotB S cl bu) (airB wl wh tl th el eh nl nh) false (!lkE S.a (nth S.a.X 0) (nth S.a.X 0) wl wh)
def desV (S : Tabs) (cl bu : Int) (wl wh tl th el eh nl nh : Int) (n : Nat) (D : Nat → Nat → Int) : Int × Int × Int × Int :=
  if desC S cl bu wl wh tl th el eh nl nh ≠ 0 then (0, 0, 0, desC S cl bu wl wh tl th el eh nl nh) else if 50 < n then (0, 0, 0, 2) else
    if (dScan S wl wh D n 0).2 ≠ 0 then (0, 0, dScan S wl wh D n 0) else if vspan (dLo D n) (dHi D n) = true then (dLo D n, dHi D n, 0, 0) else (0, 0, 0, 2)

theorem dScan_bad {S : Tabs} {wl wh : Int} {D : Nat → Nat → Int} {n k : Nat} (hk : k < n) (h : dBad S wl wh (D k) = true) : dScan S wl wh D (n - k) k = ((k : Int), 1) := by
  rw [show n - k = (n - k - 1) + 1 by omega]; unfold dScan; rw [if_pos h]
theorem dScan_wak {S : Tabs} {wl wh : Int} {D : Nat → Nat → Int} {n k : Nat} (hk : k < n) (h : dBad S wl wh (D k) = false) (h2 : dWak S wl wh (D k) = true) : dScan S wl wh D (n - k) k = ((k : Int), 22) := by
  rw [show n - k = (n - k - 1) + 1 by omega]; unfold dScan; rw [h, if_neg (by decide), if_pos h2]
theorem dScan_next {S : Tabs} {wl wh : Int} {D : Nat → Nat → Int} {n k : Nat} (hk : k < n) (h : dBad S wl wh (D k) = false) (h2 : dWak S wl wh (D k) = false) : dScan S wl wh D (n - k) k = dScan S wl wh D (n - (k + 1)) (k + 1) := by
  rw [show n - k = (n - (k + 1)) + 1 by omega]
  conv => lhs; unfold dScan
  rw [h, if_neg (by decide), h2, if_neg (by decide)]

theorem dStep {D : Nat → Nat → Int} {k : Nat} (hk : k ≤ 1000) (h1 : inB (D k 4) 0 1000 = true) (h3 : vspan (D k 2) (D k 3) = true)
    (hx : -1000000000 * (k : Int) ≤ dLo D k ∧ dLo D k ≤ 1000000000 * (k : Int) ∧ -1000000000 * (k : Int) ≤ dHi D k ∧ dHi D k ≤ 1000000000 * (k : Int)) :
    ∃ M0 L1 M1 H1 : Int, wrap64 (D k 2 * D k 4) = M0 ∧ wrap64 (dLo D k + M0) = L1 ∧ wrap64 (D k 3 * D k 4) = M1 ∧ wrap64 (dHi D k + M1) = H1 ∧ L1 = dLo D (k + 1) ∧ H1 = dHi D (k + 1) ∧
      -1000000000 * ((k : Int) + 1) ≤ dLo D (k + 1) ∧ dLo D (k + 1) ≤ 1000000000 * ((k : Int) + 1) ∧ -1000000000 * ((k : Int) + 1) ≤ dHi D (k + 1) ∧ dHi D (k + 1) ≤ 1000000000 * ((k : Int) + 1) := by
  obtain ⟨t0, t1⟩ := inB_iff.1 h1
  obtain ⟨b0, b1, b2⟩ := vspan_iff.1 h3
  have m0 := mul_bd (a := D k 2) (b := D k 4) (A := 1000000) (B := 1000) (by omega) (by omega) (by omega) (by omega)
  have m1 := mul_bd (a := D k 3) (b := D k 4) (A := 1000000) (B := 1000) (by omega) (by omega) (by omega) (by omega)
  have e0 : dLo D (k + 1) = dLo D k + D k 2 * D k 4 := rfl
  have e1 : dHi D (k + 1) = dHi D k + D k 3 * D k 4 := rfl
  refine ⟨_, _, _, _, wrap64_in (by omega) (by omega), wrap64_in (by omega) (by omega), wrap64_in (by omega) (by omega), wrap64_in (by omega) (by omega), e0.symm, e1.symm, ?_, ?_, ?_, ?_⟩ <;> omega

/-- The worlds of the sum's two stores: the first one may come before the reads of the second. -/
def adW (w : World) (g : Nat) (x : Int) : World := w.setCell ⟨g, 0, none⟩ (.int .i64 x)
def adG (w : World) (g : Nat) (x : Int) : Nat → World → World → Prop
  | 19, a, b => a = w ∧ b = adW w g x
  | _, a, b => a = b
def adJ (w : World) (g : Nat) (x : Int) (a : World) : Prop := a = w ∨ a = adW w g x
def adI (w : World) (k : Nat) (a : World) : Prop := (k = 1 ∨ k = 19) → a = w
theorem adG_ne {w : World} {g : Nat} {x : Int} {j : Nat} {a b : World} (h : adG w g x j a b) (hj : j ≠ 19) : a = b := by
  unfold adG at h; split at h
  · exact absurd rfl hj
  · exact h
theorem adG_size (w : World) (g : Nat) (x : Int) (i : Nat) (a b : World) (h : adG w g x i a b) : a.heap.size ≤ b.heap.size := by
  unfold adG at h; split at h
  · obtain ⟨rfl, rfl⟩ := h; simp [adW]
  · rw [h]; exact Nat.le_refl _
theorem adG_J (w : World) (g : Nat) (x : Int) (i : Nat) (a b : World) (h : adG w g x i a b) (hj : adJ w g x a) : adJ w g x b := by
  unfold adG at h; split at h
  · exact .inr h.2
  · rw [← h]; exact hj
theorem adG_I {ops : Array Oper} (hd : (depsOf ops 19).contains 1 = true) (w : World) (g : Nat) (x : Int) (k j : Nat) (a b : World) (hkj : k ≠ j) (hn : k ∉ depsOf ops j) (h : adG w g x j a b) (hi : adI w k a) : adI w k b := by
  intro hk
  by_cases hj : j = 19
  · subst hj
    rcases hk with rfl | rfl
    · exact absurd (by simpa using hd) hn
    · exact absurd rfl hkj
  · rw [← adG_ne h hj]; exact hi hk
theorem adJ_blk {w : World} {g n : Nat} {x : Int} {t : TypeId} {cs : Array Value} {a : World} (h : Blk w n t cs) (hn : n ≠ g) (hj : adJ w g x a) : Blk a n t cs := by
  rcases hj with rfl | rfl
  · exact h
  · exact h.far' hn _
theorem adJ_hi {w : World} {g : Nat} {x : Int} {t : TypeId} {u v : Value} {a : World} (h : Blk w g t #[u, v]) (hj : adJ w g x a) : a.cell? ⟨g, 1, none⟩ = some v := by
  rcases hj with rfl | rfl
  · exact h.cell 1
  · exact (h.set_ 0 _).cell 1
def adR (g n : Nat) (x0 x1 s0 s1 t M0 L1 M1 H1 : Int) (w0 : World) : Nat → Value → World → Prop
  | 0, v, _ => v = .pointer (some ⟨g, 0, none⟩)
  | 1, v, _ => v = .int .i64 x0
  | 2, v, _ => v = .pointer (some ⟨n, 2, none⟩)
  | 3, v, _ => v = .pointer (some ⟨n, 2, none⟩)
  | 4, v, _ => v = .int .i64 s0
  | 5, v, _ => v = .pointer (some ⟨n, 4, none⟩)
  | 6, v, _ => v = .int .i64 t
  | 7, v, _ => v = .int .i64 M0
  | 8, v, _ => v = .int .i64 L1
  | 9, v, _ => v = .pointer (some ⟨g, 1, none⟩)
  | 10, v, _ => v = .int .i64 x1
  | 11, v, _ => v = .pointer (some ⟨n, 2, none⟩)
  | 12, v, _ => v = .pointer (some ⟨n, 3, none⟩)
  | 13, v, _ => v = .int .i64 s1
  | 14, v, _ => v = .pointer (some ⟨n, 4, none⟩)
  | 15, v, _ => v = .int .i64 t
  | 16, v, _ => v = .int .i64 M1
  | 17, v, _ => v = .int .i64 H1
  | 18, v, _ => v = .pointer (some ⟨g, 0, none⟩)
  | 19, v, w => w = adW w0 g L1
  | _, _, _ => True
theorem adG_R (g n : Nat) (x0 x1 s0 s1 t M0 L1 M1 H1 : Int) (w0 : World) (k j : Nat) (v : Value) (a b : World) (hkj : k ≠ j) (h : adG w0 g L1 j a b) (hr : adR g n x0 x1 s0 s1 t M0 L1 M1 H1 w0 k v a) : adR g n x0 x1 s0 s1 t M0 L1 M1 H1 w0 k v b := by
  unfold adR at *
  split at hr <;> first | exact hr | (rw [← adG_ne h (Ne.symm hkj)]; exact hr)

theorem Descent_c (hx hy hv gx gy gv lx ly lv px py pv nx ny nv ax ay av cx cy cv dx dy dv : Value) (cl bu : Int) (wl wh tl th el eh nl nh : Int) (S : Tabs) (A : Option Addr) (n c : Nat) (D : Nat → Nat → Int) (w : World) (hR : RotAt w hx hy hv gx gy gv lx ly lv px py pv nx ny nv ax ay av cx cy cv dx dy dv cl bu S) (hn : n ≤ 1000) (hD : DropsAt w A n D) :
   Calls Try.prog 39 #[.agg #[hx, hy, hv, gx, gy, gv, lx, ly, lv, px, py, pv, nx, ny, nv, ax, ay, av, cx, cy, cv, dx, dy, dv, .int .i64 cl, .int .i64 bu], .agg #[.int .i64 wl, .int .i64 wh, .int .i64 tl, .int .i64 th, .int .i64 el, .int .i64 eh, .int .i64 nl, .int .i64 nh], .slice A n c] w fun e w' => e = .returned (.tuple #[.agg #[.int .i64 (desV S cl bu wl wh tl th el eh nl nh n D).1, .int .i64 (desV S cl bu wl wh tl th el eh nl nh n D).2.1], .int .i64 (desV S cl bu wl wh tl th el eh nl nh n D).2.2.1, .int .i64 (desV S cl bu wl wh tl th el eh nl nh n D).2.2.2]) ∧ Below w.heap.size w w' := by
  have HR := Lib.hid hR
  have HD := Lib.hid hD
  have hc := fun w1 hR hT => check_c hx hy hv gx gy gv lx ly lv px py pv nx ny nv ax ay av cx cy cv dx dy dv cl bu wl wh tl th el eh nl nh S none 0 0 (fun _ => 0) (fun _ => 0) 95 #[.pointer (some ⟨w.heap.size + 1 + 1 + 1, 0, none⟩), .pointer (some ⟨w.heap.size, 0, none⟩)] 1 (look1 ⟨S.a, nth S.a.X 0, nth S.a.X 0, wl, wh⟩) w1 hR (by omega) (fun h => absurd h (by omega)) (enters_of Try.func95 (by kernel_rfl) rfl) hT
  rw [show chkE (rotB S cl bu) (airB wl wh tl th el eh nl nh) (anyBad 0 (fun _ => 0) (fun _ => 0)) (offL 1 (look1 ⟨S.a, nth S.a.X 0, nth S.a.X 0, wl, wh⟩)) = desC S cl bu wl wh tl th el eh nl nh by rw [offL1]; rfl] at hc
  clear hR hD
  by_cases hE : desC S cl bu wl wh tl th el eh nl nh = 0
  case neg =>
    have hne : (desC S cl bu wl wh tl th el eh nl nh != 0) = true := by simpa using hE
    rw [show desV S cl bu wl wh tl th el eh nl nh n D = (0, 0, 0, desC S cl bu wl wh tl th el eh nl nh) by unfold desV; rw [if_pos hE]]
    dsimp only
    have HC := Lib.hid hc
    generalize desC S cl bu wl wh tl th el eh nl nh = E at *
    clear hE hc
    go_enter Try.func39, Try.ntmps39
    go_wp2_with (first | (refine wpl_row rfl 27 _ rfl _ rfl #[hx, hy, hv, gx, gy, gv, lx, ly, lv, px, py, pv, nx, ny, nv, ax, ay, av, cx, cy, cv, dx, dy, dv, .int .i64 cl, .int .i64 bu] 26 ?_ Try.rowRot rfl ?_; (focus exact (by repeat (first | (refine Blk.newAt _ _ _ ?_; first | rfl | (simp; done)) | refine Blk.alloc ?_ _))); simp only [Act.put]) | (refine wpl_row rfl 36 _ rfl _ rfl #[.int .i64 wl, .int .i64 wh, .int .i64 tl, .int .i64 th, .int .i64 el, .int .i64 eh, .int .i64 nl, .int .i64 nh] 8 ?_ Try.rowAir rfl ?_; (focus exact (by repeat (first | (refine Blk.newAt _ _ _ ?_; first | rfl | (simp; done)) | refine Blk.alloc ?_ _))); simp only [Act.put]) | (refine wpl_store_new rfl 88 _ _ rfl #[hx, hy, hv, gx, gy, gv, lx, ly, lv, px, py, pv, nx, ny, nv, ax, ay, av, cx, cy, cv, dx, dy, dv, .int .i64 cl, .int .i64 bu, .int .i64 wl, .int .i64 wh, .int .i64 tl, .int .i64 th, .int .i64 el, .int .i64 eh, .int .i64 nl, .int .i64 nh] _ _ rfl ?_ rfl Try.sizeMach rfl (RotAt.one HR.out wl wh tl th el eh nl nh) ?_; (focus (simp; done)); simp only [Act.put]))
    have bHM : Blk ((((w.alloc (.cells #[hx, hy, hv, gx, gy, gv, lx, ly, lv, px, py, pv, nx, ny, nv, ax, ay, av, cx, cy, cv, dx, dy, dv, .int .i64 cl, .int .i64 bu] 27)).alloc (.cells #[.int .i64 wl, .int .i64 wh, .int .i64 tl, .int .i64 th, .int .i64 el, .int .i64 eh, .int .i64 nl, .int .i64 nh] 36)).alloc (.cells #[.int .i64 0, .int .i64 0] 34)).alloc (.cells #[hx, hy, hv, gx, gy, gv, lx, ly, lv, px, py, pv, nx, ny, nv, ax, ay, av, cx, cy, cv, dx, dy, dv, .int .i64 cl, .int .i64 bu, .int .i64 wl, .int .i64 wh, .int .i64 tl, .int .i64 th, .int .i64 el, .int .i64 eh, .int .i64 nl, .int .i64 nh] 88)) (w.heap.size) 27 #[hx, hy, hv, gx, gy, gv, lx, ly, lv, px, py, pv, nx, ny, nv, ax, ay, av, cx, cy, cv, dx, dy, dv, .int .i64 cl, .int .i64 bu] := (by repeat (first | (refine Blk.newAt _ _ _ ?_; first | rfl | (simp; done)) | refine Blk.alloc ?_ _))
    have bHA : Blk ((((w.alloc (.cells #[hx, hy, hv, gx, gy, gv, lx, ly, lv, px, py, pv, nx, ny, nv, ax, ay, av, cx, cy, cv, dx, dy, dv, .int .i64 cl, .int .i64 bu] 27)).alloc (.cells #[.int .i64 wl, .int .i64 wh, .int .i64 tl, .int .i64 th, .int .i64 el, .int .i64 eh, .int .i64 nl, .int .i64 nh] 36)).alloc (.cells #[.int .i64 0, .int .i64 0] 34)).alloc (.cells #[hx, hy, hv, gx, gy, gv, lx, ly, lv, px, py, pv, nx, ny, nv, ax, ay, av, cx, cy, cv, dx, dy, dv, .int .i64 cl, .int .i64 bu, .int .i64 wl, .int .i64 wh, .int .i64 tl, .int .i64 th, .int .i64 el, .int .i64 eh, .int .i64 nl, .int .i64 nh] 88)) (w.heap.size + 1) 36 #[.int .i64 wl, .int .i64 wh, .int .i64 tl, .int .i64 th, .int .i64 el, .int .i64 eh, .int .i64 nl, .int .i64 nh] := (by repeat (first | (refine Blk.newAt _ _ _ ?_; first | rfl | (simp; done)) | refine Blk.alloc ?_ _))
    have bHY : Blk ((((w.alloc (.cells #[hx, hy, hv, gx, gy, gv, lx, ly, lv, px, py, pv, nx, ny, nv, ax, ay, av, cx, cy, cv, dx, dy, dv, .int .i64 cl, .int .i64 bu] 27)).alloc (.cells #[.int .i64 wl, .int .i64 wh, .int .i64 tl, .int .i64 th, .int .i64 el, .int .i64 eh, .int .i64 nl, .int .i64 nh] 36)).alloc (.cells #[.int .i64 0, .int .i64 0] 34)).alloc (.cells #[hx, hy, hv, gx, gy, gv, lx, ly, lv, px, py, pv, nx, ny, nv, ax, ay, av, cx, cy, cv, dx, dy, dv, .int .i64 cl, .int .i64 bu, .int .i64 wl, .int .i64 wh, .int .i64 tl, .int .i64 th, .int .i64 el, .int .i64 eh, .int .i64 nl, .int .i64 nh] 88)) (w.heap.size + 1 + 1) 34 #[.int .i64 0, .int .i64 0] := (by repeat (first | (refine Blk.newAt _ _ _ ?_; first | rfl | (simp; done)) | refine Blk.alloc ?_ _))
    have bHQ : Blk ((((w.alloc (.cells #[hx, hy, hv, gx, gy, gv, lx, ly, lv, px, py, pv, nx, ny, nv, ax, ay, av, cx, cy, cv, dx, dy, dv, .int .i64 cl, .int .i64 bu] 27)).alloc (.cells #[.int .i64 wl, .int .i64 wh, .int .i64 tl, .int .i64 th, .int .i64 el, .int .i64 eh, .int .i64 nl, .int .i64 nh] 36)).alloc (.cells #[.int .i64 0, .int .i64 0] 34)).alloc (.cells #[hx, hy, hv, gx, gy, gv, lx, ly, lv, px, py, pv, nx, ny, nv, ax, ay, av, cx, cy, cv, dx, dy, dv, .int .i64 cl, .int .i64 bu, .int .i64 wl, .int .i64 wh, .int .i64 tl, .int .i64 th, .int .i64 el, .int .i64 eh, .int .i64 nl, .int .i64 nh] 88)) (w.heap.size + 1 + 1 + 1) 88 #[hx, hy, hv, gx, gy, gv, lx, ly, lv, px, py, pv, nx, ny, nv, ax, ay, av, cx, cy, cv, dx, dy, dv, .int .i64 cl, .int .i64 bu, .int .i64 wl, .int .i64 wh, .int .i64 tl, .int .i64 th, .int .i64 el, .int .i64 eh, .int .i64 nl, .int .i64 nh] := (by repeat (first | (refine Blk.newAt _ _ _ ?_; first | rfl | (simp; done)) | refine Blk.alloc ?_ _))
    have bHB : Below w.heap.size w ((((w.alloc (.cells #[hx, hy, hv, gx, gy, gv, lx, ly, lv, px, py, pv, nx, ny, nv, ax, ay, av, cx, cy, cv, dx, dy, dv, .int .i64 cl, .int .i64 bu] 27)).alloc (.cells #[.int .i64 wl, .int .i64 wh, .int .i64 tl, .int .i64 th, .int .i64 el, .int .i64 eh, .int .i64 nl, .int .i64 nh] 36)).alloc (.cells #[.int .i64 0, .int .i64 0] 34)).alloc (.cells #[hx, hy, hv, gx, gy, gv, lx, ly, lv, px, py, pv, nx, ny, nv, ax, ay, av, cx, cy, cv, dx, dy, dv, .int .i64 cl, .int .i64 bu, .int .i64 wl, .int .i64 wh, .int .i64 tl, .int .i64 th, .int .i64 el, .int .i64 eh, .int .i64 nl, .int .i64 nh] 88)) := (by repeat' (first | exact Below.refl _ _ | assumption | refine Below.drew ?_ | refine bdn ?_ _ | refine bal ?_ _ | refine Below.setCell ?_ (by first | (simp; done) | omega | (simp; omega)) _))
    generalize ((((w.alloc (.cells #[hx, hy, hv, gx, gy, gv, lx, ly, lv, px, py, pv, nx, ny, nv, ax, ay, av, cx, cy, cv, dx, dy, dv, .int .i64 cl, .int .i64 bu] 27)).alloc (.cells #[.int .i64 wl, .int .i64 wh, .int .i64 tl, .int .i64 th, .int .i64 el, .int .i64 eh, .int .i64 nl, .int .i64 nh] 36)).alloc (.cells #[.int .i64 0, .int .i64 0] 34)).alloc (.cells #[hx, hy, hv, gx, gy, gv, lx, ly, lv, px, py, pv, nx, ny, nv, ax, ay, av, cx, cy, cv, dx, dy, dv, .int .i64 cl, .int .i64 bu, .int .i64 wl, .int .i64 wh, .int .i64 tl, .int .i64 th, .int .i64 el, .int .i64 eh, .int .i64 nl, .int .i64 nh] 88)) = W at *
    have zW := bHQ.lt
    have HM := Lib.hid bHM
    have HA := Lib.hid bHA
    have HY := Lib.hid bHY
    have HQ := Lib.hid bHQ
    have HB := Lib.hid bHB
    clear bHM bHA bHY bHQ bHB
    go_wp2_with (first | (go_at_call 66; refine (HC.out _ (HR.out.below HB.out) (fun hr W' hW => descT_c hx hy hv gx gy gv lx ly lv px py pv nx ny nv ax ay av cx cy cv dx dy dv cl bu wl wh tl th el eh nl nh S _ _ w W' HR.out (bthen HB.out hW) (HQ.out.below hW) (HM.out.below hW) (rotB_a hr))).mono ?_; rintro e w1 ⟨rfl, hb1⟩; have nHM := Lib.hid (HM.out.below hb1); have nHA := Lib.hid (HA.out.below hb1); have nHY := Lib.hid (HY.out.below hb1); have nHQ := Lib.hid (HQ.out.below hb1); have nHB := Lib.hid (bthen HB.out hb1); have zz1 := hb1.size; clear HM HA HY HQ HB hb1; have HM := nHM; have HA := nHA; have HY := nHY; have HQ := nHQ; have HB := nHB; clear nHM nHA nHY nHQ nHB; (try clear zHY); have zHY := HY.out.lt; (try clear cHY0); have cHY0 := HY.out.cell 0; (try clear cHY1); have cHY1 := HY.out.cell 1; (try clear fHY); have fHY := fun i => HY.out.frozen i))
    exact bodyPost_ret (res_ctt rfl _ _ #[.int .i64 0, .int .i64 0] 2 rfl ((HY.out.set_ 0 _).set_ 1 _) Try.rowSpan rfl) rfl ⟨rfl, bset (bset HB.out (by omega) _) (by omega) _⟩
  rw [hE] at hc
  have HC := Lib.hid hc
  clear hc
  by_cases hl : 50 < n
  case pos =>
    rw [show desV S cl bu wl wh tl th el eh nl nh n D = (0, 0, 0, 2) by unfold desV; rw [if_neg (by simpa using hE), if_pos hl]]
    dsimp only
    clear hE
    go_enter Try.func39, Try.ntmps39
    go_wp2_with (first | (refine wpl_row rfl 27 _ rfl _ rfl #[hx, hy, hv, gx, gy, gv, lx, ly, lv, px, py, pv, nx, ny, nv, ax, ay, av, cx, cy, cv, dx, dy, dv, .int .i64 cl, .int .i64 bu] 26 ?_ Try.rowRot rfl ?_; (focus exact (by repeat (first | (refine Blk.newAt _ _ _ ?_; first | rfl | (simp; done)) | refine Blk.alloc ?_ _))); simp only [Act.put]) | (refine wpl_row rfl 36 _ rfl _ rfl #[.int .i64 wl, .int .i64 wh, .int .i64 tl, .int .i64 th, .int .i64 el, .int .i64 eh, .int .i64 nl, .int .i64 nh] 8 ?_ Try.rowAir rfl ?_; (focus exact (by repeat (first | (refine Blk.newAt _ _ _ ?_; first | rfl | (simp; done)) | refine Blk.alloc ?_ _))); simp only [Act.put]) | (refine wpl_store_new rfl 88 _ _ rfl #[hx, hy, hv, gx, gy, gv, lx, ly, lv, px, py, pv, nx, ny, nv, ax, ay, av, cx, cy, cv, dx, dy, dv, .int .i64 cl, .int .i64 bu, .int .i64 wl, .int .i64 wh, .int .i64 tl, .int .i64 th, .int .i64 el, .int .i64 eh, .int .i64 nl, .int .i64 nh] _ _ rfl ?_ rfl Try.sizeMach rfl (RotAt.one HR.out wl wh tl th el eh nl nh) ?_; (focus (simp; done)); simp only [Act.put]))
    have bHM : Blk ((((w.alloc (.cells #[hx, hy, hv, gx, gy, gv, lx, ly, lv, px, py, pv, nx, ny, nv, ax, ay, av, cx, cy, cv, dx, dy, dv, .int .i64 cl, .int .i64 bu] 27)).alloc (.cells #[.int .i64 wl, .int .i64 wh, .int .i64 tl, .int .i64 th, .int .i64 el, .int .i64 eh, .int .i64 nl, .int .i64 nh] 36)).alloc (.cells #[.int .i64 0, .int .i64 0] 34)).alloc (.cells #[hx, hy, hv, gx, gy, gv, lx, ly, lv, px, py, pv, nx, ny, nv, ax, ay, av, cx, cy, cv, dx, dy, dv, .int .i64 cl, .int .i64 bu, .int .i64 wl, .int .i64 wh, .int .i64 tl, .int .i64 th, .int .i64 el, .int .i64 eh, .int .i64 nl, .int .i64 nh] 88)) (w.heap.size) 27 #[hx, hy, hv, gx, gy, gv, lx, ly, lv, px, py, pv, nx, ny, nv, ax, ay, av, cx, cy, cv, dx, dy, dv, .int .i64 cl, .int .i64 bu] := (by repeat (first | (refine Blk.newAt _ _ _ ?_; first | rfl | (simp; done)) | refine Blk.alloc ?_ _))
    have bHA : Blk ((((w.alloc (.cells #[hx, hy, hv, gx, gy, gv, lx, ly, lv, px, py, pv, nx, ny, nv, ax, ay, av, cx, cy, cv, dx, dy, dv, .int .i64 cl, .int .i64 bu] 27)).alloc (.cells #[.int .i64 wl, .int .i64 wh, .int .i64 tl, .int .i64 th, .int .i64 el, .int .i64 eh, .int .i64 nl, .int .i64 nh] 36)).alloc (.cells #[.int .i64 0, .int .i64 0] 34)).alloc (.cells #[hx, hy, hv, gx, gy, gv, lx, ly, lv, px, py, pv, nx, ny, nv, ax, ay, av, cx, cy, cv, dx, dy, dv, .int .i64 cl, .int .i64 bu, .int .i64 wl, .int .i64 wh, .int .i64 tl, .int .i64 th, .int .i64 el, .int .i64 eh, .int .i64 nl, .int .i64 nh] 88)) (w.heap.size + 1) 36 #[.int .i64 wl, .int .i64 wh, .int .i64 tl, .int .i64 th, .int .i64 el, .int .i64 eh, .int .i64 nl, .int .i64 nh] := (by repeat (first | (refine Blk.newAt _ _ _ ?_; first | rfl | (simp; done)) | refine Blk.alloc ?_ _))
    have bHY : Blk ((((w.alloc (.cells #[hx, hy, hv, gx, gy, gv, lx, ly, lv, px, py, pv, nx, ny, nv, ax, ay, av, cx, cy, cv, dx, dy, dv, .int .i64 cl, .int .i64 bu] 27)).alloc (.cells #[.int .i64 wl, .int .i64 wh, .int .i64 tl, .int .i64 th, .int .i64 el, .int .i64 eh, .int .i64 nl, .int .i64 nh] 36)).alloc (.cells #[.int .i64 0, .int .i64 0] 34)).alloc (.cells #[hx, hy, hv, gx, gy, gv, lx, ly, lv, px, py, pv, nx, ny, nv, ax, ay, av, cx, cy, cv, dx, dy, dv, .int .i64 cl, .int .i64 bu, .int .i64 wl, .int .i64 wh, .int .i64 tl, .int .i64 th, .int .i64 el, .int .i64 eh, .int .i64 nl, .int .i64 nh] 88)) (w.heap.size + 1 + 1) 34 #[.int .i64 0, .int .i64 0] := (by repeat (first | (refine Blk.newAt _ _ _ ?_; first | rfl | (simp; done)) | refine Blk.alloc ?_ _))
    have bHQ : Blk ((((w.alloc (.cells #[hx, hy, hv, gx, gy, gv, lx, ly, lv, px, py, pv, nx, ny, nv, ax, ay, av, cx, cy, cv, dx, dy, dv, .int .i64 cl, .int .i64 bu] 27)).alloc (.cells #[.int .i64 wl, .int .i64 wh, .int .i64 tl, .int .i64 th, .int .i64 el, .int .i64 eh, .int .i64 nl, .int .i64 nh] 36)).alloc (.cells #[.int .i64 0, .int .i64 0] 34)).alloc (.cells #[hx, hy, hv, gx, gy, gv, lx, ly, lv, px, py, pv, nx, ny, nv, ax, ay, av, cx, cy, cv, dx, dy, dv, .int .i64 cl, .int .i64 bu, .int .i64 wl, .int .i64 wh, .int .i64 tl, .int .i64 th, .int .i64 el, .int .i64 eh, .int .i64 nl, .int .i64 nh] 88)) (w.heap.size + 1 + 1 + 1) 88 #[hx, hy, hv, gx, gy, gv, lx, ly, lv, px, py, pv, nx, ny, nv, ax, ay, av, cx, cy, cv, dx, dy, dv, .int .i64 cl, .int .i64 bu, .int .i64 wl, .int .i64 wh, .int .i64 tl, .int .i64 th, .int .i64 el, .int .i64 eh, .int .i64 nl, .int .i64 nh] := (by repeat (first | (refine Blk.newAt _ _ _ ?_; first | rfl | (simp; done)) | refine Blk.alloc ?_ _))
    have bHB : Below w.heap.size w ((((w.alloc (.cells #[hx, hy, hv, gx, gy, gv, lx, ly, lv, px, py, pv, nx, ny, nv, ax, ay, av, cx, cy, cv, dx, dy, dv, .int .i64 cl, .int .i64 bu] 27)).alloc (.cells #[.int .i64 wl, .int .i64 wh, .int .i64 tl, .int .i64 th, .int .i64 el, .int .i64 eh, .int .i64 nl, .int .i64 nh] 36)).alloc (.cells #[.int .i64 0, .int .i64 0] 34)).alloc (.cells #[hx, hy, hv, gx, gy, gv, lx, ly, lv, px, py, pv, nx, ny, nv, ax, ay, av, cx, cy, cv, dx, dy, dv, .int .i64 cl, .int .i64 bu, .int .i64 wl, .int .i64 wh, .int .i64 tl, .int .i64 th, .int .i64 el, .int .i64 eh, .int .i64 nl, .int .i64 nh] 88)) := (by repeat' (first | exact Below.refl _ _ | assumption | refine Below.drew ?_ | refine bdn ?_ _ | refine bal ?_ _ | refine Below.setCell ?_ (by first | (simp; done) | omega | (simp; omega)) _))
    generalize ((((w.alloc (.cells #[hx, hy, hv, gx, gy, gv, lx, ly, lv, px, py, pv, nx, ny, nv, ax, ay, av, cx, cy, cv, dx, dy, dv, .int .i64 cl, .int .i64 bu] 27)).alloc (.cells #[.int .i64 wl, .int .i64 wh, .int .i64 tl, .int .i64 th, .int .i64 el, .int .i64 eh, .int .i64 nl, .int .i64 nh] 36)).alloc (.cells #[.int .i64 0, .int .i64 0] 34)).alloc (.cells #[hx, hy, hv, gx, gy, gv, lx, ly, lv, px, py, pv, nx, ny, nv, ax, ay, av, cx, cy, cv, dx, dy, dv, .int .i64 cl, .int .i64 bu, .int .i64 wl, .int .i64 wh, .int .i64 tl, .int .i64 th, .int .i64 el, .int .i64 eh, .int .i64 nl, .int .i64 nh] 88)) = W at *
    have zW := bHQ.lt
    have HM := Lib.hid bHM
    have HA := Lib.hid bHA
    have HY := Lib.hid bHY
    have HQ := Lib.hid bHQ
    have HB := Lib.hid bHB
    clear bHM bHA bHY bHQ bHB
    go_wp2_with (first | (go_at_call 66; refine (HC.out _ (HR.out.below HB.out) (fun hr W' hW => descT_c hx hy hv gx gy gv lx ly lv px py pv nx ny nv ax ay av cx cy cv dx dy dv cl bu wl wh tl th el eh nl nh S _ _ w W' HR.out (bthen HB.out hW) (HQ.out.below hW) (HM.out.below hW) (rotB_a hr))).mono ?_; rintro e w1 ⟨rfl, hb1⟩; have nHM := Lib.hid (HM.out.below hb1); have nHA := Lib.hid (HA.out.below hb1); have nHY := Lib.hid (HY.out.below hb1); have nHQ := Lib.hid (HQ.out.below hb1); have nHB := Lib.hid (bthen HB.out hb1); have zz1 := hb1.size; clear HM HA HY HQ HB hb1; have HM := nHM; have HA := nHA; have HY := nHY; have HQ := nHQ; have HB := nHB; clear nHM nHA nHY nHQ nHB; (try clear zHY); have zHY := HY.out.lt; (try clear cHY0); have cHY0 := HY.out.cell 0; (try clear cHY1); have cHY1 := HY.out.cell 1; (try clear fHY); have fHY := fun i => HY.out.frozen i))
    exact bodyPost_ret (res_ctt rfl _ _ #[.int .i64 0, .int .i64 0] 2 rfl ((HY.out.set_ 0 _).set_ 1 _) Try.rowSpan rfl) rfl ⟨rfl, bset (bset HB.out (by omega) _) (by omega) _⟩
  have v0 : (desV S cl bu wl wh tl th el eh nl nh n D) = if (dScan S wl wh D n 0).2 ≠ 0 then (0, 0, dScan S wl wh D n 0) else if vspan (dLo D n) (dHi D n) = true then (dLo D n, dHi D n, 0, 0) else (0, 0, 0, 2) := by
    unfold desV; rw [if_neg (by simpa using hE), if_neg hl]
  generalize desV S cl bu wl wh tl th el eh nl nh n D = V at *
  have HV := Lib.hid v0
  have HEE := Lib.hid hE
  clear hE v0
  go_enter Try.func39, Try.ntmps39
  go_wp2_with (first | (refine wpl_row rfl 27 _ rfl _ rfl #[hx, hy, hv, gx, gy, gv, lx, ly, lv, px, py, pv, nx, ny, nv, ax, ay, av, cx, cy, cv, dx, dy, dv, .int .i64 cl, .int .i64 bu] 26 ?_ Try.rowRot rfl ?_; (focus exact (by repeat (first | (refine Blk.newAt _ _ _ ?_; first | rfl | (simp; done)) | refine Blk.alloc ?_ _))); simp only [Act.put]) | (refine wpl_row rfl 36 _ rfl _ rfl #[.int .i64 wl, .int .i64 wh, .int .i64 tl, .int .i64 th, .int .i64 el, .int .i64 eh, .int .i64 nl, .int .i64 nh] 8 ?_ Try.rowAir rfl ?_; (focus exact (by repeat (first | (refine Blk.newAt _ _ _ ?_; first | rfl | (simp; done)) | refine Blk.alloc ?_ _))); simp only [Act.put]) | (refine wpl_store_new rfl 88 _ _ rfl #[hx, hy, hv, gx, gy, gv, lx, ly, lv, px, py, pv, nx, ny, nv, ax, ay, av, cx, cy, cv, dx, dy, dv, .int .i64 cl, .int .i64 bu, .int .i64 wl, .int .i64 wh, .int .i64 tl, .int .i64 th, .int .i64 el, .int .i64 eh, .int .i64 nl, .int .i64 nh] _ _ rfl ?_ rfl Try.sizeMach rfl (RotAt.one HR.out wl wh tl th el eh nl nh) ?_; (focus (simp; done)); simp only [Act.put]))
  have bHM : Blk ((((w.alloc (.cells #[hx, hy, hv, gx, gy, gv, lx, ly, lv, px, py, pv, nx, ny, nv, ax, ay, av, cx, cy, cv, dx, dy, dv, .int .i64 cl, .int .i64 bu] 27)).alloc (.cells #[.int .i64 wl, .int .i64 wh, .int .i64 tl, .int .i64 th, .int .i64 el, .int .i64 eh, .int .i64 nl, .int .i64 nh] 36)).alloc (.cells #[.int .i64 0, .int .i64 0] 34)).alloc (.cells #[hx, hy, hv, gx, gy, gv, lx, ly, lv, px, py, pv, nx, ny, nv, ax, ay, av, cx, cy, cv, dx, dy, dv, .int .i64 cl, .int .i64 bu, .int .i64 wl, .int .i64 wh, .int .i64 tl, .int .i64 th, .int .i64 el, .int .i64 eh, .int .i64 nl, .int .i64 nh] 88)) (w.heap.size) 27 #[hx, hy, hv, gx, gy, gv, lx, ly, lv, px, py, pv, nx, ny, nv, ax, ay, av, cx, cy, cv, dx, dy, dv, .int .i64 cl, .int .i64 bu] := (by repeat (first | (refine Blk.newAt _ _ _ ?_; first | rfl | (simp; done)) | refine Blk.alloc ?_ _))
  have bHA : Blk ((((w.alloc (.cells #[hx, hy, hv, gx, gy, gv, lx, ly, lv, px, py, pv, nx, ny, nv, ax, ay, av, cx, cy, cv, dx, dy, dv, .int .i64 cl, .int .i64 bu] 27)).alloc (.cells #[.int .i64 wl, .int .i64 wh, .int .i64 tl, .int .i64 th, .int .i64 el, .int .i64 eh, .int .i64 nl, .int .i64 nh] 36)).alloc (.cells #[.int .i64 0, .int .i64 0] 34)).alloc (.cells #[hx, hy, hv, gx, gy, gv, lx, ly, lv, px, py, pv, nx, ny, nv, ax, ay, av, cx, cy, cv, dx, dy, dv, .int .i64 cl, .int .i64 bu, .int .i64 wl, .int .i64 wh, .int .i64 tl, .int .i64 th, .int .i64 el, .int .i64 eh, .int .i64 nl, .int .i64 nh] 88)) (w.heap.size + 1) 36 #[.int .i64 wl, .int .i64 wh, .int .i64 tl, .int .i64 th, .int .i64 el, .int .i64 eh, .int .i64 nl, .int .i64 nh] := (by repeat (first | (refine Blk.newAt _ _ _ ?_; first | rfl | (simp; done)) | refine Blk.alloc ?_ _))
  have bHY : Blk ((((w.alloc (.cells #[hx, hy, hv, gx, gy, gv, lx, ly, lv, px, py, pv, nx, ny, nv, ax, ay, av, cx, cy, cv, dx, dy, dv, .int .i64 cl, .int .i64 bu] 27)).alloc (.cells #[.int .i64 wl, .int .i64 wh, .int .i64 tl, .int .i64 th, .int .i64 el, .int .i64 eh, .int .i64 nl, .int .i64 nh] 36)).alloc (.cells #[.int .i64 0, .int .i64 0] 34)).alloc (.cells #[hx, hy, hv, gx, gy, gv, lx, ly, lv, px, py, pv, nx, ny, nv, ax, ay, av, cx, cy, cv, dx, dy, dv, .int .i64 cl, .int .i64 bu, .int .i64 wl, .int .i64 wh, .int .i64 tl, .int .i64 th, .int .i64 el, .int .i64 eh, .int .i64 nl, .int .i64 nh] 88)) (w.heap.size + 1 + 1) 34 #[.int .i64 0, .int .i64 0] := (by repeat (first | (refine Blk.newAt _ _ _ ?_; first | rfl | (simp; done)) | refine Blk.alloc ?_ _))
  have bHQ : Blk ((((w.alloc (.cells #[hx, hy, hv, gx, gy, gv, lx, ly, lv, px, py, pv, nx, ny, nv, ax, ay, av, cx, cy, cv, dx, dy, dv, .int .i64 cl, .int .i64 bu] 27)).alloc (.cells #[.int .i64 wl, .int .i64 wh, .int .i64 tl, .int .i64 th, .int .i64 el, .int .i64 eh, .int .i64 nl, .int .i64 nh] 36)).alloc (.cells #[.int .i64 0, .int .i64 0] 34)).alloc (.cells #[hx, hy, hv, gx, gy, gv, lx, ly, lv, px, py, pv, nx, ny, nv, ax, ay, av, cx, cy, cv, dx, dy, dv, .int .i64 cl, .int .i64 bu, .int .i64 wl, .int .i64 wh, .int .i64 tl, .int .i64 th, .int .i64 el, .int .i64 eh, .int .i64 nl, .int .i64 nh] 88)) (w.heap.size + 1 + 1 + 1) 88 #[hx, hy, hv, gx, gy, gv, lx, ly, lv, px, py, pv, nx, ny, nv, ax, ay, av, cx, cy, cv, dx, dy, dv, .int .i64 cl, .int .i64 bu, .int .i64 wl, .int .i64 wh, .int .i64 tl, .int .i64 th, .int .i64 el, .int .i64 eh, .int .i64 nl, .int .i64 nh] := (by repeat (first | (refine Blk.newAt _ _ _ ?_; first | rfl | (simp; done)) | refine Blk.alloc ?_ _))
  have bHB : Below w.heap.size w ((((w.alloc (.cells #[hx, hy, hv, gx, gy, gv, lx, ly, lv, px, py, pv, nx, ny, nv, ax, ay, av, cx, cy, cv, dx, dy, dv, .int .i64 cl, .int .i64 bu] 27)).alloc (.cells #[.int .i64 wl, .int .i64 wh, .int .i64 tl, .int .i64 th, .int .i64 el, .int .i64 eh, .int .i64 nl, .int .i64 nh] 36)).alloc (.cells #[.int .i64 0, .int .i64 0] 34)).alloc (.cells #[hx, hy, hv, gx, gy, gv, lx, ly, lv, px, py, pv, nx, ny, nv, ax, ay, av, cx, cy, cv, dx, dy, dv, .int .i64 cl, .int .i64 bu, .int .i64 wl, .int .i64 wh, .int .i64 tl, .int .i64 th, .int .i64 el, .int .i64 eh, .int .i64 nl, .int .i64 nh] 88)) := (by repeat' (first | exact Below.refl _ _ | assumption | refine Below.drew ?_ | refine bdn ?_ _ | refine bal ?_ _ | refine Below.setCell ?_ (by first | (simp; done) | omega | (simp; omega)) _))
  generalize ((((w.alloc (.cells #[hx, hy, hv, gx, gy, gv, lx, ly, lv, px, py, pv, nx, ny, nv, ax, ay, av, cx, cy, cv, dx, dy, dv, .int .i64 cl, .int .i64 bu] 27)).alloc (.cells #[.int .i64 wl, .int .i64 wh, .int .i64 tl, .int .i64 th, .int .i64 el, .int .i64 eh, .int .i64 nl, .int .i64 nh] 36)).alloc (.cells #[.int .i64 0, .int .i64 0] 34)).alloc (.cells #[hx, hy, hv, gx, gy, gv, lx, ly, lv, px, py, pv, nx, ny, nv, ax, ay, av, cx, cy, cv, dx, dy, dv, .int .i64 cl, .int .i64 bu, .int .i64 wl, .int .i64 wh, .int .i64 tl, .int .i64 th, .int .i64 el, .int .i64 eh, .int .i64 nl, .int .i64 nh] 88)) = W at *
  have zW := bHQ.lt
  have HM := Lib.hid bHM
  have HA := Lib.hid bHA
  have HY := Lib.hid bHY
  have HQ := Lib.hid bHQ
  have HB := Lib.hid bHB
  clear bHM bHA bHY bHQ bHB
  go_wp2_with (first | (go_at_call 66; refine (HC.out _ (HR.out.below HB.out) (fun hr W' hW => descT_c hx hy hv gx gy gv lx ly lv px py pv nx ny nv ax ay av cx cy cv dx dy dv cl bu wl wh tl th el eh nl nh S _ _ w W' HR.out (bthen HB.out hW) (HQ.out.below hW) (HM.out.below hW) (rotB_a hr))).mono ?_; rintro e w1 ⟨rfl, hb1⟩; have nHM := Lib.hid (HM.out.below hb1); have nHA := Lib.hid (HA.out.below hb1); have nHY := Lib.hid (HY.out.below hb1); have nHQ := Lib.hid (HQ.out.below hb1); have nHB := Lib.hid (bthen HB.out hb1); have zz1 := hb1.size; clear HM HA HY HQ HB hb1; have HM := nHM; have HA := nHA; have HY := nHY; have HQ := nHQ; have HB := nHB; clear nHM nHA nHY nHQ nHB; (try clear zHY); have zHY := HY.out.lt; (try clear cHY0); have cHY0 := HY.out.cell 0; (try clear cHY1); have cHY1 := HY.out.cell 1; (try clear fHY); have fHY := fun i => HY.out.frozen i))
  have bHS := Blk.new w1 34 #[.int .i64 0, .int .i64 0]
  have nHM := Lib.hid (HM.out.alloc (.cells #[.int .i64 0, .int .i64 0] 34))
  have nHA := Lib.hid (HA.out.alloc (.cells #[.int .i64 0, .int .i64 0] 34))
  have nHY := Lib.hid (HY.out.alloc (.cells #[.int .i64 0, .int .i64 0] 34))
  have nHQ := Lib.hid (HQ.out.alloc (.cells #[.int .i64 0, .int .i64 0] 34))
  have nHB := Lib.hid (bal HB.out (.cells #[.int .i64 0, .int .i64 0] 34))
  clear HM HA HY HQ HB
  have HM := nHM
  have HA := nHA
  have HY := nHY
  have HQ := nHQ
  have HB := nHB
  clear nHM nHA nHY nHQ nHB
  generalize w1.alloc (.cells #[.int .i64 0, .int .i64 0] 34) = W2 at *
  generalize w1.heap.size = gHS at *
  have HS := Lib.hid bHS
  clear bHS
  clear cHY0 cHY1 fHY
  have zS := HS.out.lt
  go_loopw [31] (fun s wr => ∃ k : Nat, k ≤ n ∧ s = .int .i64 k ∧ RowKit.Hid (Below w.heap.size w wr) ∧ RowKit.Hid (Blk wr (w.heap.size + 1 + 1) 34 #[.int .i64 0, .int .i64 0]) ∧ RowKit.Hid (Blk wr (w.heap.size + 1 + 1 + 1) 88 #[hx, hy, hv, gx, gy, gv, lx, ly, lv, px, py, pv, nx, ny, nv, ax, ay, av, cx, cy, cv, dx, dy, dv, .int .i64 cl, .int .i64 bu, .int .i64 wl, .int .i64 wh, .int .i64 tl, .int .i64 th, .int .i64 el, .int .i64 eh, .int .i64 nl, .int .i64 nh]) ∧ RowKit.Hid (Blk wr gHS 34 #[.int .i64 (dLo D k), .int .i64 (dHi D k)]) ∧ RowKit.Hid (dScan S wl wh D n 0 = dScan S wl wh D (n - k) k ∧ -1000000000 * (k : Int) ≤ dLo D k ∧ dLo D k ≤ 1000000000 * (k : Int) ∧ -1000000000 * (k : Int) ≤ dHi D k ∧ dHi D k ≤ 1000000000 * (k : Int))) (fun s _ => n - (intOf s).toNat)
  case atStart => exact ⟨0, by omega, rfl, HB.out, HY.out, HQ.out, HS.out, ⟨rfl, by simp [dLo, dHi]⟩⟩
  case round =>
    obtain ⟨k, hk, rfl, hB, hY, hQ, hS, hX⟩ := hrel
    have HB := hB
    have HY := hY
    have HQ := hQ
    have HS := hS
    have zW := HQ.out.lt
    have zS2 := HS.out.lt
    clear hB hY hQ hS
    by_cases hlt : k < n
    · obtain ⟨b, off, rfl, hbl, hcc⟩ := (HD.out.below HB.out) (by omega)
      have d0 := hcc k hlt 0 (by omega)
      have d1 := hcc k hlt 1 (by omega)
      have d2 := hcc k hlt 2 (by omega)
      have d3 := hcc k hlt 3 (by omega)
      have d4 := hcc k hlt 4 (by omega)
      simp only [Nat.add_zero] at d0
      clear hcc
      have I0 := Lib.hid (fun w => ro_within_c (D k 4) 0 1000 w)
      go_wp2_with fail
      clear d0 d1 d2 d3 d4
      rename World => w1
      have bN5 := Blk.new w1 74 #[.int .i64 (D k 0), .int .i64 (D k 1), .int .i64 (D k 2), .int .i64 (D k 3), .int .i64 (D k 4)]
      have nHY := Lib.hid (HY.out.alloc (.cells #[.int .i64 (D k 0), .int .i64 (D k 1), .int .i64 (D k 2), .int .i64 (D k 3), .int .i64 (D k 4)] 74))
      have nHQ := Lib.hid (HQ.out.alloc (.cells #[.int .i64 (D k 0), .int .i64 (D k 1), .int .i64 (D k 2), .int .i64 (D k 3), .int .i64 (D k 4)] 74))
      have nHS := Lib.hid (HS.out.alloc (.cells #[.int .i64 (D k 0), .int .i64 (D k 1), .int .i64 (D k 2), .int .i64 (D k 3), .int .i64 (D k 4)] 74))
      have nHB := Lib.hid (bal HB.out (.cells #[.int .i64 (D k 0), .int .i64 (D k 1), .int .i64 (D k 2), .int .i64 (D k 3), .int .i64 (D k 4)] 74))
      clear HY HQ HS HB
      have HY := nHY
      have HQ := nHQ
      have HS := nHS
      have HB := nHB
      clear nHY nHQ nHS nHB
      generalize w1.alloc (.cells #[.int .i64 (D k 0), .int .i64 (D k 1), .int .i64 (D k 2), .int .i64 (D k 3), .int .i64 (D k 4)] 74) = W2 at *
      generalize w1.heap.size = gN5 at *
      have N5 := Lib.hid bN5
      clear bN5
      have y0 := HY.out.cell 0
      have y1 := HY.out.cell 1
      have y2 := fun i => HY.out.frozen i
      cases h1 : inB (D k 4) 0 1000
      case false =>
        rw [h1] at I0
        have es := hX.out.1
        rw [dScan_bad hlt (by unfold dBad; rw [h1]; rfl)] at es
        have v1 := HV.out
        rw [es, if_pos (by dsimp only; decide)] at v1
        have HV1 := Lib.hid v1
        clear v1 es HV hX
        go_wp2_with (first | (go_at_call 53; (with_reducible refine (I0.out _).mono ?_); rintro e w3 ⟨rfl, rfl⟩))
        exact bodyPost_ret (res_ctt rfl _ _ #[.int .i64 0, .int .i64 0] 2 rfl ((HY.out.set_ 0 _).set_ 1 _) Try.rowSpan rfl) rfl ⟨by rw [HV1.out]; rfl, bset (bset HB.out (by omega) _) (by omega) _⟩
      rw [h1] at I0
      have I2 := fun w => ro_valid_c (D k 0) (D k 1) w
      cases h2 : vspan (D k 0) (D k 1)
      case false =>
        rw [h2] at I2
        have es := hX.out.1
        rw [dScan_bad hlt (by unfold dBad; rw [h1, h2]; rfl)] at es
        have v1 := HV.out
        rw [es, if_pos (by dsimp only; decide)] at v1
        have HV1 := Lib.hid v1
        have J2 := Lib.hid I2
        clear v1 es HV hX I2
        have q0 := N5.out.cell 0
        have q1 := N5.out.cell 1
        go_wp2_with (first | (go_at_call 53; (with_reducible refine (I0.out _).mono ?_); rintro e w3 ⟨rfl, rfl⟩) | ((with_reducible refine (J2.out _).mono ?_); rintro e w1 ⟨rfl, hb1⟩; have nHY := Lib.hid (HY.out.below hb1); have nHQ := Lib.hid (HQ.out.below hb1); have nHS := Lib.hid (HS.out.below hb1); have nHB := Lib.hid (bthen HB.out hb1); have zz1 := hb1.size; clear HY HQ HS HB hb1; have HY := nHY; have HQ := nHQ; have HS := nHS; have HB := nHB; clear nHY nHQ nHS nHB; (try clear zHY); have zHY := HY.out.lt; (try clear cHY0); have cHY0 := HY.out.cell 0; (try clear cHY1); have cHY1 := HY.out.cell 1; (try clear fHY); have fHY := fun i => HY.out.frozen i))
        exact bodyPost_ret (res_ctt rfl _ _ #[.int .i64 0, .int .i64 0] 2 rfl ((HY.out.set_ 0 _).set_ 1 _) Try.rowSpan rfl) rfl ⟨by rw [HV1.out]; rfl, bset (bset HB.out (by omega) _) (by omega) _⟩
      rw [h2] at I2
      have J2 := Lib.hid I2
      clear I2
      have I3 := fun w => ro_valid_c (D k 2) (D k 3) w
      have q0 := N5.out.cell 0
      have q1 := N5.out.cell 1
      have q2 := N5.out.cell 2
      have q3 := N5.out.cell 3
      cases h3 : vspan (D k 2) (D k 3)
      case false =>
        rw [h3] at I3
        have es := hX.out.1
        rw [dScan_bad hlt (by unfold dBad; rw [h1, h2, h3]; rfl)] at es
        have v1 := HV.out
        rw [es, if_pos (by dsimp only; decide)] at v1
        have HV1 := Lib.hid v1
        have J3 := Lib.hid I3
        clear v1 es HV hX I3
        go_wp2_with (first | (go_at_call 53; (with_reducible refine (I0.out _).mono ?_); rintro e w3 ⟨rfl, rfl⟩) | ((with_reducible refine (J2.out _).mono ?_); rintro e w1 ⟨rfl, hb1⟩; have nHY := Lib.hid (HY.out.below hb1); have nHQ := Lib.hid (HQ.out.below hb1); have nHS := Lib.hid (HS.out.below hb1); have nN5 := Lib.hid (N5.out.below hb1); have nHB := Lib.hid (bthen HB.out hb1); have zz1 := hb1.size; clear HY HQ HS N5 HB hb1; have HY := nHY; have HQ := nHQ; have HS := nHS; have N5 := nN5; have HB := nHB; clear nHY nHQ nHS nN5 nHB; (try clear zHY); have zHY := HY.out.lt; (try clear cHY0); have cHY0 := HY.out.cell 0; (try clear cHY1); have cHY1 := HY.out.cell 1; (try clear fHY); have fHY := fun i => HY.out.frozen i; (try clear zN5); have zN5 := N5.out.lt; (try clear cN52); have cN52 := N5.out.cell 2; (try clear cN53); have cN53 := N5.out.cell 3) | ((with_reducible refine (J3.out _).mono ?_); rintro e w1 ⟨rfl, hb1⟩; have nHY := Lib.hid (HY.out.below hb1); have nHQ := Lib.hid (HQ.out.below hb1); have nHS := Lib.hid (HS.out.below hb1); have nHB := Lib.hid (bthen HB.out hb1); have zz1 := hb1.size; clear HY HQ HS HB hb1; have HY := nHY; have HQ := nHQ; have HS := nHS; have HB := nHB; clear nHY nHQ nHS nHB; (try clear zHY); have zHY := HY.out.lt; (try clear cHY0); have cHY0 := HY.out.cell 0; (try clear cHY1); have cHY1 := HY.out.cell 1; (try clear fHY); have fHY := fun i => HY.out.frozen i))
        exact bodyPost_ret (res_ctt rfl _ _ #[.int .i64 0, .int .i64 0] 2 rfl ((HY.out.set_ 0 _).set_ 1 _) Try.rowSpan rfl) rfl ⟨by rw [HV1.out]; rfl, bset (bset HB.out (by omega) _) (by omega) _⟩
      rw [h3] at I3
      have J3 := Lib.hid I3
      clear I3
      obtain ⟨hr, ha, -, -⟩ := chkE_zero HEE.out
      have hp := lkE_pos (rotB_a hr)
      have I4 := fun w1 hx hy => ro_lies_c ax ay av S.a.X S.a.Y (D k 0) (D k 1) wl wh w1 hx hy hp.1 hp.2
      have hd : dBad S wl wh (D k) = !lkE S.a (D k 0) (D k 1) wl wh := by unfold dBad; rw [h1, h2, h3]; rfl
      cases h4 : lkE S.a (D k 0) (D k 1) wl wh
      case false =>
        rw [h4] at hd
        rw [show (liesB S.a.X (D k 0) (D k 1) && liesB S.a.Y wl wh) = false from h4] at I4
        have es := hX.out.1
        rw [dScan_bad hlt hd] at es
        have v1 := HV.out
        rw [es, if_pos (by dsimp only; decide)] at v1
        have HV1 := Lib.hid v1
        have J4 := Lib.hid I4
        clear v1 es HV hX I4 hd hp ha hr
        go_wp2_with (first | (go_at_call 53; (with_reducible refine (I0.out _).mono ?_); rintro e w3 ⟨rfl, rfl⟩) | (refine wpl_row_g rfl 88 _ rfl _ rfl _ 34 HQ.out Try.rowMach rfl ?_; simp only [Act.put]) | ((with_reducible refine (J2.out _).mono ?_); rintro e w1 ⟨rfl, hb1⟩; have nHY := Lib.hid (HY.out.below hb1); have nHQ := Lib.hid (HQ.out.below hb1); have nHS := Lib.hid (HS.out.below hb1); have nN5 := Lib.hid (N5.out.below hb1); have nHB := Lib.hid (bthen HB.out hb1); have zz1 := hb1.size; clear HY HQ HS N5 HB hb1; have HY := nHY; have HQ := nHQ; have HS := nHS; have N5 := nN5; have HB := nHB; clear nHY nHQ nHS nN5 nHB; (try clear zHY); have zHY := HY.out.lt; (try clear cHY0); have cHY0 := HY.out.cell 0; (try clear cHY1); have cHY1 := HY.out.cell 1; (try clear fHY); have fHY := fun i => HY.out.frozen i; (try clear zN5); have zN5 := N5.out.lt; (try clear cN50); have cN50 := N5.out.cell 0; (try clear cN51); have cN51 := N5.out.cell 1; (try clear cN52); have cN52 := N5.out.cell 2; (try clear cN53); have cN53 := N5.out.cell 3) | ((with_reducible refine (J3.out _).mono ?_); rintro e w1 ⟨rfl, hb1⟩; have nHY := Lib.hid (HY.out.below hb1); have nHQ := Lib.hid (HQ.out.below hb1); have nHS := Lib.hid (HS.out.below hb1); have nN5 := Lib.hid (N5.out.below hb1); have nHB := Lib.hid (bthen HB.out hb1); have zz1 := hb1.size; clear HY HQ HS N5 HB hb1; have HY := nHY; have HQ := nHQ; have HS := nHS; have N5 := nN5; have HB := nHB; clear nHY nHQ nHS nN5 nHB; (try clear zHY); have zHY := HY.out.lt; (try clear cHY0); have cHY0 := HY.out.cell 0; (try clear cHY1); have cHY1 := HY.out.cell 1; (try clear fHY); have fHY := fun i => HY.out.frozen i; (try clear zN5); have zN5 := N5.out.lt; (try clear cN50); have cN50 := N5.out.cell 0; (try clear cN51); have cN51 := N5.out.cell 1) | ((with_reducible refine (ring_c _ _ _ _ _ _ _ _ _ _ _ _ _ _ _ _ _ _ _ _ _ _ _ _ _ _ _ _ _ _ _ _ _ _ HR.out.a.s1 HR.out.a.s2 HR.out.a.s3 _ _ _).mono ?_); rintro e w1 ⟨rfl, hb1⟩; have nHY := Lib.hid (HY.out.below hb1); have nHQ := Lib.hid (HQ.out.below hb1); have nHS := Lib.hid (HS.out.below hb1); have nN5 := Lib.hid (N5.out.below hb1); have nHB := Lib.hid (bthen HB.out hb1); have zz1 := hb1.size; clear HY HQ HS N5 HB hb1; have HY := nHY; have HQ := nHQ; have HS := nHS; have N5 := nN5; have HB := nHB; clear nHY nHQ nHS nN5 nHB; (try clear zHY); have zHY := HY.out.lt; (try clear cHY0); have cHY0 := HY.out.cell 0; (try clear cHY1); have cHY1 := HY.out.cell 1; (try clear fHY); have fHY := fun i => HY.out.frozen i) | ((with_reducible refine (J4.out _ (HR.out.a.x.below HB.out) (HR.out.a.y.below HB.out)).mono ?_); rintro e w1 ⟨rfl, hb1⟩; have nHY := Lib.hid (HY.out.below hb1); have nHQ := Lib.hid (HQ.out.below hb1); have nHS := Lib.hid (HS.out.below hb1); have nN5 := Lib.hid (N5.out.below hb1); have nHB := Lib.hid (bthen HB.out hb1); have zz1 := hb1.size; clear HY HQ HS N5 HB hb1; have HY := nHY; have HQ := nHQ; have HS := nHS; have N5 := nN5; have HB := nHB; clear nHY nHQ nHS nN5 nHB; (try clear zHY); have zHY := HY.out.lt; (try clear cHY0); have cHY0 := HY.out.cell 0; (try clear cHY1); have cHY1 := HY.out.cell 1; (try clear fHY); have fHY := fun i => HY.out.frozen i))
        exact bodyPost_ret (res_ctt rfl _ _ #[.int .i64 0, .int .i64 0] 2 rfl ((HY.out.set_ 0 _).set_ 1 _) Try.rowSpan rfl) rfl ⟨by rw [HV1.out]; rfl, bset (bset HB.out (by omega) _) (by omega) _⟩
      rw [h4] at hd
      rw [show (liesB S.a.X (D k 0) (D k 1) && liesB S.a.Y wl wh) = true from h4] at I4
      have J4 := Lib.hid I4
      have vw : vspan wl wh = true := by unfold airB at ha; simp only [Bool.and_eq_true] at ha; exact ha.1.1.1
      have f1 := Fits.mk' (rotB_a hr) h2 vw h4
      have I5 := fun w1 hR => wake_d hx hy hv gx gy gv lx ly lv px py pv nx ny nv ax ay av cx cy cv dx dy dv cl bu wl wh tl th el eh nl nh (D k 0) (D k 1) (D k 2) (D k 3) S w1 hR f1 (Fits_c hr f1)
      have bd2 := h3
      clear I4 hp ha vw
      cases h5 : wakV S wl wh (D k 0) (D k 1) (D k 2) (D k 3)
      case true =>
        rw [h5] at I5
        have es := hX.out.1
        rw [dScan_wak hlt hd h5] at es
        have v1 := HV.out
        rw [es, if_pos (by dsimp only; decide)] at v1
        have HV1 := Lib.hid v1
        have J5 := Lib.hid I5
        clear v1 es HV hX I5 hd hr f1
        go_wp2_with (first | (go_at_call 53; (with_reducible refine (I0.out _).mono ?_); rintro e w3 ⟨rfl, rfl⟩) | (refine wpl_row_g rfl 88 _ rfl _ rfl _ 34 HQ.out Try.rowMach rfl ?_; simp only [Act.put]) | ((with_reducible refine (J2.out _).mono ?_); rintro e w1 ⟨rfl, hb1⟩; have nHY := Lib.hid (HY.out.below hb1); have nHQ := Lib.hid (HQ.out.below hb1); have nHS := Lib.hid (HS.out.below hb1); have nN5 := Lib.hid (N5.out.below hb1); have nHB := Lib.hid (bthen HB.out hb1); have zz1 := hb1.size; clear HY HQ HS N5 HB hb1; have HY := nHY; have HQ := nHQ; have HS := nHS; have N5 := nN5; have HB := nHB; clear nHY nHQ nHS nN5 nHB; (try clear zHY); have zHY := HY.out.lt; (try clear cHY0); have cHY0 := HY.out.cell 0; (try clear cHY1); have cHY1 := HY.out.cell 1; (try clear fHY); have fHY := fun i => HY.out.frozen i; (try clear zN5); have zN5 := N5.out.lt; (try clear cN50); have cN50 := N5.out.cell 0; (try clear cN51); have cN51 := N5.out.cell 1; (try clear cN52); have cN52 := N5.out.cell 2; (try clear cN53); have cN53 := N5.out.cell 3) | ((with_reducible refine (J3.out _).mono ?_); rintro e w1 ⟨rfl, hb1⟩; have nHY := Lib.hid (HY.out.below hb1); have nHQ := Lib.hid (HQ.out.below hb1); have nHS := Lib.hid (HS.out.below hb1); have nN5 := Lib.hid (N5.out.below hb1); have nHB := Lib.hid (bthen HB.out hb1); have zz1 := hb1.size; clear HY HQ HS N5 HB hb1; have HY := nHY; have HQ := nHQ; have HS := nHS; have N5 := nN5; have HB := nHB; clear nHY nHQ nHS nN5 nHB; (try clear zHY); have zHY := HY.out.lt; (try clear cHY0); have cHY0 := HY.out.cell 0; (try clear cHY1); have cHY1 := HY.out.cell 1; (try clear fHY); have fHY := fun i => HY.out.frozen i; (try clear zN5); have zN5 := N5.out.lt; (try clear cN50); have cN50 := N5.out.cell 0; (try clear cN51); have cN51 := N5.out.cell 1; (try clear cN52); have cN52 := N5.out.cell 2; (try clear cN53); have cN53 := N5.out.cell 3) | ((with_reducible refine (ring_c _ _ _ _ _ _ _ _ _ _ _ _ _ _ _ _ _ _ _ _ _ _ _ _ _ _ _ _ _ _ _ _ _ _ HR.out.a.s1 HR.out.a.s2 HR.out.a.s3 _ _ _).mono ?_); rintro e w1 ⟨rfl, hb1⟩; have nHY := Lib.hid (HY.out.below hb1); have nHQ := Lib.hid (HQ.out.below hb1); have nHS := Lib.hid (HS.out.below hb1); have nN5 := Lib.hid (N5.out.below hb1); have nHB := Lib.hid (bthen HB.out hb1); have zz1 := hb1.size; clear HY HQ HS N5 HB hb1; have HY := nHY; have HQ := nHQ; have HS := nHS; have N5 := nN5; have HB := nHB; clear nHY nHQ nHS nN5 nHB; (try clear zHY); have zHY := HY.out.lt; (try clear cHY0); have cHY0 := HY.out.cell 0; (try clear cHY1); have cHY1 := HY.out.cell 1; (try clear fHY); have fHY := fun i => HY.out.frozen i; (try clear zN5); have zN5 := N5.out.lt; (try clear cN50); have cN50 := N5.out.cell 0; (try clear cN51); have cN51 := N5.out.cell 1; (try clear cN52); have cN52 := N5.out.cell 2; (try clear cN53); have cN53 := N5.out.cell 3) | ((with_reducible refine (J4.out _ (HR.out.a.x.below HB.out) (HR.out.a.y.below HB.out)).mono ?_); rintro e w1 ⟨rfl, hb1⟩; have nHY := Lib.hid (HY.out.below hb1); have nHQ := Lib.hid (HQ.out.below hb1); have nHS := Lib.hid (HS.out.below hb1); have nN5 := Lib.hid (N5.out.below hb1); have nHB := Lib.hid (bthen HB.out hb1); have zz1 := hb1.size; clear HY HQ HS N5 HB hb1; have HY := nHY; have HQ := nHQ; have HS := nHS; have N5 := nN5; have HB := nHB; clear nHY nHQ nHS nN5 nHB; (try clear zHY); have zHY := HY.out.lt; (try clear cHY0); have cHY0 := HY.out.cell 0; (try clear cHY1); have cHY1 := HY.out.cell 1; (try clear fHY); have fHY := fun i => HY.out.frozen i; (try clear zN5); have zN5 := N5.out.lt; (try clear cN50); have cN50 := N5.out.cell 0; (try clear cN51); have cN51 := N5.out.cell 1; (try clear cN52); have cN52 := N5.out.cell 2; (try clear cN53); have cN53 := N5.out.cell 3) | (go_at_call 69; (with_reducible refine (J5.out _ (HR.out.below HB.out)).mono ?_); rintro e w1 ⟨rfl, hb1⟩; have nHY := Lib.hid (HY.out.below hb1); have nHQ := Lib.hid (HQ.out.below hb1); have nHS := Lib.hid (HS.out.below hb1); have nN5 := Lib.hid (N5.out.below hb1); have nHB := Lib.hid (bthen HB.out hb1); have zz1 := hb1.size; clear HY HQ HS N5 HB hb1; have HY := nHY; have HQ := nHQ; have HS := nHS; have N5 := nN5; have HB := nHB; clear nHY nHQ nHS nN5 nHB; (try clear zHY); have zHY := HY.out.lt; (try clear cHY0); have cHY0 := HY.out.cell 0; (try clear cHY1); have cHY1 := HY.out.cell 1; (try clear fHY); have fHY := fun i => HY.out.frozen i) | (refine wpl_row rfl 88 _ rfl _ rfl _ 34 HQ.out Try.rowMach rfl ?_; simp only [Act.put]))
        exact bodyPost_ret (res_ctt rfl _ _ #[.int .i64 0, .int .i64 0] 2 rfl ((HY.out.set_ 0 _).set_ 1 _) Try.rowSpan rfl) rfl ⟨by rw [HV1.out]; rfl, bset (bset HB.out (by omega) _) (by omega) _⟩
      rw [h5] at I5
      have es := hX.out.1
      rw [dScan_next hlt hd h5] at es
      have J5 := Lib.hid I5
      have HX2 := Lib.hid (And.intro es hX.out.2)
      clear es hX I5 hd hr f1
      go_wp2_with (first | (go_at_call 53; (with_reducible refine (I0.out _).mono ?_); rintro e w3 ⟨rfl, rfl⟩) | (refine wpl_row_g rfl 88 _ rfl _ rfl _ 34 HQ.out Try.rowMach rfl ?_; simp only [Act.put]) | ((with_reducible refine (J2.out _).mono ?_); rintro e w1 ⟨rfl, hb1⟩; have nHY := Lib.hid (HY.out.below hb1); have nHQ := Lib.hid (HQ.out.below hb1); have nHS := Lib.hid (HS.out.below hb1); have nN5 := Lib.hid (N5.out.below hb1); have nHB := Lib.hid (bthen HB.out hb1); have zz1 := hb1.size; clear HY HQ HS N5 HB hb1; have HY := nHY; have HQ := nHQ; have HS := nHS; have N5 := nN5; have HB := nHB; clear nHY nHQ nHS nN5 nHB; (try clear zN5); have zN5 := N5.out.lt; (try clear cN50); have cN50 := N5.out.cell 0; (try clear cN51); have cN51 := N5.out.cell 1; (try clear cN52); have cN52 := N5.out.cell 2; (try clear cN53); have cN53 := N5.out.cell 3; (try clear cN54); have cN54 := N5.out.cell 4) | ((with_reducible refine (J3.out _).mono ?_); rintro e w1 ⟨rfl, hb1⟩; have nHY := Lib.hid (HY.out.below hb1); have nHQ := Lib.hid (HQ.out.below hb1); have nHS := Lib.hid (HS.out.below hb1); have nN5 := Lib.hid (N5.out.below hb1); have nHB := Lib.hid (bthen HB.out hb1); have zz1 := hb1.size; clear HY HQ HS N5 HB hb1; have HY := nHY; have HQ := nHQ; have HS := nHS; have N5 := nN5; have HB := nHB; clear nHY nHQ nHS nN5 nHB; (try clear zN5); have zN5 := N5.out.lt; (try clear cN50); have cN50 := N5.out.cell 0; (try clear cN51); have cN51 := N5.out.cell 1; (try clear cN52); have cN52 := N5.out.cell 2; (try clear cN53); have cN53 := N5.out.cell 3; (try clear cN54); have cN54 := N5.out.cell 4) | ((with_reducible refine (ring_c _ _ _ _ _ _ _ _ _ _ _ _ _ _ _ _ _ _ _ _ _ _ _ _ _ _ _ _ _ _ _ _ _ _ HR.out.a.s1 HR.out.a.s2 HR.out.a.s3 _ _ _).mono ?_); rintro e w1 ⟨rfl, hb1⟩; have nHY := Lib.hid (HY.out.below hb1); have nHQ := Lib.hid (HQ.out.below hb1); have nHS := Lib.hid (HS.out.below hb1); have nN5 := Lib.hid (N5.out.below hb1); have nHB := Lib.hid (bthen HB.out hb1); have zz1 := hb1.size; clear HY HQ HS N5 HB hb1; have HY := nHY; have HQ := nHQ; have HS := nHS; have N5 := nN5; have HB := nHB; clear nHY nHQ nHS nN5 nHB; (try clear zN5); have zN5 := N5.out.lt; (try clear cN50); have cN50 := N5.out.cell 0; (try clear cN51); have cN51 := N5.out.cell 1; (try clear cN52); have cN52 := N5.out.cell 2; (try clear cN53); have cN53 := N5.out.cell 3; (try clear cN54); have cN54 := N5.out.cell 4) | ((with_reducible refine (J4.out _ (HR.out.a.x.below HB.out) (HR.out.a.y.below HB.out)).mono ?_); rintro e w1 ⟨rfl, hb1⟩; have nHY := Lib.hid (HY.out.below hb1); have nHQ := Lib.hid (HQ.out.below hb1); have nHS := Lib.hid (HS.out.below hb1); have nN5 := Lib.hid (N5.out.below hb1); have nHB := Lib.hid (bthen HB.out hb1); have zz1 := hb1.size; clear HY HQ HS N5 HB hb1; have HY := nHY; have HQ := nHQ; have HS := nHS; have N5 := nN5; have HB := nHB; clear nHY nHQ nHS nN5 nHB; (try clear zN5); have zN5 := N5.out.lt; (try clear cN50); have cN50 := N5.out.cell 0; (try clear cN51); have cN51 := N5.out.cell 1; (try clear cN52); have cN52 := N5.out.cell 2; (try clear cN53); have cN53 := N5.out.cell 3; (try clear cN54); have cN54 := N5.out.cell 4) | (go_at_call 69; (with_reducible refine (J5.out _ (HR.out.below HB.out)).mono ?_); rintro e w1 ⟨rfl, hb1⟩; have nHY := Lib.hid (HY.out.below hb1); have nHQ := Lib.hid (HQ.out.below hb1); have nHS := Lib.hid (HS.out.below hb1); have nN5 := Lib.hid (N5.out.below hb1); have nHB := Lib.hid (bthen HB.out hb1); have zz1 := hb1.size; clear HY HQ HS N5 HB hb1; have HY := nHY; have HQ := nHQ; have HS := nHS; have N5 := nN5; have HB := nHB; clear nHY nHQ nHS nN5 nHB; (try clear zN5); have zN5 := N5.out.lt; (try clear cN52); have cN52 := N5.out.cell 2; (try clear cN53); have cN53 := N5.out.cell 3; (try clear cN54); have cN54 := N5.out.cell 4; (try clear zHS); have zHS := HS.out.lt; (try clear cHS0); have cHS0 := HS.out.cell 0; (try clear cHS1); have cHS1 := HS.out.cell 1; (try clear fHS); have fHS := fun i => HS.out.frozen i) | (refine wpl_row rfl 88 _ rfl _ rfl _ 34 HQ.out Try.rowMach rfl ?_; simp only [Act.put]))
      rename World => wq
      obtain ⟨M0, L1, M1, H1, eq0, eq1, eq2, eq3, k0, k1, hb0, hb1, hb2, hb3⟩ := dStep (by omega) h1 h3 HX2.out.2
      have hne : gN5 ≠ gHS := by omega
      have K0 := Lib.hid k0
      have K1 := Lib.hid k1
      have AQ := Lib.hid (And.intro hb0 (And.intro hb1 (And.intro hb2 hb3)))
      clear k0 k1 hb0 hb1 hb2 hb3 h1 h2 h3 h4 h5 bd2 I0 J2 J3 J4 J5 q0 q1 q2 q3 HEE
      have F2 := Lib.hid (fun a (hj : adJ wq.drew gHS L1 a) => adJ_blk N5.out.drew hne hj)
      have FS := Lib.hid (fun a (hj : a = wq.drew) => show Blk a gHS _ _ from hj ▸ HS.out.drew)
      have FH := Lib.hid (fun a (hj : adJ wq.drew gHS L1 a) => adJ_hi HS.out.drew hj)
      generalize dLo D k = x0 at *
      generalize dHi D k = x1 at *
      generalize D k 2 = s0 at *
      generalize D k 3 = s1 at *
      generalize D k 4 = t at *
      generalize D k 0 = v0 at *
      generalize D k 1 = v1 at *
      refine wp_region_specH (adG wq.drew gHS L1) (adJ wq.drew gHS L1) (adI wq.drew) (adG_size _ _ _) (adG_J _ _ _) (adG_I (by kernel_rfl) _ _ _) (Or.inl rfl) (fun _ _ => rfl) 20 (adR gHS gN5 x0 x1 s0 s1 t M0 L1 M1 H1 wq.drew) (fun _ => false) (by kernel_rfl) (by kernel_rfl) (adG_R _ _ _ _ _ _ _ _ _ _ _ _) ?hoph432 ?htailh432
      case hoph432 =>
        simp only [List.take_succ_cons, List.take_zero, allOps]
        refine ⟨?_, ?_, ?_, ?_, ?_, ?_, ?_, ?_, ?_, ?_, ?_, ?_, ?_, ?_, ?_, ?_, ?_, ?_, ?_, ?_, trivial⟩
        all_goals intro u A w1 hA hj hi hd
        all_goals simp only [putAll, dstOf, List.getElem?_toArray, List.getElem?_cons_succ, List.getElem?_cons_zero, Option.bind_some, Option.bind, Act.put, List.setIfInBounds_toArray, List.set_cons_succ, List.set_cons_zero] at hA; subst hA
        · clear hd
          go_wp2
          exact ⟨_, rfl, rfl, rfl, fun h => absurd h (by decide)⟩
        · have d0 : u 0 = _ := hd 0 (by omega) (by kernel_rfl)
          clear hd
          try rw [d0]
          clear d0
          have c := (FS.out _ (hi (Or.inl rfl))).cell 0
          go_wp2
          exact ⟨_, rfl, rfl, rfl, fun h => absurd h (by decide)⟩
        · clear hd
          go_wp2
          exact ⟨_, rfl, rfl, rfl, fun h => absurd h (by decide)⟩
        · have d2 : u 2 = _ := hd 2 (by omega) (by kernel_rfl)
          clear hd
          try rw [d2]
          clear d2
          go_wp2
          exact ⟨_, rfl, rfl, rfl, fun h => absurd h (by decide)⟩
        · have d3 : u 3 = _ := hd 3 (by omega) (by kernel_rfl)
          clear hd
          try rw [d3]
          clear d3
          have c := (F2.out _ hj).cell 2
          go_wp2
          exact ⟨_, rfl, rfl, rfl, fun h => absurd h (by decide)⟩
        · clear hd
          go_wp2
          exact ⟨_, rfl, rfl, rfl, fun h => absurd h (by decide)⟩
        · have d5 : u 5 = _ := hd 5 (by omega) (by kernel_rfl)
          clear hd
          try rw [d5]
          clear d5
          have c := (F2.out _ hj).cell 4
          go_wp2
          exact ⟨_, rfl, rfl, rfl, fun h => absurd h (by decide)⟩
        · have d4 : u 4 = _ := hd 4 (by omega) (by kernel_rfl)
          have d6 : u 6 = _ := hd 6 (by omega) (by kernel_rfl)
          clear hd
          try rw [d4, d6]
          clear d4 d6
          go_wp2
          exact ⟨_, rfl, rfl, (show Value.int .i64 (wrap64 (s0 * t)) = .int .i64 M0 by rw [eq0]), fun h => absurd h (by decide)⟩
        · have d1 : u 1 = _ := hd 1 (by omega) (by kernel_rfl)
          have d7 : u 7 = _ := hd 7 (by omega) (by kernel_rfl)
          clear hd
          try rw [d1, d7]
          clear d1 d7
          go_wp2
          exact ⟨_, rfl, rfl, (show Value.int .i64 (wrap64 (x0 + M0)) = .int .i64 L1 by rw [eq1]), fun h => absurd h (by decide)⟩
        · clear hd
          go_wp2
          exact ⟨_, rfl, rfl, rfl, fun h => absurd h (by decide)⟩
        · have d9 : u 9 = _ := hd 9 (by omega) (by kernel_rfl)
          clear hd
          try rw [d9]
          clear d9
          have c := FH.out _ hj
          go_wp2
          exact ⟨_, rfl, rfl, rfl, fun h => absurd h (by decide)⟩
        · clear hd
          go_wp2
          exact ⟨_, rfl, rfl, rfl, fun h => absurd h (by decide)⟩
        · have d11 : u 11 = _ := hd 11 (by omega) (by kernel_rfl)
          clear hd
          try rw [d11]
          clear d11
          go_wp2
          exact ⟨_, rfl, rfl, rfl, fun h => absurd h (by decide)⟩
        · have d12 : u 12 = _ := hd 12 (by omega) (by kernel_rfl)
          clear hd
          try rw [d12]
          clear d12
          have c := (F2.out _ hj).cell 3
          go_wp2
          exact ⟨_, rfl, rfl, rfl, fun h => absurd h (by decide)⟩
        · clear hd
          go_wp2
          exact ⟨_, rfl, rfl, rfl, fun h => absurd h (by decide)⟩
        · have d14 : u 14 = _ := hd 14 (by omega) (by kernel_rfl)
          clear hd
          try rw [d14]
          clear d14
          have c := (F2.out _ hj).cell 4
          go_wp2
          exact ⟨_, rfl, rfl, rfl, fun h => absurd h (by decide)⟩
        · have d13 : u 13 = _ := hd 13 (by omega) (by kernel_rfl)
          have d15 : u 15 = _ := hd 15 (by omega) (by kernel_rfl)
          clear hd
          try rw [d13, d15]
          clear d13 d15
          go_wp2
          exact ⟨_, rfl, rfl, (show Value.int .i64 (wrap64 (s1 * t)) = .int .i64 M1 by rw [eq2]), fun h => absurd h (by decide)⟩
        · have d10 : u 10 = _ := hd 10 (by omega) (by kernel_rfl)
          have d16 : u 16 = _ := hd 16 (by omega) (by kernel_rfl)
          clear hd
          try rw [d10, d16]
          clear d10 d16
          go_wp2
          exact ⟨_, rfl, rfl, (show Value.int .i64 (wrap64 (x1 + M1)) = .int .i64 H1 by rw [eq3]), fun h => absurd h (by decide)⟩
        · have d0 : u 0 = _ := hd 0 (by omega) (by kernel_rfl)
          have d1 : u 1 = _ := hd 1 (by omega) (by kernel_rfl)
          have d2 : u 2 = _ := hd 2 (by omega) (by kernel_rfl)
          have d3 : u 3 = _ := hd 3 (by omega) (by kernel_rfl)
          have d4 : u 4 = _ := hd 4 (by omega) (by kernel_rfl)
          have d5 : u 5 = _ := hd 5 (by omega) (by kernel_rfl)
          have d6 : u 6 = _ := hd 6 (by omega) (by kernel_rfl)
          have d7 : u 7 = _ := hd 7 (by omega) (by kernel_rfl)
          have d8 : u 8 = _ := hd 8 (by omega) (by kernel_rfl)
          have d9 : u 9 = _ := hd 9 (by omega) (by kernel_rfl)
          have d10 : u 10 = _ := hd 10 (by omega) (by kernel_rfl)
          clear hd
          try rw [d0, d1, d2, d3, d4, d5, d6, d7, d8, d9, d10]
          clear d0 d1 d2 d3 d4 d5 d6 d7 d8 d9 d10
          go_wp2
          exact ⟨_, rfl, rfl, rfl, fun h => absurd h (by decide)⟩
        · have d0 : u 0 = _ := hd 0 (by omega) (by kernel_rfl)
          have d1 : u 1 = _ := hd 1 (by omega) (by kernel_rfl)
          have d2 : u 2 = _ := hd 2 (by omega) (by kernel_rfl)
          have d3 : u 3 = _ := hd 3 (by omega) (by kernel_rfl)
          have d4 : u 4 = _ := hd 4 (by omega) (by kernel_rfl)
          have d5 : u 5 = _ := hd 5 (by omega) (by kernel_rfl)
          have d6 : u 6 = _ := hd 6 (by omega) (by kernel_rfl)
          have d7 : u 7 = _ := hd 7 (by omega) (by kernel_rfl)
          have d8 : u 8 = _ := hd 8 (by omega) (by kernel_rfl)
          have d9 : u 9 = _ := hd 9 (by omega) (by kernel_rfl)
          have d10 : u 10 = _ := hd 10 (by omega) (by kernel_rfl)
          have d18 : u 18 = _ := hd 18 (by omega) (by kernel_rfl)
          clear hd
          try rw [d0, d1, d2, d3, d4, d5, d6, d7, d8, d9, d10, d18]
          clear d0 d1 d2 d3 d4 d5 d6 d7 d8 d9 d10 d18
          have c := (FS.out _ (hi (Or.inr rfl))).cell 0
          have c2 := (FS.out _ (hi (Or.inr rfl))).frozen 0
          have e := hi (Or.inr rfl)
          subst e
          go_wp2
          exact ⟨undef, rfl, ⟨rfl, rfl⟩, rfl, fun h => absurd h (by decide)⟩
      case htailh432 =>
        intro u A w1 hA hj hd hf
        simp only [putAll, dstOf, List.getElem?_toArray, List.getElem?_cons_succ, List.getElem?_cons_zero, Option.bind_some, Option.bind, Act.put, List.setIfInBounds_toArray, List.set_cons_succ, List.set_cons_zero] at hA; subst hA
        have e0 : u 0 = _ := hd 0 (by omega)
        have e1 : u 1 = _ := hd 1 (by omega)
        have e2 : u 2 = _ := hd 2 (by omega)
        have e3 : u 3 = _ := hd 3 (by omega)
        have e4 : u 4 = _ := hd 4 (by omega)
        have e5 : u 5 = _ := hd 5 (by omega)
        have e6 : u 6 = _ := hd 6 (by omega)
        have e7 : u 7 = _ := hd 7 (by omega)
        have e8 : u 8 = _ := hd 8 (by omega)
        have e9 : u 9 = _ := hd 9 (by omega)
        have e10 : u 10 = _ := hd 10 (by omega)
        have e11 : u 11 = _ := hd 11 (by omega)
        have e12 : u 12 = _ := hd 12 (by omega)
        have e13 : u 13 = _ := hd 13 (by omega)
        have e14 : u 14 = _ := hd 14 (by omega)
        have e15 : u 15 = _ := hd 15 (by omega)
        have e16 : u 16 = _ := hd 16 (by omega)
        have e17 : u 17 = _ := hd 17 (by omega)
        have e18 : u 18 = _ := hd 18 (by omega)
        have p19 := hd 19 (by omega)
        first | rw [e0, e1, e2, e3, e4, e5, e6, e7, e8, e9, e10, e11, e12, e13, e14, e15, e16, e17, e18] | simp only [e0, e1, e2, e3, e4, e5, e6, e7, e8, e9, e10, e11, e12, e13, e14, e15, e16, e17, e18]
        clear e0 e1 e2 e3 e4 e5 e6 e7 e8 e9 e10 e11 e12 e13 e14 e15 e16 e17 e18
        clear hd hf
        have p := (show w1 = adW wq.drew gHS L1 from p19)
        subst p
        have HT := Lib.hid (show Blk (adW wq.drew gHS L1) gHS 34 #[.int .i64 L1, .int .i64 x1] from HS.out.drew.set_ 0 (.int .i64 L1))
        have nHY := Lib.hid (show Blk (adW wq.drew gHS L1) _ _ _ from HY.out.drew.far' (by omega) _)
        have nHQ := Lib.hid (show Blk (adW wq.drew gHS L1) _ _ _ from HQ.out.drew.far' (by omega) _)
        have nHB := Lib.hid (show Below w.heap.size w (adW wq.drew gHS L1) from bset (bdn HB.out 1) (by omega) _)
        clear p19 hj FS FH F2 HS HY HQ HB N5 cHS0 cHS1 fHS cN50 cN51 cN52 cN53 cN54 y0 y1 y2
        generalize adW wq.drew gHS L1 = wt at *
        have HB := nHB
        have HY := nHY
        have HQ := nHQ
        clear nHB nHY nHQ
        have g0 := HT.out.cell 1
        have g1 := HT.out.frozen 1
        go_wp2
        go_roundw
        case rel => exact ⟨k + 1, by omega, by go_num, bset HB.out (by omega) _, HY.out.far' (by omega) _, HQ.out.far' (by omega) _, by rw [← K0.out, ← K1.out]; exact HT.out.set_ 1 (.int .i64 H1), ⟨HX2.out.1, by have := AQ.out; push_cast; omega⟩⟩
        case measure => simp [intOf]; omega
    · obtain rfl : k = n := by omega
      have e0 := hX.out.1
      rw [Nat.sub_self, show dScan S wl wh D 0 k = (0, 0) from rfl] at e0
      have v1 := HV.out
      rw [e0, if_neg (by decide)] at v1
      have HC1 := fun w => ro_valid_c (dLo D k) (dHi D k) w
      clear HV e0 hX
      cases hv : vspan (dLo D k) (dHi D k)
      all_goals
        rw [hv] at v1 HC1
        have HV := Lib.hid v1
        clear v1
        generalize dLo D k = x0 at *
        generalize dHi D k = x1 at *
        have s0 := HS.out.cell 0
        have s1 := HS.out.cell 1
        have y0 := HY.out.cell 0
        have y1 := HY.out.cell 1
        have y2 := fun i => HY.out.frozen i
        go_wp2_with (first | (go_at_call 88; (with_reducible refine (HC1 _).mono ?_); rintro e w1 ⟨rfl, hb1⟩; have nHY := Lib.hid (HY.out.below hb1); have nHS := Lib.hid (HS.out.below hb1); have nHB := Lib.hid (bthen HB.out hb1); have zz1 := hb1.size; clear HY HS HB hb1; have HY := nHY; have HS := nHS; have HB := nHB; clear nHY nHS nHB; (try clear zHY); have zHY := HY.out.lt; (try clear cHY0); have cHY0 := HY.out.cell 0; (try clear cHY1); have cHY1 := HY.out.cell 1; (try clear fHY); have fHY := fun i => HY.out.frozen i; (try clear zHS); have zHS := HS.out.lt; (try clear cHS0); have cHS0 := HS.out.cell 0; (try clear cHS1); have cHS1 := HS.out.cell 1))
      · exact bodyPost_ret (res_ctt rfl _ _ #[.int .i64 0, .int .i64 0] 2 rfl ((HY.out.set_ 0 _).set_ 1 _) Try.rowSpan rfl) rfl ⟨by rw [HV.out]; rfl, bset (bset HB.out (by omega) _) (by omega) _⟩
      · exact bodyPost_ret (res_ctt rfl _ _ #[.int .i64 x0, .int .i64 x1] 2 rfl ((HY.out.set_ 0 _).set_ 1 _) Try.rowSpan rfl) rfl ⟨by rw [HV.out]; rfl, bset (bset HB.out (by omega) _) (by omega) _⟩
end Go.Proofs.Ytoembbcddhlokaa
