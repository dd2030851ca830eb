/- Contracts: needs, margin of package rotor. -/
import Derived.Test.YtechkkgmdjgddaaGreatRoG
import Derived.Test.YtechkkgmdjgddaaGreatBas
set_option linter.all false
namespace Go.Proofs.YtechkkgmdjgddaaGreat
open Go Go.RowKit Go.Proofs
set_option maxRecDepth 100000
set_option maxHeartbeats 4000000

theorem bnd_c (x y v : Value) (T : Tbl) (xl xh yl yh : Int) (w : World) (hT : TblAt w x y v T) (hF : Fits T xl xh yl yh) :
   Calls Tryz.prog 28 #[.agg #[x, y, v, .int .i64 xl, .int .i64 xh, .int .i64 yl, .int .i64 yh]] w fun e w' => e = .returned (.agg #[.int .i64 (bLo T xl xh yl yh), .int .i64 (bHi T xl xh yl yh)]) ∧ Below w.heap.size w w' := by
  have := ro_bound_c x y v T xl xh yl yh w hT hF
  rwa [(bnd_eq hF).1, (bnd_eq hF).2] at this

/-- A pointer to a new block of these cells. -/
def NewBlk (w0 : Nat) (t : TypeId) (cs : Array Value) (v : Value) (w : World) : Prop := ∃ g, v = .pointer (some ⟨g, 0, none⟩) ∧ w0 ≤ g ∧ Blk w g t cs
theorem NewBlk.below {w0 : Nat} {t : TypeId} {cs : Array Value} {v : Value} {w w' : World} (hb : Below w.heap.size w w') (h : NewBlk w0 t cs v w) : NewBlk w0 t cs v w' := by
  obtain ⟨g, rfl, h1, h2⟩ := h; exact ⟨g, rfl, h1, h2.below hb⟩

def needR (w0 : Nat) (m : Value) (lk1 b1 sp lk2 b2 : Value) : Nat → Value → World → Prop
  | 0, v, _ => v = m
  | 1, v, _ => v = lk1
  | 2, v, _ => v = b1
  | 3, v, _ => v = m
  | 4, v, _ => v = sp
  | 5, v, _ => v = lk2
  | 6, v, _ => v = b2
  | 7, v, w => NewBlk w0 29 #[.int .i64 0, .int .i64 0] v w
  | 8, v, w => NewBlk w0 29 #[.int .i64 0, .int .i64 0] v w
  | _, _, _ => True
theorem needR_below {w0 : Nat} {m lk1 b1 sp lk2 b2 : Value} (k : Nat) (v : Value) (w w' : World) (hb : Below w.heap.size w w') (h : needR w0 m lk1 b1 sp lk2 b2 k v w) : needR w0 m lk1 b1 sp lk2 b2 k v w' := by
  unfold needR at *
  split at h <;> first | exact h | exact NewBlk.below hb h

theorem Tryz.rowSpan : RowTy Tryz.prog 29 2 := ⟨by kernel_rfl, by kernel_rfl⟩

theorem needs_c (hx hy hv gx gy gv lx ly lv px py pv nx ny nv ax ay av cx cy cv dx dy dv : Value) (cl bu wl wh tl th el eh nl nh : Int) (sl sh : Int) (S : Tabs) (w : World) (hR : RotAt w hx hy hv gx gy gv lx ly lv px py pv nx ny nv ax ay av cx cy cv dx dy dv cl bu S) (h1 : rightB S.h 0 100000 = true) (h2 : rightB S.g 0 100 = true)
    (hH : Fits S.h wl wh tl th) (hG : Fits S.g sl sh nl nh) :
   Calls Tryz.prog 73 #[.agg #[hx, hy, hv, gx, gy, gv, lx, ly, lv, px, py, pv, nx, ny, nv, ax, ay, av, cx, cy, cv, dx, dy, dv, .int .i64 cl, .int .i64 bu, .int .i64 wl, .int .i64 wh, .int .i64 tl, .int .i64 th, .int .i64 el, .int .i64 eh, .int .i64 nl, .int .i64 nh], .agg #[.int .i64 sl, .int .i64 sh]] w fun e w' => e = .returned (.agg #[.int .i64 (needLo S wl wh tl th nl nh sl sh), .int .i64 (needHi S wl wh tl th nl nh sl sh)]) ∧ Below w.heap.size w w' := by
  have HH := Lib.hid hH
  have HG := Lib.hid hG
  have HR := Lib.hid hR
  have l1 := bnd_lim h1 hH
  have l2 := bnd_lim h2 hG
  clear hH hG hR h1 h2
  unfold needLo needHi
  have c1 := fun w1 x y v => bnd_c x y v S.h wl wh tl th w1
  have c2 := fun w1 x y v => bnd_c x y v S.g sl sh nl nh w1
  generalize bLo S.h wl wh tl th = p0 at *
  generalize bHi S.h wl wh tl th = p1 at *
  generalize bLo S.g sl sh nl nh = g0 at *
  generalize bHi S.g sl sh nl nh = g1 at *
  have C1 := Lib.hid c1
  have C2 := Lib.hid c2
  clear c1 c2
  have m1 := mul_bd (a := p0) (b := g0) (A := 100000) (B := 100) (by omega) (by omega) (by omega) (by omega)
  have m2 := mul_bd (a := p1) (b := g1) (A := 100000) (B := 100) (by omega) (by omega) (by omega) (by omega)
  have m3 : 0 ≤ p0 * g0 := Int.mul_nonneg (by omega) (by omega)
  have m4 : 0 ≤ p1 * g1 := Int.mul_nonneg (by omega) (by omega)
  go_enter Tryz.func73, Tryz.ntmps73
  go_wp2
  have bM : Blk (((w.alloc (.cells #[hx, hy, hv, gx, gy, gv, lx, ly, lv, px, py, pv, nx, ny, nv, ax, ay, av, cx, cy, cv, dx, dy, dv, .int .i64 cl, .int .i64 bu, .int .i64 wl, .int .i64 wh, .int .i64 tl, .int .i64 th, .int .i64 el, .int .i64 eh, .int .i64 nl, .int .i64 nh] 51)).alloc (.cells #[.int .i64 sl, .int .i64 sh] 29)).alloc (.cells #[.int .i64 0, .int .i64 0] 29)) w.heap.size 51 #[hx, hy, hv, gx, gy, gv, lx, ly, lv, px, py, pv, nx, ny, nv, ax, ay, av, cx, cy, cv, dx, dy, dv, .int .i64 cl, .int .i64 bu, .int .i64 wl, .int .i64 wh, .int .i64 tl, .int .i64 th, .int .i64 el, .int .i64 eh, .int .i64 nl, .int .i64 nh] := (by repeat (first | (refine Blk.newAt _ _ _ ?_; first | rfl | (simp; done)) | refine Blk.alloc ?_ _))
  have bS : Blk (((w.alloc (.cells #[hx, hy, hv, gx, gy, gv, lx, ly, lv, px, py, pv, nx, ny, nv, ax, ay, av, cx, cy, cv, dx, dy, dv, .int .i64 cl, .int .i64 bu, .int .i64 wl, .int .i64 wh, .int .i64 tl, .int .i64 th, .int .i64 el, .int .i64 eh, .int .i64 nl, .int .i64 nh] 51)).alloc (.cells #[.int .i64 sl, .int .i64 sh] 29)).alloc (.cells #[.int .i64 0, .int .i64 0] 29)) (w.heap.size + 1) 29 #[.int .i64 sl, .int .i64 sh] := (by repeat (first | (refine Blk.newAt _ _ _ ?_; first | rfl | (simp; done)) | refine Blk.alloc ?_ _))
  have bZ : Blk (((w.alloc (.cells #[hx, hy, hv, gx, gy, gv, lx, ly, lv, px, py, pv, nx, ny, nv, ax, ay, av, cx, cy, cv, dx, dy, dv, .int .i64 cl, .int .i64 bu, .int .i64 wl, .int .i64 wh, .int .i64 tl, .int .i64 th, .int .i64 el, .int .i64 eh, .int .i64 nl, .int .i64 nh] 51)).alloc (.cells #[.int .i64 sl, .int .i64 sh] 29)).alloc (.cells #[.int .i64 0, .int .i64 0] 29)) (w.heap.size + 1 + 1) 29 #[.int .i64 0, .int .i64 0] := (by repeat (first | (refine Blk.newAt _ _ _ ?_; first | rfl | (simp; done)) | refine Blk.alloc ?_ _))
  have bW : Below w.heap.size w (((w.alloc (.cells #[hx, hy, hv, gx, gy, gv, lx, ly, lv, px, py, pv, nx, ny, nv, ax, ay, av, cx, cy, cv, dx, dy, dv, .int .i64 cl, .int .i64 bu, .int .i64 wl, .int .i64 wh, .int .i64 tl, .int .i64 th, .int .i64 el, .int .i64 eh, .int .i64 nl, .int .i64 nh] 51)).alloc (.cells #[.int .i64 sl, .int .i64 sh] 29)).alloc (.cells #[.int .i64 0, .int .i64 0] 29)) := (by repeat' (first | exact Below.refl _ _ | assumption | refine Below.drew ?_ | refine bdn ?_ _ | refine bal ?_ _ | refine Below.setCell ?_ (by first | (simp; done) | omega | (simp; omega)) _))
  have zW : (((w.alloc (.cells #[hx, hy, hv, gx, gy, gv, lx, ly, lv, px, py, pv, nx, ny, nv, ax, ay, av, cx, cy, cv, dx, dy, dv, .int .i64 cl, .int .i64 bu, .int .i64 wl, .int .i64 wh, .int .i64 tl, .int .i64 th, .int .i64 el, .int .i64 eh, .int .i64 nl, .int .i64 nh] 51)).alloc (.cells #[.int .i64 sl, .int .i64 sh] 29)).alloc (.cells #[.int .i64 0, .int .i64 0] 29)).heap.size = w.heap.size + 1 + 1 + 1 := by simp
  generalize (((w.alloc (.cells #[hx, hy, hv, gx, gy, gv, lx, ly, lv, px, py, pv, nx, ny, nv, ax, ay, av, cx, cy, cv, dx, dy, dv, .int .i64 cl, .int .i64 bu, .int .i64 wl, .int .i64 wh, .int .i64 tl, .int .i64 th, .int .i64 el, .int .i64 eh, .int .i64 nl, .int .i64 nh] 51)).alloc (.cells #[.int .i64 sl, .int .i64 sh] 29)).alloc (.cells #[.int .i64 0, .int .i64 0] 29)) = W at *
  have BM := Lib.hid bM
  have BS := Lib.hid bS
  have BZ := Lib.hid bZ
  have BW := Lib.hid bW
  have ZW := Lib.hid zW
  clear bM bS bZ bW zW
  refine wp_region_spec 9 (needR (w.heap.size + 1 + 1 + 1) (.agg #[hx, hy, hv, gx, gy, gv, lx, ly, lv, px, py, pv, nx, ny, nv, ax, ay, av, cx, cy, cv, dx, dy, dv, .int .i64 cl, .int .i64 bu, .int .i64 wl, .int .i64 wh, .int .i64 tl, .int .i64 th, .int .i64 el, .int .i64 eh, .int .i64 nl, .int .i64 nh]) (.agg #[hx, hy, hv, .int .i64 wl, .int .i64 wh, .int .i64 tl, .int .i64 th]) (.agg #[.int .i64 p0, .int .i64 p1]) (.agg #[.int .i64 sl, .int .i64 sh]) (.agg #[gx, gy, gv, .int .i64 sl, .int .i64 sh, .int .i64 nl, .int .i64 nh]) (.agg #[.int .i64 g0, .int .i64 g1])) (fun i => decide (7 ≤ i)) (by kernel_rfl) (by kernel_rfl) needR_below ?hop ?htail
  case hop =>
    simp only [List.take_succ_cons, List.take_zero, allOps]
    refine ⟨?_, ?_, ?_, ?_, ?_, ?_, ?_, ?_, ?_, trivial⟩
    all_goals intro u A w1 hA hb hd
    all_goals simp only [putAll, dstOf, List.getElem?_toArray, List.getElem?_cons_succ, List.getElem?_cons_zero, Option.bind_some, Option.bind, Act.put, List.setIfInBounds_toArray, List.set_cons_succ, List.set_cons_zero] at hA; subst hA
    all_goals have HB := Lib.hid hb
    · clear hb hd
      go_wp2_with (refine wpl_row rfl 51 (.tmp 2) rfl _ rfl _ 34 (BM.out.below HB.out) Tryz.rowMach rfl ?_; simp only [Act.put])
      exact ⟨_, rfl, Below.refl _ _, rfl, fun h => absurd h (by decide)⟩
    · have d0 : u 0 = _ := hd 0 (by omega) (by kernel_rfl)
      clear hb hd
      rw [d0]
      clear d0
      go_wp2_with (go_at_call 71; (with_reducible refine (hover_c _ _ _ _ _ _ _ _ _ _ _ _ _ _ _ _ _ _ _ _ _ _ _ _ _ _ _ _ _ _ _ _ _ _ HR.out.h.s1 HR.out.h.s2 HR.out.h.s3 _).mono ?_); rintro e w2 ⟨rfl, hb2⟩)
      exact ⟨_, rfl, hb2, rfl, fun h => absurd h (by decide)⟩
    · have d0 : u 1 = _ := hd 1 (by omega) (by kernel_rfl)
      have HT := Lib.hid ((HR.out.h.below BW.out).below hb)
      clear hb hd
      rw [d0]
      clear d0
      go_wp2_with (go_at_call 28; (with_reducible refine (C1.out _ _ _ _ HT.out HH.out).mono ?_); rintro e w2 ⟨rfl, hb2⟩)
      exact ⟨_, rfl, hb2, rfl, fun h => absurd h (by decide)⟩
    · clear hb hd
      go_wp2_with (refine wpl_row rfl 51 (.tmp 2) rfl _ rfl _ 34 (BM.out.below HB.out) Tryz.rowMach rfl ?_; simp only [Act.put])
      exact ⟨_, rfl, Below.refl _ _, rfl, fun h => absurd h (by decide)⟩
    · have c0 := (BS.out.below HB.out).cell 0
      have c1 := (BS.out.below HB.out).cell 1
      clear hb hd
      go_wp2
      exact ⟨_, rfl, Below.refl _ _, rfl, fun h => absurd h (by decide)⟩
    · have d0 : u 3 = _ := hd 3 (by omega) (by kernel_rfl)
      have d1 : u 4 = _ := hd 4 (by omega) (by kernel_rfl)
      clear hb hd
      rw [d0, d1]
      clear d0 d1
      go_wp2_with (go_at_call 72; (with_reducible refine (ground_c _ _ _ _ _ _ _ _ _ _ _ _ _ _ _ _ _ _ _ _ _ _ _ _ _ _ _ _ _ _ _ _ _ _ HR.out.g.s1 HR.out.g.s2 HR.out.g.s3 _ _ _).mono ?_); rintro e w2 ⟨rfl, hb2⟩)
      exact ⟨_, rfl, hb2, rfl, fun h => absurd h (by decide)⟩
    · have d0 : u 5 = _ := hd 5 (by omega) (by kernel_rfl)
      have HT := Lib.hid ((HR.out.g.below BW.out).below hb)
      clear hb hd
      rw [d0]
      clear d0
      go_wp2_with (go_at_call 28; (with_reducible refine (C2.out _ _ _ _ HT.out HG.out).mono ?_); rintro e w2 ⟨rfl, hb2⟩)
      exact ⟨_, rfl, hb2, rfl, fun h => absurd h (by decide)⟩
    · have zz := hb.size
      rw [ZW.out] at zz
      clear hb hd
      go_wp2
      exact ⟨_, rfl, bal (Below.refl _ _) _, ⟨_, rfl, zz, Blk.new _ _ _⟩, fun _ => ⟨_, rfl, Nat.le_refl _, by simp⟩⟩
    · have zz := hb.size
      rw [ZW.out] at zz
      clear hb hd
      go_wp2
      exact ⟨_, rfl, bal (Below.refl _ _) _, ⟨_, rfl, zz, Blk.new _ _ _⟩, fun _ => ⟨_, rfl, Nat.le_refl _, by simp⟩⟩
  case htail =>
    intro u A w1 hA hb hd hf
    simp only [putAll, dstOf, List.getElem?_toArray, List.getElem?_cons_succ, List.getElem?_cons_zero, Option.bind_some, Option.bind, Act.put, List.setIfInBounds_toArray, List.set_cons_succ, List.set_cons_zero] at hA; subst hA
    have e0 : u 0 = _ := hd 0 (by omega)
    have e1 : u 1 = _ := hd 1 (by omega)
    have e2 : u 2 = _ := hd 2 (by omega)
    have e3 : u 3 = _ := hd 3 (by omega)
    have e4 : u 4 = _ := hd 4 (by omega)
    have e5 : u 5 = _ := hd 5 (by omega)
    have e6 : u 6 = _ := hd 6 (by omega)
    obtain ⟨g7, e7, z7, b7⟩ := hd 7 (by omega)
    obtain ⟨g8, e8, z8, b8⟩ := hd 8 (by omega)
    have ne := hf 7 8 (by omega) (by omega) (by omega) rfl rfl
    rw [e7, e8] at ne
    have hne : g7 ≠ g8 := fun h => ne (by rw [h])
    rw [e0, e1, e2, e3, e4, e5, e6, e7, e8]
    clear hd hf ne e0 e1 e2 e3 e4 e5 e6 e7 e8
    have k0 := b7.cell 0
    have k1 := b7.cell 1
    have k2 := fun i => b7.frozen i
    have j0 := b8.cell 0
    have j1 := b8.cell 1
    have j2 := fun i => b8.frozen i
    have bz := BZ.out.below hb
    have r0 := bz.cell 0
    have r1 := bz.cell 1
    have r2 := fun i => bz.frozen i
    have hB := Lib.hid ((BW.out).trans (hb.mono BW.out.size))
    have BZ1 := Lib.hid bz
    clear bz hb b7 b8
    go_wp2
    exact bodyPost_ret (res_c rfl _ _ #[.int .i64 (p0 * g0 / 100), .int .i64 ((p1 * g1 + 99) / 100)] 2 rfl (((((((BZ1.out.far' (by omega) _).far' (by omega) _).far' (by omega) _).far' (by omega) _).set_ 0 _).set_ 1 _)) Tryz.rowSpan rfl) rfl ⟨rfl, (by repeat' (first | exact hB.out | refine bset ?_ (by omega) _))⟩
end Go.Proofs.YtechkkgmdjgddaaGreat
