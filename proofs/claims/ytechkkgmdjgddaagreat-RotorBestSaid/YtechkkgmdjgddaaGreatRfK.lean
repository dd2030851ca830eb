/- Contracts: bound, Bound of the references. -/
import Derived.Test.YtechkkgmdjgddaaGreatRfJ
import Derived.Test.YtechkkgmdjgddaaGreatRoH
set_option linter.all false
namespace Go.Proofs.YtechkkgmdjgddaaGreat
open Go Go.RowKit Go.Proofs
set_option maxRecDepth 100000
set_option maxHeartbeats 4000000

/-- The first i rows of pairs, and k pairs of the next one. -/
def pre (xs ys : List Int) (i k : Nat) : List (Int × Int) := pairs (xs.take i) ys ++ (ys.take k).map fun y => (nth xs i, y)
theorem pre_zero (xs ys : List Int) : pre xs ys 0 0 = [] := by simp [pre, pairs]
theorem pre_k {xs ys : List Int} {i k : Nat} (hk : k < ys.length) : pre xs ys i (k + 1) = pre xs ys i k ++ [(nth xs i, nth ys k)] := by
  unfold pre; rw [take_snoc ys k hk, List.map_append, List.append_assoc]; rfl
theorem pre_i {xs ys : List Int} {i : Nat} (hi : i < xs.length) : pre xs ys i ys.length = pre xs ys (i + 1) 0 := by
  unfold pre pairs; rw [take_snoc xs i hi, List.flatMap_append]; simp
theorem pre_end {xs ys : List Int} : pre xs ys xs.length 0 = pairs xs ys := by simp [pre, pairs]

theorem Ints.of_owns' {w : World} {base : Nat} {e : TypeId} {v : Value} {xs : List Int} (h : w.ownsRow base e 1 v xs.length (xs.map (Value.int .i64))) (h64 : ∀ x ∈ xs, I64 x) : Ints w v xs := by
  refine Ints.of_owns (base := base) (e := e) ?_ h64
  have : (List.range xs.length).map (fun k => Value.int .i64 (nth xs k)) = xs.map (Value.int .i64) := by
    apply List.ext_getElem (by simp)
    intro i h1 h2
    simp only [List.getElem_map, List.getElem_range]
    rw [nth_getElem _ _ (by simpa using h1)]
  rw [this]; exact h

def numR (T : Tbl) (px py : Int) : Int := num T (cellP T.X (px + 1)) (cellP T.Y (py + 1)) px py
def denR (T : Tbl) (px py : Int) : Int := den T (cellP T.X (px + 1)) (cellP T.Y (py + 1)) px py
theorem numR_bd {T : Tbl} {px py : Int} (ht : tblB T = true) (hO : OnT T px py) : (-400000000000000 ≤ numR T px py ∧ numR T px py ≤ 400000000000000) ∧ (1 ≤ denR T px py ∧ denR T px py ≤ 400000000) := by
  have hX := tblB_X ht
  have hY := tblB_Y ht
  obtain ⟨⟨ii, pi1, pi2⟩, ⟨kk, pk1, pk2⟩⟩ := flo_ref hX hY hO
  have si := axisB_step hX ii
  have sk := axisB_step hY kk
  have lV := tblB_len ht
  unfold numR denR
  rw [den_eq]
  unfold num
  generalize cellP T.X (px + 1) = i at *
  generalize cellP T.Y (py + 1) = k at *
  obtain ⟨l0, v0⟩ := tblB_row ht (show i < T.V.length by omega)
  obtain ⟨l1, v1⟩ := tblB_row ht (show i + 1 < T.V.length by omega)
  have u1 := v0 k (by omega)
  have u2 := v0 (k + 1) (by omega)
  have u3 := v1 k (by omega)
  have u4 := v1 (k + 1) (by omega)
  have EN := (wnum_eq (A := nth T.X (i + 1) - px) (B := px - nth T.X i) (C := nth T.Y (k + 1) - py) (D := py - nth T.Y k) (by omega) (by omega) (by omega) (by omega) (by omega) (by omega) (by omega) (by omega) u1 u2 u3 u4).2
  have EM := mul_bd (a := nth T.X (i + 1) - nth T.X i) (b := nth T.Y (k + 1) - nth T.Y k) (A := 10000) (B := 10000) (by omega) (by omega) (by omega) (by omega)
  have EP := Int.mul_le_mul (show 1 ≤ nth T.X (i + 1) - nth T.X i by omega) (show 1 ≤ nth T.Y (k + 1) - nth T.Y k by omega) (by omega) (by omega)
  exact ⟨EN, by omega⟩
theorem numR_flo {T : Tbl} {px py : Int} (ht : tblB T = true) (hO : OnT T px py) : numR T px py / denR T px py = flo T px py ∧ cdiv (numR T px py) (denR T px py) = cei T px py := by
  have hX := tblB_X ht
  have hY := tblB_Y ht
  obtain ⟨hi, hk⟩ := flo_ref hX hY hO
  exact flo_part hX hY hO hi hk

theorem rf_Value_d (x y v : Value) (T : Tbl) (px py : Int) (w : World) (hT : TblAt w x y v T) (ht : tblB T = true) (hO : OnT T px py) :
   Calls Tryz.prog 99 #[.agg #[x, y, v], .int .i64 px, .int .i64 py] w fun e w' =>
     e = .returned (.tuple #[.int .i64 (numR T px py), .int .i64 (denR T px py)]) ∧ Below w.heap.size w w' := rf_Value_c x y v T px py w hT ht hO
theorem rf_floor_d (T : Tbl) (px py : Int) (w : World) (ht : tblB T = true) (hO : OnT T px py) :
   Calls Tryz.prog 100 #[.int .i64 (numR T px py), .int .i64 (denR T px py)] w fun e w' => e = .returned (.int .i64 (flo T px py)) ∧ w = w' := by
  have b := numR_bd ht hO
  have := rf_floor_c (numR T px py) (denR T px py) w (by omega) (by omega) (by omega) (by omega)
  rwa [(numR_flo ht hO).1] at this
theorem rf_ceil_d (T : Tbl) (px py : Int) (w : World) (ht : tblB T = true) (hO : OnT T px py) :
   Calls Tryz.prog 101 #[.int .i64 (numR T px py), .int .i64 (denR T px py)] w fun e w' => e = .returned (.int .i64 (cei T px py)) ∧ w = w' := by
  have b := numR_bd ht hO
  have := rf_ceil_c (numR T px py) (denR T px py) w (by omega) (by omega) (by omega) (by omega)
  rwa [(numR_flo ht hO).2] at this

theorem rf_corners_i (v : Value) (xs : List Int) (lo hi : Int) (w : World) (hv : Ints w v xs) (hn : xs.length ≤ 1000) (hs : vspan lo hi = true) :
   Calls Tryz.prog 98 #[v, .agg #[.int .i64 lo, .int .i64 hi]] w fun e w' =>
     ∃ r, e = .returned r ∧ Ints w' r (stopsL xs lo hi) ∧ Below w.heap.size w w' := by
  have hb := vspan_bd hs
  refine (rf_corners_c v xs lo hi w hv hn).mono fun e w' ⟨r, he, ho, hb'⟩ => ⟨r, he, Ints.of_owns' ho (fun x hx => ?_), hb'⟩
  have := mem_stopsL (by omega) hx
  unfold I64; omega

def bndR (w0 : Nat) (x y : Value) (xl xh yl yh : Int) (xs ys : List Int) : Nat → Value → World → Prop
  | 0, v, _ => v = .pointer (some ⟨w0, 0, none⟩)
  | 1, v, _ => v = x
  | 2, v, _ => v = .agg #[.int .i64 xl, .int .i64 xh]
  | 3, v, w => Ints w v xs
  | 4, v, _ => v = .pointer (some ⟨w0, 1, none⟩)
  | 5, v, _ => v = y
  | 6, v, _ => v = .agg #[.int .i64 yl, .int .i64 yh]
  | 7, v, w => Ints w v ys
  | _, _, _ => True
theorem bndR_below {w0 : Nat} {x y : Value} {xl xh yl yh : Int} {xs ys : List Int} (k : Nat) (v : Value) (w w' : World) (hb : Below w.heap.size w w') (h : bndR w0 x y xl xh yl yh xs ys k v w) : bndR w0 x y xl xh yl yh xs ys k v w' := by
  unfold bndR at *
  split at h <;> first | exact h | exact Ints.below h hb

theorem rf_bound_c (x y v : Value) (T : Tbl) (xl xh yl yh : Int) (w : World) (hT : TblAt w x y v T) (hF : Fits T xl xh yl yh) :
   Calls Tryz.prog 77 #[.agg #[x, y, v], .agg #[.int .i64 xl, .int .i64 xh], .agg #[.int .i64 yl, .int .i64 yh]] w fun e w' => e = .returned (.agg #[.int .i64 (bLo T xl xh yl yh), .int .i64 (bHi T xl xh yl yh)]) ∧ Below w.heap.size w w' := by
  have hX := axisB_len (tblB_X hF.t)
  have hY := axisB_len (tblB_Y hF.t)
  have HF := Lib.hid hF
  have HT := Lib.hid hT
  have HO := Lib.hid (fun i k (hi : i < (stopsL T.X xl xh).length) (hk : k < (stopsL T.Y yl yh).length) => hF.on (stopsL_in (vspan_le hF.vx) hi) (stopsL_in (vspan_le hF.vy) hk))
  have px := stopsL_pos T.X xl xh
  have py := stopsL_pos T.Y yl yh
  unfold bLo bHi
  clear hF hT
  go_enter Tryz.func77, Tryz.ntmps77
  go_wp2
  have bT : Blk ((((w.alloc (.cells #[x, y, v] 25)).alloc (.cells #[.int .i64 xl, .int .i64 xh] 29)).alloc (.cells #[.int .i64 yl, .int .i64 yh] 29)).alloc (.cells #[.int .i64 0, .int .i64 0] 29)) w.heap.size 25 #[x, y, v] := (by repeat (first | (refine Blk.newAt _ _ _ ?_; first | rfl | (simp; done)) | refine Blk.alloc ?_ _))
  have bX : Blk ((((w.alloc (.cells #[x, y, v] 25)).alloc (.cells #[.int .i64 xl, .int .i64 xh] 29)).alloc (.cells #[.int .i64 yl, .int .i64 yh] 29)).alloc (.cells #[.int .i64 0, .int .i64 0] 29)) (w.heap.size + 1) 29 #[.int .i64 xl, .int .i64 xh] := (by repeat (first | (refine Blk.newAt _ _ _ ?_; first | rfl | (simp; done)) | refine Blk.alloc ?_ _))
  have bY : Blk ((((w.alloc (.cells #[x, y, v] 25)).alloc (.cells #[.int .i64 xl, .int .i64 xh] 29)).alloc (.cells #[.int .i64 yl, .int .i64 yh] 29)).alloc (.cells #[.int .i64 0, .int .i64 0] 29)) (w.heap.size + 1 + 1) 29 #[.int .i64 yl, .int .i64 yh] := (by repeat (first | (refine Blk.newAt _ _ _ ?_; first | rfl | (simp; done)) | refine Blk.alloc ?_ _))
  have bZ : Blk ((((w.alloc (.cells #[x, y, v] 25)).alloc (.cells #[.int .i64 xl, .int .i64 xh] 29)).alloc (.cells #[.int .i64 yl, .int .i64 yh] 29)).alloc (.cells #[.int .i64 0, .int .i64 0] 29)) (w.heap.size + 1 + 1 + 1) 29 #[.int .i64 0, .int .i64 0] := (by repeat (first | (refine Blk.newAt _ _ _ ?_; first | rfl | (simp; done)) | refine Blk.alloc ?_ _))
  have bW : Below w.heap.size w ((((w.alloc (.cells #[x, y, v] 25)).alloc (.cells #[.int .i64 xl, .int .i64 xh] 29)).alloc (.cells #[.int .i64 yl, .int .i64 yh] 29)).alloc (.cells #[.int .i64 0, .int .i64 0] 29)) := (by repeat' (first | exact Below.refl _ _ | assumption | refine Below.drew ?_ | refine bdn ?_ _ | refine bal ?_ _ | refine Below.setCell ?_ (by first | (simp; done) | omega | (simp; omega)) _))
  generalize (((w.alloc (.cells #[x, y, v] 25)).alloc (.cells #[.int .i64 xl, .int .i64 xh] 29)).alloc (.cells #[.int .i64 yl, .int .i64 yh] 29)).alloc (.cells #[.int .i64 0, .int .i64 0] 29) = W at *
  have BT := Lib.hid bT
  have BX := Lib.hid bX
  have BY := Lib.hid bY
  have BZ := Lib.hid bZ
  have BW := Lib.hid bW
  clear bT bX bY bZ bW
  refine wp_region_spec 8 (bndR w.heap.size x y xl xh yl yh (stopsL T.X xl xh) (stopsL T.Y yl yh)) (fun i => false) (by kernel_rfl) (by kernel_rfl) bndR_below ?hop1 ?htail1
  case hop1 =>
    simp only [List.take_succ_cons, List.take_zero, allOps]
    refine ⟨?_, ?_, ?_, ?_, ?_, ?_, ?_, ?_, trivial⟩
    all_goals intro u A w1 hA hb hd
    all_goals simp only [putAll, dstOf, List.getElem?_toArray, List.getElem?_cons_succ, List.getElem?_cons_zero, Option.bind_some, Option.bind, Act.put, List.setIfInBounds_toArray, List.set_cons_succ, List.set_cons_zero] at hA; subst hA
    all_goals have HB1 := Lib.hid hb
    · clear hb hd
      go_wp2
      exact ⟨_, rfl, Below.refl _ _, rfl, fun h => absurd h (by decide)⟩
    · have d0 : u 0 = _ := hd 0 (by omega) (by kernel_rfl)
      clear hb hd
      rw [d0]
      clear d0
      have c0 := (BT.out.below HB1.out).cell 0
      go_wp2
      exact ⟨_, rfl, Below.refl _ _, rfl, fun h => absurd h (by decide)⟩
    · clear hb hd
      have c0 := (BX.out.below HB1.out).cell 0
      have c1 := (BX.out.below HB1.out).cell 1
      go_wp2
      exact ⟨_, rfl, Below.refl _ _, rfl, fun h => absurd h (by decide)⟩
    · have d1 : u 1 = _ := hd 1 (by omega) (by kernel_rfl)
      have d2 : u 2 = _ := hd 2 (by omega) (by kernel_rfl)
      clear hb hd
      rw [d1, d2]
      clear d1 d2
      go_wp2_with (go_at_call 98; (with_reducible refine (rf_corners_i _ T.X xl xh _ ((HT.out.x.below BW.out).below HB1.out) (by omega) HF.out.vx).mono ?_); rintro e w2 ⟨r, rfl, ho, hb2⟩)
      exact ⟨_, rfl, hb2, ho, fun h => absurd h (by decide)⟩
    · clear hb hd
      go_wp2
      exact ⟨_, rfl, Below.refl _ _, rfl, fun h => absurd h (by decide)⟩
    · have d4 : u 4 = _ := hd 4 (by omega) (by kernel_rfl)
      clear hb hd
      rw [d4]
      clear d4
      have c0 := (BT.out.below HB1.out).cell 1
      go_wp2
      exact ⟨_, rfl, Below.refl _ _, rfl, fun h => absurd h (by decide)⟩
    · clear hb hd
      have c0 := (BY.out.below HB1.out).cell 0
      have c1 := (BY.out.below HB1.out).cell 1
      go_wp2
      exact ⟨_, rfl, Below.refl _ _, rfl, fun h => absurd h (by decide)⟩
    · have d3 := hd 3 (by omega) (by kernel_rfl)
      have d5 : u 5 = _ := hd 5 (by omega) (by kernel_rfl)
      have d6 : u 6 = _ := hd 6 (by omega) (by kernel_rfl)
      clear hb hd
      rw [d5, d6]
      clear d5 d6
      go_wp2_with (go_at_call 98; (with_reducible refine (rf_corners_i _ T.Y yl yh _ ((HT.out.y.below BW.out).below HB1.out) (by omega) HF.out.vy).mono ?_); rintro e w2 ⟨r, rfl, ho, hb2⟩)
      exact ⟨_, rfl, hb2, ho, fun h => absurd h (by decide)⟩
  case htail1 =>
    intro u A w1 hA hb hd hf
    simp only [putAll, dstOf, List.getElem?_toArray, List.getElem?_cons_succ, List.getElem?_cons_zero, Option.bind_some, Option.bind, Act.put, List.setIfInBounds_toArray, List.set_cons_succ, List.set_cons_zero] at hA; subst hA
    have e0 : u 0 = _ := hd 0 (by omega)
    have e1 : u 1 = _ := hd 1 (by omega)
    have e2 : u 2 = _ := hd 2 (by omega)
    have p3 := hd 3 (by omega)
    have e4 : u 4 = _ := hd 4 (by omega)
    have e5 : u 5 = _ := hd 5 (by omega)
    have e6 : u 6 = _ := hd 6 (by omega)
    have p7 := hd 7 (by omega)
    first | rw [e0, e1, e2, e4, e5, e6] | simp only [e0, e1, e2, e4, e5, e6]
    clear e0 e1 e2 e4 e5 e6
    clear hd hf
    have BT1 := Lib.hid (BT.out.below hb)
    have BZ1 := Lib.hid (BZ.out.below hb)
    have BW1 := Lib.hid (BW.out.trans (hb.mono BW.out.size))
    clear BT BX BY BZ BW hb
    generalize hsx : stopsL T.X xl xh = sx at *
    generalize hsy : stopsL T.Y yl yh = sy at *
    have HSX := Lib.hid hsx
    have HSY := Lib.hid hsy
    clear hsx hsy
    obtain ⟨Ax, cx, hx, cx1, cx2, -, hAx⟩ := p3
    obtain ⟨Ay, cy, hy, cy1, cy2, -, hAy⟩ := p7
    obtain ⟨bx, ox, rfl, hbx, hcx⟩ := hAx px
    obtain ⟨by_, oy, rfl, hby, hcy⟩ := hAy py
    rw [hx, hy]
    clear hx hy hAx hAy
    have HCX := Lib.hid hcx
    have HCY := Lib.hid hcy
    clear hcx hcy
    go_wp2
    have f0 : ∀ r : After w1, r.w.cell? ⟨bx, ox, none⟩ = some (.int .i64 (nth sx 0)) := fun r => (r.below.cell (p := ⟨bx, ox, none⟩) hbx).trans (HCX.out 0 px)
    have f1 : ∀ r : After w1, r.w.cell? ⟨by_, oy, none⟩ = some (.int .i64 (nth sy 0)) := fun r => (r.below.cell (p := ⟨by_, oy, none⟩) hby).trans (HCY.out 0 py)
    have f2 : ∀ r : After w1, r.w.cell? ⟨w.heap.size, 0, none⟩ = some x := fun r => (BT1.out.below r.below).cell 0
    have f3 : ∀ r : After w1, r.w.cell? ⟨w.heap.size, 1, none⟩ = some y := fun r => (BT1.out.below r.below).cell 1
    have f4 : ∀ r : After w1, r.w.cell? ⟨w.heap.size, 2, none⟩ = some v := fun r => (BT1.out.below r.below).cell 2
    refine wp_region_after (by kernel_rfl) (by kernel_rfl) ?_
    repeat (go_big_quiet_step (first | (go_at_call 99; (with_reducible refine qafter (rf_Value_d _ _ _ T _ _ _ ((HT.out.below BW1.out).below (After.below _)) HF.out.t (HO.out 0 0 px py))))))
    refine wpQuiet_nil ?_
    rintro W2 ⟨r, hr⟩
    have hb2 : Below w1.heap.size w1 W2 := by rw [hr]; exact r.below
    clear hr r
    have BT2 := Lib.hid (BT1.out.below hb2)
    have BZ2 := Lib.hid (BZ1.out.below hb2)
    have BW2 := Lib.hid (bthen BW1.out hb2)
    have hbx2 := Nat.lt_of_lt_of_le hbx hb2.size
    have hby2 := Nat.lt_of_lt_of_le hby hb2.size
    have HCX2 := Lib.hid (fun k hk => (hb2.cell (p := ⟨bx, ox + k, none⟩) hbx).trans (HCX.out k hk))
    have HCY2 := Lib.hid (fun k hk => (hb2.cell (p := ⟨by_, oy + k, none⟩) hby).trans (HCY.out k hk))
    clear f0 f1 f2 f3 f4 BT1 BZ1 BW1 HCX HCY hb2 hbx hby
    go_wp2_with (first | (go_at_call 100; (with_reducible refine (rf_floor_d T _ _ _ HF.out.t (HO.out 0 0 px py)).mono ?_); rintro e w1 ⟨rfl, rfl⟩) | (go_at_call 101; (with_reducible refine (rf_ceil_d T _ _ _ HF.out.t (HO.out 0 0 px py)).mono ?_); rintro e w1 ⟨rfl, rfl⟩))
    have hg := W2.heap.size
    generalize hd : flo T (nth sx 0) (nth sy 0) = a0 at *
    generalize hc : cei T (nth sx 0) (nth sy 0) = b0 at *
    have HD := Lib.hid hd
    have HC := Lib.hid hc
    clear hd hc
    go_loopw [9, 10, 12, 13] (fun _ _ s _ wr => ∃ i : Nat, i ≤ sx.length ∧ s = .int .i64 i ∧ RowKit.Hid (Below W2.heap.size W2 wr) ∧ RowKit.Hid (Blk wr W2.heap.size 29 #[.int .i64 (mnF T a0 (pre sx sy i 0)), .int .i64 (mxF T b0 (pre sx sy i 0))])) (fun _ _ s _ _ => sx.length - (intOf s).toNat)
    case atStart => exact ⟨0, by omega, rfl, bal (Below.refl _ _) _, by rw [pre_zero]; exact Blk.new _ _ _⟩
    case round =>
      obtain ⟨i, hi, rfl, hB, hM⟩ := hrel
      by_cases hlt : i < sx.length
      · go_wp2
        go_loopw [9, 10, 13] (fun _ _ s wr => ∃ k : Nat, k ≤ sy.length ∧ s = .int .i64 k ∧ RowKit.Hid (Below W2.heap.size W2 wr) ∧ RowKit.Hid (Blk wr W2.heap.size 29 #[.int .i64 (mnF T a0 (pre sx sy i k)), .int .i64 (mxF T b0 (pre sx sy i k))])) (fun _ _ s _ => sy.length - (intOf s).toNat)
        case atStart => exact ⟨0, by omega, rfl, hB.out, hM.out⟩
        case round =>
          obtain ⟨k, hk, rfl, hB2, hM2⟩ := hrel
          by_cases hkt : k < sy.length
          · go_wp2
            have f0 : ∀ r : After wr, r.w.cell? ⟨bx, ox + i, none⟩ = some (.int .i64 (nth sx i)) := fun r => (r.below.cell (p := ⟨bx, ox + i, none⟩) (Nat.lt_of_lt_of_le hbx2 hB2.out.size)).trans ((hB2.out.cell (p := ⟨bx, ox + i, none⟩) hbx2).trans (HCX2.out i hlt))
            have f1 : ∀ r : After wr, r.w.cell? ⟨by_, oy + k, none⟩ = some (.int .i64 (nth sy k)) := fun r => (r.below.cell (p := ⟨by_, oy + k, none⟩) (Nat.lt_of_lt_of_le hby2 hB2.out.size)).trans ((hB2.out.cell (p := ⟨by_, oy + k, none⟩) hby2).trans (HCY2.out k hkt))
            have f2 : ∀ r : After wr, r.w.cell? ⟨w.heap.size, 0, none⟩ = some x := fun r => ((BT2.out.below hB2.out).below r.below).cell 0
            have f3 : ∀ r : After wr, r.w.cell? ⟨w.heap.size, 1, none⟩ = some y := fun r => ((BT2.out.below hB2.out).below r.below).cell 1
            have f4 : ∀ r : After wr, r.w.cell? ⟨w.heap.size, 2, none⟩ = some v := fun r => ((BT2.out.below hB2.out).below r.below).cell 2
            refine wp_region_after (by kernel_rfl) (by kernel_rfl) ?_
            repeat (go_big_quiet_step (first | (go_at_call 99; (with_reducible refine qafter (rf_Value_d _ _ _ T _ _ _ ((HT.out.below (bthen BW2.out hB2.out)).below (After.below _)) HF.out.t (HO.out i k hlt hkt))))))
            refine wpQuiet_nil ?_
            rintro W4 ⟨r, hr⟩
            have hb4 : Below wr.heap.size wr W4 := by rw [hr]; exact r.below
            clear hr r f0 f1 f2 f3 f4
            have hB4 := Lib.hid (bthen hB2.out hb4)
            have hM4 := Lib.hid (hM2.out.below hb4)
            clear hb4
            have z4 := hM4.out.lt
            go_wp2
            have r0 : W4.cell? ⟨W2.heap.size, 0, none⟩ = some (.int .i64 (mnF T a0 (pre sx sy i k))) := hM4.out.cell 0
            have r1 := fun i => hM4.out.frozen i
            have e1 : mnF T a0 (pre sx sy i (k + 1)) = min (mnF T a0 (pre sx sy i k)) (flo T (nth sx i) (nth sy k)) := by rw [pre_k hkt, mnF_snoc]
            have e2 : mxF T b0 (pre sx sy i (k + 1)) = max (mxF T b0 (pre sx sy i k)) (cei T (nth sx i) (nth sy k)) := by rw [pre_k hkt, mxF_snoc]
            have E1 := Lib.hid e1
            have E2 := Lib.hid e2
            have F1 := Lib.hid (fun w => rf_floor_d T (nth sx i) (nth sy k) w HF.out.t (HO.out i k hlt hkt))
            have F2 := Lib.hid (fun w => rf_ceil_d T (nth sx i) (nth sy k) w HF.out.t (HO.out i k hlt hkt))
            clear e1 e2 hB2 hM2
            generalize mnF T a0 (pre sx sy i k) = lo at *
            generalize mxF T b0 (pre sx sy i k) = hi' at *
            generalize flo T (nth sx i) (nth sy k) = f at *
            generalize cei T (nth sx i) (nth sy k) = c at *
            obtain ⟨n1, en1, hq1⟩ : ∃ n1, min lo f = n1 ∧ (f < lo ∧ n1 = f ∨ lo ≤ f ∧ n1 = lo) := ⟨_, rfl, by omega⟩
            obtain ⟨n2, en2, hq2⟩ : ∃ n2, max hi' c = n2 ∧ (hi' < c ∧ n2 = c ∨ c ≤ hi' ∧ n2 = hi') := ⟨_, rfl, by omega⟩
            rw [en1] at E1
            rw [en2] at E2
            clear en1 en2
            rcases hq1 with ⟨q1, rfl⟩ | ⟨q1, rfl⟩ <;> rcases hq2 with ⟨q2, rfl⟩ | ⟨q2, rfl⟩
            all_goals
              (refine wp_region_drawnt 6 (by kernel_rfl) (by kernel_rfl) ?_; simp only [List.take_succ_cons, List.take_zero, List.drop_succ_cons, List.drop_zero]; (repeat (go_big_quiet_step ( (go_at_call 100; (with_reducible refine qsame (F1.out _)))))); refine wpQuiet_nil ?_; rintro _ ⟨nq, rfl⟩)
              have hB5 := Lib.hid (bdn hB4.out nq)
              have hM5 := Lib.hid (Blk.below hM4.out (bdn (Below.refl W4.heap.size W4) nq))
              have z5 : W2.heap.size < (W4.drewN nq).heap.size := z4
              clear r0 r1 hB4 hM4 z4
              generalize W4.drewN nq = W5 at *
              have r0 := hM5.out.cell 0
              have r1 := fun i => hM5.out.frozen i
              go_wp2
              clear r0 r1
              have hB6 := Lib.hid (bset hB5.out (Nat.le_refl W2.heap.size) (i := 0) (.int .i64 n1))
              have hM6 := Lib.hid (hM5.out.set_ 0 (.int .i64 n1))
              clear hB5 hM5 z5
              generalize W5.setCell ⟨W2.heap.size, 0, none⟩ (.int .i64 n1) = W6 at *
              have r0 := hM6.out.cell 1
              have r1 := fun i => hM6.out.frozen i
              have z6 := hM6.out.lt
              (refine wp_region_drawnt 6 (by kernel_rfl) (by kernel_rfl) ?_; simp only [List.take_succ_cons, List.take_zero, List.drop_succ_cons, List.drop_zero]; (repeat (go_big_quiet_step ( (go_at_call 101; (with_reducible refine qsame (F2.out _)))))); refine wpQuiet_nil ?_; rintro _ ⟨nq, rfl⟩)
              have hB7 := Lib.hid (bdn hB6.out nq)
              have hM7 := Lib.hid (Blk.below hM6.out (bdn (Below.refl W6.heap.size W6) nq))
              have z7 : W2.heap.size < (W6.drewN nq).heap.size := z6
              clear r0 r1 hB6 hM6 z6
              generalize W6.drewN nq = W7 at *
              have r0 := hM7.out.cell 1
              have r1 := fun i => hM7.out.frozen i
              go_wp2
              go_roundw
              case rel => exact ⟨k + 1, by omega, by go_num, bset hB7.out (Nat.le_refl W2.heap.size) _, by rw [E1.out, E2.out]; exact hM7.out.set_ 1 _⟩
              case measure => simp [intOf]; omega
          · obtain rfl : k = sy.length := by omega
            go_wp2
            go_roundw
            case rel => exact ⟨i + 1, by omega, by go_num, hB2.out, by rw [← pre_i hlt]; exact hM2.out⟩
            case measure => simp [intOf]; omega
      · obtain rfl : i = sx.length := by omega
        have hB3 := Lib.hid (bthen BW2.out hB.out)
        have BZ3 := BZ2.out.below hB.out
        have r0 := BZ3.cell 0
        have r1 := BZ3.cell 1
        have r2 := fun i => BZ3.frozen i
        have m0 := hM.out.cell 0
        have m1 := hM.out.cell 1
        have BZ4 := Lib.hid BZ3
        clear BZ3
        go_wp2
        exact bodyPost_ret (res_c rfl _ _ #[.int .i64 (mnF T a0 (pre sx sy sx.length 0)), .int .i64 (mxF T b0 (pre sx sy sx.length 0))] 2 rfl ((BZ4.out.set_ 0 _).set_ 1 _) Tryz.rowSpan rfl) rfl ⟨by rw [pre_end, ← HD.out, ← HC.out, ← HSX.out, ← HSY.out], bset (bset hB3.out (by omega) _) (by omega) _⟩
end Go.Proofs.YtechkkgmdjgddaaGreat
