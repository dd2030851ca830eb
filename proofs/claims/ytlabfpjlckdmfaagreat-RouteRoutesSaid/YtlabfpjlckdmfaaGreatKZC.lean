/- Texts joined: KZC. -/
import Derived.Test.YtlabfpjlckdmfaaGreatKAS
set_option linter.all false
namespace Go.Proofs.YtlabfpjlckdmfaaGreat
open Go Go.RowKit Go.Proofs
set_option maxRecDepth 100000
set_option maxHeartbeats 8000000
def FliD.ix (F : FliD) (lt : Tab) (t : Int) : Nat → Nat
 | 0 => 0
 | i + 1 => if t < F.at_ lt (i + 1) then F.ix lt t i else i + 1
theorem FliD.ix_le {F : FliD} {lt : Tab} {t : Int} : ∀ i, F.ix lt t i ≤ i
 | 0 => Nat.le_refl _
 | i + 1 => by
  unfold FliD.ix
  split
  ·have := FliD.ix_le (F := F) (lt := lt) (t := t) i; omega
  ·omega
theorem FliD.ix_at {F : FliD} {lt : Tab} {t : Int} (h0 : F.dep ≤ t) : ∀ i, F.at_ lt (F.ix lt t i) ≤ t
 | 0 => h0
 | i + 1 => by
  unfold FliD.ix
  split
  ·exact FliD.ix_at h0 i
  ·rename_i h; omega
theorem FliD.ix_lt {F : FliD} {lt : Tab} {t : Int} : ∀ i, F.ix lt t i < i → t < F.at_ lt (F.ix lt t i + 1)
 | 0, h => absurd h (Nat.not_lt_zero _)
 | i + 1, h => by
  unfold FliD.ix at h ⊢
  split at h
  ·rename_i hc
   rw [if_pos hc]
   rcases Nat.lt_or_ge (F.ix lt t i) i with q | q
   ·exact FliD.ix_lt i q
   ·have := FliD.ix_le (F := F) (lt := lt) (t := t) i
    rw [show F.ix lt t i = i by omega]; exact hc
  ·omega
def FliD.reach (F : FliD) (lt tt : Tab) (t : Int) (p : Nat) : Int × Bool × Bool :=
 let i := F.ix lt t (F.m - 1)
 let bh := tt (F.R i).toNat p
 let back := t + (t - F.at_ lt i) + bh
 if t = F.at_ lt i then (back, decide (F.at_ lt i < t), decide (0 ≤ bh))
 else
  let ah := tt (F.R (i + 1)).toNat p
  if back < F.at_ lt (i + 1) + ah then (back, decide (F.at_ lt i < t), decide (0 ≤ bh)) else (F.at_ lt (i + 1) + ah, false, decide (0 ≤ ah))
theorem Tryz.rowHav : RowTy Tryz.prog 67 3 := ⟨by kernel_rfl, by kernel_rfl⟩
theorem Tryz.sizeHav : (Tryz.prog.info? 67).map (·.size) = some 3 := by kernel_rfl
def rcR (w0 gx : Nat) (sl pa : Value) (p i : Nat) (t ai bh : Int) : Nat → Value → World → Prop
 | 0, v, _ => v = .int .i64 (p : Int)
 | 1, v, _ => v = .int .i64 t
 | 2, v, _ => v = .int .i64 t
 | 3, v, _ => v = .pointer (some ⟨gx, 0, none⟩)
 | 4, v, _ => v = .pointer (some ⟨gx, 0, none⟩)
 | 5, v, _ => v = .pointer (some ⟨gx, 11, none⟩)
 | 6, v, _ => v = sl
 | 7, v, _ => v = .int .i64 (i : Int)
 | 8, v, _ => v = pa
 | 9, v, _ => v = .int .i64 ai
 | 10, v, _ => v = .int .i64 (t - ai)
 | 11, v, _ => v = .int .i64 (t + (t - ai))
 | 12, v, _ => v = .int .i64 bh
 | 13, v, _ => v = .int .i64 (t + (t - ai) + bh)
 | 14, v, _ => v = .int .i64 t
 | 15, v, _ => v = .pointer (some ⟨gx, 0, none⟩)
 | 16, v, _ => v = .pointer (some ⟨gx, 0, none⟩)
 | 17, v, _ => v = .pointer (some ⟨gx, 11, none⟩)
 | 18, v, _ => v = sl
 | 19, v, _ => v = .int .i64 (i : Int)
 | 20, v, _ => v = pa
 | 21, v, _ => v = .int .i64 ai
 | 22, v, _ => v = .bool (decide (ai < t))
 | 23, v, _ => v = .agg #[.int .i64 (p : Int), .int .i64 (t + (t - ai) + bh), .bool (decide (ai < t))]
 | 24, v, w => NewBlk w0 67 #[.int .i64 0, .int .i64 0, .bool false] v w
 | _, _, _ => True
theorem rcR_below {w0 gx : Nat} {sl pa : Value} {p i : Nat} {t ai bh : Int} (k : Nat) (v : Value) (w w' : World) (hb : Below w.heap.size w w') (h : rcR w0 gx sl pa p i t ai bh k v w) : rcR w0 gx sl pa p i t ai bh k v w' := by
 unfold rcR at *
 split at h <;> first | exact h | exact NewBlk.below hb h
theorem reach_c (M : MetD) (vF vS v vN : Value) (P : Nat) (lt tt : Tab) (F : FliD) (vR : Value) (lw ls lc : Int) (li lb : Bool) (t : Int) (p : Nat) (w : World) (h : FliAt w v vN M vF vS P lt tt F vR lw ls lc li lb) (hok : F.ok P lt) (hl : LegIn P lt) (htt : TabIn P 51200 tt) (hp : p < P) (h0 : F.dep ≤ t) (h1 : t ≤ F.at_ lt (F.m - 1)) :
  Calls Tryz.prog 65 #[v, .int .i64 t, .int .i64 p] w fun e w' => e = .returned (.tuple #[.agg #[.int .i64 p, .int .i64 (F.reach lt tt t p).1, .bool (F.reach lt tt t p).2.1], .bool (F.reach lt tt t p).2.2]) ∧ RowKit.Below w.heap.size w w' := by
 obtain ⟨gx, vA, rfl, hx, hN, hR, ⟨A2, c2, rfl, e2, e3, e4⟩, -⟩ := h
 obtain ⟨hnu, hfl, hend⟩ := hok
 obtain ⟨hm, hd, hf, hr, hb⟩ := FliD.nums_iff.1 hnu
 obtain ⟨b2, o2, rfl, hb2, hc2⟩ := e4 (by omega)
 have HC := hI9 hc2
 obtain ⟨gN, gL, gT, cL, cT, rL, rT, loL, hiL, loT, hiT, rfl, n1, -, n3⟩ := hN
 obtain ⟨AR, cR, rfl, r1, r2, r3⟩ := hR
 obtain ⟨bR, oR, rfl, hbR, hcR⟩ := r3 (by omega)
 have HCR := hI9 hcR
 have HN := hI9 n1
 have HSQ := hI9 n3
 have HFL := hI9 hfl
 clear n1 n3 r3 hcR hfl
 have HX := hI9 hx
 have HLE := hI9 (FliD.ix_le (F := F) (lt := lt) (t := t) (F.m - 1))
 have HAT := hI9 (FliD.ix_at (F := F) (lt := lt) h0 (F.m - 1))
 have HLT := hI9 (FliD.ix_lt (F := F) (lt := lt) (t := t) (F.m - 1))
 have x11 := hx.cell 11
 simp only [gtA, gtS, gtZ] at x11
 clear hx hc2 e4
 obtain ⟨m, hme⟩ : ∃ m, m = F.m - 1 := ⟨_, rfl⟩
 have hmz : IntKind.i64.wrap ((F.m : Int) - 1) = (m : Int) := by rw [IntKind.wrap_i64]; omega
 have y11 := (HX.out.alloc (.cells #[.int .i64 0, .int .i64 0, .bool false] 67)).cell 11
 simp only [gtA, gtS, gtZ] at y11
 have HME := hI9 hme
 have hmb : m ≤ 7 := by omega
 clear x11 hme
 go_enter Tryz.func65, Tryz.ntmps65
 go_wp2_with (fail)
 have HB0 := hI9 (bal (RowKit.Below.refl w.heap.size w) (.cells #[.int .i64 0, .int .i64 0, .bool false] 67))
 have HH0 := hI9 (Blk.new w 67 #[.int .i64 0, .int .i64 0, .bool false])
 generalize w.alloc (.cells #[.int .i64 0, .int .i64 0, .bool false] 67) = wX at *
 clear y11 hmz
 have hcast : ((F.m : Int) - 1) = (m : Int) := by have := HME.out; omega
 (try rw [hcast])
 go_loopg [8] m (fun gy iv wr => ∃ i : Nat, iv = .int .i64 i ∧ i ≤ m ∧ i ≤ gy ∧ Hid (F.ix lt t i = F.ix lt t m) ∧ Hid (RowKit.Below w.heap.size w wr) ∧ Hid (Blk wr w.heap.size 67 #[.int .i64 0, .int .i64 0, .bool false]))
 case atStart => exact ⟨m, by first | rfl | (congr 1), Nat.le_refl _, Nat.le_refl _, hI9 rfl, HB0, HH0⟩
 case round =>
  clear HB0 HH0
  obtain ⟨i, rfl, hi, hgy, HI, HB, HH⟩ := hrel
  have x11 := (HX.out.below HB.out).cell 11
  simp only [gtA, gtS, gtZ] at x11
  have ca : wr.cell? ⟨b2, o2 + i, none⟩ = some (.int .i64 (F.at_ lt i)) := (HB.out.cell (p := ⟨b2, o2 + i, none⟩) hb2).trans (by have := HC.out i (by have := HME.out; omega) 0 (by omega); rw [Nat.mul_one, Nat.add_zero] at this; exact this)
  have hin : (i : Int) < (F.m : Int) := by have := HME.out; omega
  by_cases hc : t < F.at_ lt i
  case pos =>
   rcases i with _ | j
   ·exact absurd hc (by show ¬ t < F.dep; omega)
   have HI2 := hI9 (show F.ix lt t j = F.ix lt t m from by
    have := HI.out
    rw [← this]
    show _ = (if t < F.at_ lt (j + 1) then F.ix lt t j else j + 1)
    rw [if_pos hc])
   generalize F.at_ lt (j + 1) = D at *
   go_wp2_with (fail)
   go_roundg j
   case measure => omega
   case rel => exact ⟨j, by first | rfl | go_num | (congr 1; omega), by omega, Nat.le_refl _, HI2, HB, HH⟩
  go_wp2_with (fail)
  have hia : F.ix lt t i = i := by
   rcases i with _ | j
   ·rfl
   ·show (if t < F.at_ lt (j + 1) then F.ix lt t j else j + 1) = j + 1
    rw [if_neg (by omega)]
  have HIX := hI9 (show F.ix lt t (F.m - 1) = i from by rw [← HME.out, ← HI.out]; exact hia)
  have hri := HFL.out.1 i (by omega)
  obtain ⟨a, ha⟩ : ∃ a : Nat, F.R i = a := Int.eq_ofNat_of_zero_le hri.1
  have haP : a < P := by omega
  have HRA := hI9 ha
  have cr : wr.cell? ⟨bR, oR + i, none⟩ = some (.int .i64 (a : Int)) := by
   rw [← ha]
   exact (HB.out.cell (p := ⟨bR, oR + i, none⟩) hbR).trans (by have := HCR.out i (by omega) 0 (by omega); rw [Nat.mul_one, Nat.add_zero] at this; exact this)
  have x0 := (HX.out.below HB.out).cell 0
  have x1 := (HX.out.below HB.out).cell 1
  have n15 := (HN.out.below HB.out).cell 15
  simp only [gtA, gtS, gtZ] at x0 x1 n15
  obtain ⟨ca2, -, -, co⟩ := (HSQ.out.below HB.out).o a haP
  have cc := (HSQ.out.below HB.out).cell haP hp
  have hbh := htt.1 a haP p hp
  have hpz : (p : Int) < (P : Int) := by omega
  have haz : (a : Int) < (P : Int) := by omega
  clear ha hia HI
  have hai : F.at_ lt i ≤ t := by omega
  have hat := FliD.at_in hl hd i ⟨fun j hj => HFL.out.1 j (by omega), fun j hj => HFL.out.2 j (by omega)⟩
  generalize hbv : tt a p = bh at *
  have HBH := hI9 hbv
  clear hbv
  generalize hav : F.at_ lt i = ai at *
  have HAI := hI9 hav
  clear hav
  (refine wp_region_drawnt 20 (by kernel_rfl) (by kernel_rfl) ?_; simp only [List.take_succ_cons, List.take_zero, List.drop_succ_cons, List.drop_zero]; (repeat (go_big_quiet_step ( fail))); refine wpQuiet_nil ?_; rintro _ ⟨nq, rfl⟩)
  have nB := hI9 (bdn HB.out nq)
  have nH := hI9 (HH.out.below (bdn (RowKit.Below.refl _ _) nq))
  have ny := (HX.out.below nB.out).cell 11
  simp only [gtA, gtS, gtZ] at ny
  have nc : (wr.drewN nq).cell? ⟨b2, o2 + i, none⟩ = some (.int .i64 ai) := ca
  have HCA := hI9 (show w.cell? ⟨b2, o2 + i, none⟩ = some (.int .i64 ai) from by rw [← HAI.out]; have := HC.out i (by omega) 0 (by omega); rw [Nat.mul_one, Nat.add_zero] at this; exact this)
  clear HB HH x11 ca cr x0 x1 n15 co cc
  generalize wr.drewN nq = wr at *
  have hw1 : IntKind.i64.wrap (t - ai) = t - ai := by rw [IntKind.wrap_i64]; omega
  have hw2 : IntKind.i64.wrap (t + (t - ai)) = t + (t - ai) := by rw [IntKind.wrap_i64]; omega
  have hw3 : IntKind.i64.wrap (t + (t - ai) + bh) = t + (t - ai) + bh := by rw [IntKind.wrap_i64]; omega
  clear hw1 hw2 hw3
  go_wp2_with (fail)
  clear ny nc
  refine wp_region_spec 25 (rcR wr.heap.size gx (.slice (some ⟨b2, o2, none⟩) F.m c2) (.pointer (some ⟨b2, o2 + i, none⟩)) p i t ai bh) (fun i => decide (i = 24)) (by kernel_rfl) (by kernel_rfl) rcR_below ?hop1 ?htail1
  case hop1 =>
   simp only [List.take_succ_cons, List.take_zero, allOps]
   refine ⟨?_, ?_, ?_, ?_, ?_, ?_, ?_, ?_, ?_, ?_, ?_, ?_, ?_, ?_, ?_, ?_, ?_, ?_, ?_, ?_, ?_, ?_, ?_, ?_, ?_, trivial⟩
   all_goals intro u A w1 hA hb hd
   all_goals simp only [putAll, dstOf, gtA, gtS, gtZ, Option.bind_some, Option.bind, Act.put, List.setIfInBounds_toArray, List.set_cons_succ, List.set_cons_zero] at hA; subst hA
   all_goals have HB1 := hI9 hb
   ·clear hb hd
    go_wp2
    exact ⟨_, rfl, Below.refl _ _, rfl, fun h => absurd h (by decide)⟩
   ·clear hb hd
    go_wp2
    exact ⟨_, rfl, Below.refl _ _, rfl, fun h => absurd h (by decide)⟩
   ·clear hb hd
    go_wp2
    exact ⟨_, rfl, Below.refl _ _, rfl, fun h => absurd h (by decide)⟩
   ·clear hb hd
    go_wp2
    exact ⟨_, rfl, Below.refl _ _, rfl, fun h => absurd h (by decide)⟩
   ·have d3 : u 3 = _ := hd 3 (by omega) (by kernel_rfl)
    clear hb hd
    rw [d3]
    clear d3
    go_wp2
    exact ⟨_, rfl, Below.refl _ _, rfl, fun h => absurd h (by decide)⟩
   ·have d4 : u 4 = _ := hd 4 (by omega) (by kernel_rfl)
    clear hb hd
    rw [d4]
    clear d4
    go_wp2
    exact ⟨_, rfl, Below.refl _ _, rfl, fun h => absurd h (by decide)⟩
   ·have d5 : u 5 = _ := hd 5 (by omega) (by kernel_rfl)
    clear hb hd
    rw [d5]
    clear d5
    have ny := (HX.out.below (bthen nB.out HB1.out)).cell 11
    simp only [gtA, gtS, gtZ] at ny
    go_wp2
    exact ⟨_, rfl, Below.refl _ _, rfl, fun h => absurd h (by decide)⟩
   ·clear hb hd
    go_wp2
    exact ⟨_, rfl, Below.refl _ _, rfl, fun h => absurd h (by decide)⟩
   ·have d6 : u 6 = _ := hd 6 (by omega) (by kernel_rfl)
    have d7 : u 7 = _ := hd 7 (by omega) (by kernel_rfl)
    clear hb hd
    rw [d6, d7]
    clear d6 d7
    go_wp2
    exact ⟨_, rfl, Below.refl _ _, rfl, fun h => absurd h (by decide)⟩
   ·have d8 : u 8 = _ := hd 8 (by omega) (by kernel_rfl)
    clear hb hd
    rw [d8]
    clear d8
    have nc : w1.cell? ⟨b2, o2 + i, none⟩ = some (.int .i64 ai) := ((bthen nB.out HB1.out).cell (p := ⟨b2, o2 + i, none⟩) hb2).trans (HCA.out)
    go_wp2
    exact ⟨_, rfl, Below.refl _ _, rfl, fun h => absurd h (by decide)⟩
   ·have d2 : u 2 = _ := hd 2 (by omega) (by kernel_rfl)
    have d9 : u 9 = _ := hd 9 (by omega) (by kernel_rfl)
    clear hb hd
    rw [d2, d9]
    clear d2 d9
    go_wp2
    exact ⟨_, rfl, Below.refl _ _, rfl, fun h => absurd h (by decide)⟩
   ·have d1 : u 1 = _ := hd 1 (by omega) (by kernel_rfl)
    have d10 : u 10 = _ := hd 10 (by omega) (by kernel_rfl)
    clear hb hd
    rw [d1, d10]
    clear d1 d10
    go_wp2
    exact ⟨_, rfl, Below.refl _ _, rfl, fun h => absurd h (by decide)⟩
   ·clear hb hd
    go_wp2
    exact ⟨_, rfl, Below.refl _ _, rfl, fun h => absurd h (by decide)⟩
   ·have d11 : u 11 = _ := hd 11 (by omega) (by kernel_rfl)
    have d12 : u 12 = _ := hd 12 (by omega) (by kernel_rfl)
    clear hb hd
    rw [d11, d12]
    clear d11 d12
    go_wp2
    exact ⟨_, rfl, Below.refl _ _, rfl, fun h => absurd h (by decide)⟩
   ·clear hb hd
    go_wp2
    exact ⟨_, rfl, Below.refl _ _, rfl, fun h => absurd h (by decide)⟩
   ·clear hb hd
    go_wp2
    exact ⟨_, rfl, Below.refl _ _, rfl, fun h => absurd h (by decide)⟩
   ·have d15 : u 15 = _ := hd 15 (by omega) (by kernel_rfl)
    clear hb hd
    rw [d15]
    clear d15
    go_wp2
    exact ⟨_, rfl, Below.refl _ _, rfl, fun h => absurd h (by decide)⟩
   ·have d16 : u 16 = _ := hd 16 (by omega) (by kernel_rfl)
    clear hb hd
    rw [d16]
    clear d16
    go_wp2
    exact ⟨_, rfl, Below.refl _ _, rfl, fun h => absurd h (by decide)⟩
   ·have d17 : u 17 = _ := hd 17 (by omega) (by kernel_rfl)
    clear hb hd
    rw [d17]
    clear d17
    have ny := (HX.out.below (bthen nB.out HB1.out)).cell 11
    simp only [gtA, gtS, gtZ] at ny
    go_wp2
    exact ⟨_, rfl, Below.refl _ _, rfl, fun h => absurd h (by decide)⟩
   ·clear hb hd
    go_wp2
    exact ⟨_, rfl, Below.refl _ _, rfl, fun h => absurd h (by decide)⟩
   ·have d18 : u 18 = _ := hd 18 (by omega) (by kernel_rfl)
    have d19 : u 19 = _ := hd 19 (by omega) (by kernel_rfl)
    clear hb hd
    rw [d18, d19]
    clear d18 d19
    go_wp2
    exact ⟨_, rfl, Below.refl _ _, rfl, fun h => absurd h (by decide)⟩
   ·have d20 : u 20 = _ := hd 20 (by omega) (by kernel_rfl)
    clear hb hd
    rw [d20]
    clear d20
    have nc : w1.cell? ⟨b2, o2 + i, none⟩ = some (.int .i64 ai) := ((bthen nB.out HB1.out).cell (p := ⟨b2, o2 + i, none⟩) hb2).trans (HCA.out)
    go_wp2
    exact ⟨_, rfl, Below.refl _ _, rfl, fun h => absurd h (by decide)⟩
   ·have d14 : u 14 = _ := hd 14 (by omega) (by kernel_rfl)
    have d21 : u 21 = _ := hd 21 (by omega) (by kernel_rfl)
    clear hb hd
    rw [d14, d21]
    clear d14 d21
    go_wp2
    exact ⟨_, rfl, Below.refl _ _, rfl, fun h => absurd h (by decide)⟩
   ·have d0 : u 0 = _ := hd 0 (by omega) (by kernel_rfl)
    have d13 : u 13 = _ := hd 13 (by omega) (by kernel_rfl)
    have d22 : u 22 = _ := hd 22 (by omega) (by kernel_rfl)
    clear hb hd
    rw [d0, d13, d22]
    clear d0 d13 d22
    go_wp2
    exact ⟨_, rfl, Below.refl _ _, rfl, fun h => absurd h (by decide)⟩
   ·have zz := hb.size
    clear hb hd
    go_wp2
    exact ⟨_, rfl, bal (Below.refl _ _) _, ⟨_, rfl, by omega, Blk.new _ _ _⟩, fun _ => ⟨_, rfl, Nat.le_refl _, by simp⟩⟩
  case htail1 =>
   intro u A w1 hA hb hd hf
   simp only [putAll, dstOf, gtA, gtS, gtZ, Option.bind_some, Option.bind, Act.put, List.setIfInBounds_toArray, List.set_cons_succ, List.set_cons_zero] at hA; subst hA
   have e0 : u 0 = _ := hd 0 (by omega)
   have e1 : u 1 = _ := hd 1 (by omega)
   have e2 : u 2 = _ := hd 2 (by omega)
   have e3 : u 3 = _ := hd 3 (by omega)
   have e4 : u 4 = _ := hd 4 (by omega)
   have e5 : u 5 = _ := hd 5 (by omega)
   have e6 : u 6 = _ := hd 6 (by omega)
   have e7 : u 7 = _ := hd 7 (by omega)
   have e8 : u 8 = _ := hd 8 (by omega)
   have e9 : u 9 = _ := hd 9 (by omega)
   have e10 : u 10 = _ := hd 10 (by omega)
   have e11 : u 11 = _ := hd 11 (by omega)
   have e12 : u 12 = _ := hd 12 (by omega)
   have e13 : u 13 = _ := hd 13 (by omega)
   have e14 : u 14 = _ := hd 14 (by omega)
   have e15 : u 15 = _ := hd 15 (by omega)
   have e16 : u 16 = _ := hd 16 (by omega)
   have e17 : u 17 = _ := hd 17 (by omega)
   have e18 : u 18 = _ := hd 18 (by omega)
   have e19 : u 19 = _ := hd 19 (by omega)
   have e20 : u 20 = _ := hd 20 (by omega)
   have e21 : u 21 = _ := hd 21 (by omega)
   have e22 : u 22 = _ := hd 22 (by omega)
   have e23 : u 23 = _ := hd 23 (by omega)
   obtain ⟨g24, e24, z24, b24⟩ := hd 24 (by omega)
   first | rw [e0, e1, e2, e3, e4, e5, e6, e7, e8, e9, e10, e11, e12, e13, e14, e15, e16, e17, e18, e19, e20, e21, e22, e23, e24] | simp only [e0, e1, e2, e3, e4, e5, e6, e7, e8, e9, e10, e11, e12, e13, e14, e15, e16, e17, e18, e19, e20, e21, e22, e23, e24]
   clear e0 e1 e2 e3 e4 e5 e6 e7 e8 e9 e10 e11 e12 e13 e14 e15 e16 e17 e18 e19 e20 e21 e22 e23 e24
   clear hd hf
   refine wpList_store_row rfl 67 _ _ rfl g24 #[.int .i64 (p : Int), .int .i64 (t + (t - ai) + bh), .bool (decide (ai < t))] rfl rfl 67 #[.int .i64 0, .int .i64 0, .bool false] b24 Tryz.sizeHav rfl (by simp [Value.oneCell']) ?_
   simp only [Act.put]
   have HK := hI9 (show Blk (w1.setRow g24 #[.int .i64 (p : Int), .int .i64 (t + (t - ai) + bh), .bool (decide (ai < t))]) g24 67 #[.int .i64 (p : Int), .int .i64 (t + (t - ai) + bh), .bool (decide (ai < t))] from setRow_heap w1 g24 _ _ _ _ b24)
   have HB2 := hI9 (show RowKit.Below wr.heap.size wr (w1.setRow g24 #[.int .i64 (p : Int), .int .i64 (t + (t - ai) + bh), .bool (decide (ai < t))]) from below_row' hb z24 _)
   clear b24 hb z24
   generalize w1.setRow g24 #[.int .i64 (p : Int), .int .i64 (t + (t - ai) + bh), .bool (decide (ai < t))] = w2 at *
   have HH2 := hI9 (nH.out.below HB2.out)
   have HBW := hI9 (bthen nB.out HB2.out)
   clear nH nB HB2
   have ny := (HX.out.below HBW.out).cell 11
   simp only [gtA, gtS, gtZ] at ny
   have nc : w2.cell? ⟨b2, o2 + i, none⟩ = some (.int .i64 ai) := (HBW.out.cell (p := ⟨b2, o2 + i, none⟩) hb2).trans HCA.out
   have k0 := HK.out.cell 0
   have k1 := HK.out.cell 1
   have k2 := HK.out.cell 2
   simp only [gtA, gtS, gtZ] at k0 k1 k2
   cases hta : (t == ai)
   case true =>
    have HTA := hI9 hta
    have s0 := HH2.out.cell 0
    have s1 := HH2.out.cell 1
    have s2 := HH2.out.cell 2
    have sf := fun i => HH2.out.frozen i
    simp only [gtA, gtS, gtZ] at s0 s1 s2
    have HRE := hI9 (show F.reach lt tt t p = (t + (t - ai) + bh, decide (ai < t), decide (0 ≤ bh)) from by
     have h : t = ai := by simpa using hta
     unfold FliD.reach
     simp only [HIX.out, HAI.out, HRA.out, Int.toNat_natCast, HBH.out]
     rw [if_pos h])
    go_wp2_with (fail)
    exact bodyPost_ret (res_ct rfl _ _ #[.int .i64 (p : Int), .int .i64 (t + (t - ai) + bh), .bool (decide (ai < t))] 3 rfl (((HH2.out.set_ 0 _).set_ 1 _).set_ 2 _) Tryz.rowHav rfl) rfl ⟨by rw [HRE.out]; rfl, bset (bset (bset HBW.out (Nat.le_refl _) _) (Nat.le_refl _) _) (Nat.le_refl _) _⟩
   have hne : t ≠ ai := by simpa using hta
   have him : i < m := by
    rcases Nat.lt_or_ge i m with q | q
    ·exact q
    ·have e : F.m - 1 = i := by have := HME.out; omega
     rw [e, HAI.out] at h1
     omega
   have hri1 := HFL.out.1 (i + 1) (by have := HME.out; omega)
   obtain ⟨b, hbq⟩ : ∃ b : Nat, F.R (i + 1) = b := Int.eq_ofNat_of_zero_le hri1.1
   have hbP : b < P := by omega
   have HRB := hI9 hbq
   have cr1 : w2.cell? ⟨bR, oR + (i + 1), none⟩ = some (.int .i64 (b : Int)) := by
    rw [← hbq]
    exact (HBW.out.cell (p := ⟨bR, oR + (i + 1), none⟩) hbR).trans (by have := HCR.out (i + 1) (by have := HME.out; omega) 0 (by omega); rw [Nat.mul_one, Nat.add_zero] at this; exact this)
   have ca1 : w2.cell? ⟨b2, o2 + (i + 1), none⟩ = some (.int .i64 (F.at_ lt (i + 1))) := (HBW.out.cell (p := ⟨b2, o2 + (i + 1), none⟩) hb2).trans (by have := HC.out (i + 1) (by have := HME.out; omega) 0 (by omega); rw [Nat.mul_one, Nat.add_zero] at this; exact this)
   have x0 := (HX.out.below HBW.out).cell 0
   have x1 := (HX.out.below HBW.out).cell 1
   have n15 := (HN.out.below HBW.out).cell 15
   simp only [gtA, gtS, gtZ] at x0 x1 n15
   obtain ⟨cb2, -, -, co⟩ := (HSQ.out.below HBW.out).o b hbP
   have cc := (HSQ.out.below HBW.out).cell hbP hp
   have hah := htt.1 b hbP p hp
   have hbz : (b : Int) < (P : Int) := by omega
   have hin1 : (i : Int) + 1 < (F.m : Int) := by have := HME.out; omega
   have hat1 := FliD.at_in hl hd (i + 1) ⟨fun j hj => HFL.out.1 j (by have := HME.out; omega), fun j hj => HFL.out.2 j (by have := HME.out; omega)⟩
   have hi7 : i ≤ 7 := by omega
   clear hbq
   generalize hav1 : tt b p = ah at *
   have HAH := hI9 hav1
   generalize hat1v : F.at_ lt (i + 1) = a1 at *
   have HA1 := hI9 hat1v
   clear hav1 hat1v
   have hwi : IntKind.i64.wrap ((i : Int) + 1) = (i : Int) + 1 := by rw [IntKind.wrap_i64]; omega
   go_wp2_with (fail)
   (refine wp_region_drawnt 21 (by kernel_rfl) (by kernel_rfl) ?_; simp only [List.take_succ_cons, List.take_zero, List.drop_succ_cons, List.drop_zero]; (repeat (go_big_quiet_step ( fail))); refine wpQuiet_nil ?_; rintro _ ⟨nq, rfl⟩)
   have oB := hI9 (bdn HBW.out nq)
   have oH := hI9 (HH2.out.below (bdn (RowKit.Below.refl _ _) nq))
   have oK := hI9 (HK.out.below (bdn (RowKit.Below.refl _ _) nq))
   have ny2 := (HX.out.below oB.out).cell 11
   simp only [gtA, gtS, gtZ] at ny2
   have nc2 : (w2.drewN nq).cell? ⟨b2, o2 + (i + 1), none⟩ = some (.int .i64 a1) := ca1
   clear HBW HH2 HK ny nc x0 x1 n15 co cc cr1 ca1 k0 k1 k2 hwi
   generalize w2.drewN nq = w4 at *
   have k0 := (oK.out.alloc (.cells #[.int .i64 (p : Int), .int .i64 (a1 + ah), .bool false] 67)).cell 0
   have k1 := (oK.out.alloc (.cells #[.int .i64 (p : Int), .int .i64 (a1 + ah), .bool false] 67)).cell 1
   have k2 := (oK.out.alloc (.cells #[.int .i64 (p : Int), .int .i64 (a1 + ah), .bool false] 67)).cell 2
   have s0 := (oH.out.alloc (.cells #[.int .i64 (p : Int), .int .i64 (a1 + ah), .bool false] 67)).cell 0
   have s1 := (oH.out.alloc (.cells #[.int .i64 (p : Int), .int .i64 (a1 + ah), .bool false] 67)).cell 1
   have s2 := (oH.out.alloc (.cells #[.int .i64 (p : Int), .int .i64 (a1 + ah), .bool false] 67)).cell 2
   have sf := fun i => (oH.out.alloc (.cells #[.int .i64 (p : Int), .int .i64 (a1 + ah), .bool false] 67)).frozen i
   simp only [gtA, gtS, gtZ] at k0 k1 k2 s0 s1 s2
   by_cases hcm : t + (t - ai) + bh < a1 + ah
   ·have HRE := hI9 (show F.reach lt tt t p = (t + (t - ai) + bh, decide (ai < t), decide (0 ≤ bh)) from by
     unfold FliD.reach
     simp only [HIX.out, HAI.out, HRA.out, HRB.out, HA1.out, Int.toNat_natCast, HBH.out, HAH.out]
     rw [if_neg hne, if_pos hcm])
    go_wp2_with (fail)
    exact bodyPost_ret (res_ct rfl _ _ #[.int .i64 (p : Int), .int .i64 (t + (t - ai) + bh), .bool (decide (ai < t))] 3 rfl ((((oH.out.alloc _).set_ 0 _).set_ 1 _).set_ 2 _) Tryz.rowHav rfl) rfl ⟨by rw [HRE.out]; rfl, bset (bset (bset (bal oB.out _) (Nat.le_refl _) _) (Nat.le_refl _) _) (Nat.le_refl _) _⟩
   ·have HRE := hI9 (show F.reach lt tt t p = (a1 + ah, false, decide (0 ≤ ah)) from by
     unfold FliD.reach
     simp only [HIX.out, HAI.out, HRA.out, HRB.out, HA1.out, Int.toNat_natCast, HBH.out, HAH.out]
     rw [if_neg hne, if_neg hcm])
    go_wp2_with (fail)
    exact bodyPost_ret (res_ct rfl _ _ #[.int .i64 (p : Int), .int .i64 (a1 + ah), .bool false] 3 rfl ((((oH.out.alloc _).set_ 0 _).set_ 1 _).set_ 2 _) Tryz.rowHav rfl) rfl ⟨by rw [HRE.out]; rfl, bset (bset (bset (bal oB.out _) (Nat.le_refl _) _) (Nat.le_refl _) _) (Nat.le_refl _) _⟩
end Go.Proofs.YtlabfpjlckdmfaaGreat
