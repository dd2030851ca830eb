/- Texts joined: KR. -/
import Derived.Test.YtfcjblnebaemgaaGreatKP
import Derived.Test.YtfcjblnebaemgaaGreatBas
import Derived.Deep.WholeRow
set_option linter.all false
namespace Go.Proofs.YtfcjblnebaemgaaGreat
open Go Go.RowKit

theorem floor_mono {a b c d : Int} (hb : 1 ≤ b) (hd : 1 ≤ d) (h : a * d ≤ c * b) : a / b ≤ c / d := by
  apply Int.le_ediv_of_mul_le (by omega)
  have h1 : a / b * b ≤ a := Int.ediv_mul_le a (by omega)
  have h2 : a / b * b * d ≤ a * d := Int.mul_le_mul_of_nonneg_right h1 (by omega)
  have h3 : (a / b * d) * b ≤ c * b := by
    have e : (a / b * d) * b = a / b * b * d := by grind
    omega
  exact Int.le_of_mul_le_mul_right h3 (by omega)
theorem cdiv_mono {a b c d : Int} (hb : 1 ≤ b) (hd : 1 ≤ d) (h : a * d ≤ c * b) : cdiv a b ≤ cdiv c d := by
  have := floor_mono (a := -c) (b := d) (c := -a) (d := b) hd hb (by rw [Int.neg_mul, Int.neg_mul]; omega)
  unfold cdiv; omega
theorem floor_same {a b c d : Int} (hb : 1 ≤ b) (hd : 1 ≤ d) (h : a * d = c * b) : a / b = c / d :=
  Int.le_antisymm (floor_mono hb hd (by omega)) (floor_mono hd hb (by omega))
theorem cdiv_same {a b c d : Int} (hb : 1 ≤ b) (hd : 1 ≤ d) (h : a * d = c * b) : cdiv a b = cdiv c d :=
  Int.le_antisymm (cdiv_mono hb hd (by omega)) (cdiv_mono hd hb (by omega))

theorem cellP_succ {l : List Int} {x : Int} (h : axisB l = true) : cellP l (x + 1) = cellP l x ∨ (cellP l (x + 1) = cellP l x + 1 ∧ nth l (cellP l x + 1) = x) := by
  have hl := axisB_len h
  obtain ⟨a1, a2, a3⟩ := lowIx_spec (fun k => nth l (k + 1)) (l.length - 1 - 1) x
  obtain ⟨b1, b2, b3⟩ := lowIx_spec (fun k => nth l (k + 1)) (l.length - 1 - 1) (x + 1)
  unfold cellP
  generalize lowIx (fun k => nth l (k + 1)) (l.length - 1 - 1) x = a at *
  generalize lowIx (fun k => nth l (k + 1)) (l.length - 1 - 1) (x + 1) = b at *
  rcases Nat.lt_trichotomy a b with hab | hab | hab
  · right
    have e1 := a3 (by omega)
    have e2 := b2 a hab
    refine ⟨?_, by omega⟩
    by_cases hb : b = a + 1
    · exact hb
    · have e3 := b2 (a + 1) (by omega)
      have e4 := axisB_lt h (show a + 1 < a + 1 + 1 by omega) (by omega)
      try simp only at e1 e2 e3
      omega
  · left; omega
  · have e1 := a2 b hab
    have e2 := b3 (by omega)
    try simp only at e1 e2
    omega

/-- A part of an axis where a number is. -/
def InPart (l : List Int) (i : Nat) (x : Int) : Prop := i + 1 < l.length ∧ nth l i ≤ x ∧ x ≤ nth l (i + 1)
theorem inPart_cellP {l : List Int} {x : Int} (h : axisB l = true) (h0 : nth l 0 ≤ x) (h1 : x ≤ nth l (l.length - 1)) : InPart l (cellP l x) x :=
  ⟨cellP_lt h x, (cellP_in h h0 h1).1, (cellP_in h h0 h1).2⟩
/-- Two parts where one number is: one, or neighbours. -/
theorem inPart_two {l : List Int} {i j : Nat} {x : Int} (h : axisB l = true) (hi : InPart l i x) (hj : InPart l j x) : i = j ∨ (j = i + 1 ∧ x = nth l (i + 1)) ∨ (i = j + 1 ∧ x = nth l (j + 1)) := by
  obtain ⟨a1, a2, a3⟩ := hi
  obtain ⟨b1, b2, b3⟩ := hj
  rcases Nat.lt_trichotomy i j with hij | hij | hij
  · right; left
    have e1 := axisB_le h (show i + 1 ≤ j by omega) (by omega)
    refine ⟨?_, by omega⟩
    by_cases e : j = i + 1
    · exact e
    · have := axisB_lt h (show i + 1 < j by omega) (by omega); omega
  · left; exact hij
  · right; right
    have e1 := axisB_le h (show j + 1 ≤ i by omega) (by omega)
    refine ⟨?_, by omega⟩
    by_cases e : i = j + 1
    · exact e
    · have := axisB_lt h (show j + 1 < i by omega) (by omega); omega

theorem den_eq (T : Tbl) (i k : Nat) (x y : Int) : den T i k x y = (nth T.X (i + 1) - nth T.X i) * (nth T.Y (k + 1) - nth T.Y k) := by
  unfold den; rw [show nth T.X (i + 1) - x + (x - nth T.X i) = nth T.X (i + 1) - nth T.X i by omega, show nth T.Y (k + 1) - y + (y - nth T.Y k) = nth T.Y (k + 1) - nth T.Y k by omega]
theorem num_stepX (T : Tbl) (i k : Nat) (y : Int) : num T i k (nth T.X (i + 1)) y * den T (i + 1) k (nth T.X (i + 1)) y = num T (i + 1) k (nth T.X (i + 1)) y * den T i k (nth T.X (i + 1)) y := by
  rw [den_eq, den_eq]; unfold num; grind
theorem num_stepY (T : Tbl) (i k : Nat) (x : Int) : num T i k x (nth T.Y (k + 1)) * den T i (k + 1) x (nth T.Y (k + 1)) = num T i (k + 1) x (nth T.Y (k + 1)) * den T i k x (nth T.Y (k + 1)) := by
  rw [den_eq, den_eq]; unfold num; grind
theorem den_pos {T : Tbl} {i k : Nat} (x y : Int) (hX : axisB T.X = true) (hY : axisB T.Y = true) (hi : i + 1 < T.X.length) (hk : k + 1 < T.Y.length) : 1 ≤ den T i k x y := by
  rw [den_eq]
  have si := axisB_step hX hi
  have sk := axisB_step hY hk
  have p : 1 * 1 ≤ (nth T.X (i + 1) - nth T.X i) * (nth T.Y (k + 1) - nth T.Y k) := Int.mul_le_mul (by omega) (by omega) (by omega) (by omega)
  omega
theorem cross_trans {a b c d e f : Int} (hd : 1 ≤ d) (h1 : a * d = c * b) (h2 : c * f = e * d) : a * f = e * b := by
  have : (a * f) * d = (e * b) * d := by
    have e1 : (a * f) * d = a * d * f := by grind
    have e2 : (e * b) * d = e * d * b := by grind
    rw [e1, e2, h1, ← h2]; grind
  exact Int.eq_of_mul_eq_mul_right (by omega) this
theorem num_partX {T : Tbl} {i j k : Nat} {x : Int} (y : Int) (hX : axisB T.X = true) (hi : InPart T.X i x) (hj : InPart T.X j x) : num T i k x y * den T j k x y = num T j k x y * den T i k x y := by
  rcases inPart_two hX hi hj with rfl | ⟨rfl, rfl⟩ | ⟨rfl, rfl⟩
  · rfl
  · exact num_stepX T i k y
  · exact (num_stepX T j k y).symm
theorem num_partY {T : Tbl} {i k m : Nat} {y : Int} (x : Int) (hY : axisB T.Y = true) (hk : InPart T.Y k y) (hm : InPart T.Y m y) : num T i k x y * den T i m x y = num T i m x y * den T i k x y := by
  rcases inPart_two hY hk hm with rfl | ⟨rfl, rfl⟩ | ⟨rfl, rfl⟩
  · rfl
  · exact num_stepY T i k x
  · exact (num_stepY T i m x).symm
theorem num_part {T : Tbl} {i j k m : Nat} {x y : Int} (hX : axisB T.X = true) (hY : axisB T.Y = true) (hi : InPart T.X i x) (hj : InPart T.X j x) (hk : InPart T.Y k y) (hm : InPart T.Y m y) :
    num T i k x y * den T j m x y = num T j m x y * den T i k x y :=
  cross_trans (c := num T j k x y) (d := den T j k x y) (den_pos x y hX hY hj.1 hk.1) (num_partX y hX hi hj) (num_partY x hY hk hm)

/-- The value of a table at a point, rounded down, and up. -/
def flo (T : Tbl) (x y : Int) : Int := numP T x y / denP T x y
def cei (T : Tbl) (x y : Int) : Int := cdiv (numP T x y) (denP T x y)

theorem flo_part {T : Tbl} {i k : Nat} {x y : Int} (hX : axisB T.X = true) (hY : axisB T.Y = true) (hO : OnT T x y) (hi : InPart T.X i x) (hk : InPart T.Y k y) :
    num T i k x y / den T i k x y = flo T x y ∧ cdiv (num T i k x y) (den T i k x y) = cei T x y := by
  obtain ⟨h1, h2, h3, h4⟩ := hO
  have px := inPart_cellP hX h1 h2
  have py := inPart_cellP hY h3 h4
  have e := num_part hX hY hi px hk py
  have d1 := den_pos x y hX hY hi.1 hk.1
  have d2 := den_pos x y hX hY px.1 py.1
  exact ⟨floor_same d1 d2 e, cdiv_same d1 d2 e⟩

/-- The parts that the reference finds. -/
theorem flo_ref {T : Tbl} {x y : Int} (hX : axisB T.X = true) (hY : axisB T.Y = true) (hO : OnT T x y) :
    InPart T.X (cellP T.X (x + 1)) x ∧ InPart T.Y (cellP T.Y (y + 1)) y := by
  have one : ∀ {l : List Int} {x : Int}, axisB l = true → nth l 0 ≤ x → x ≤ nth l (l.length - 1) → InPart l (cellP l (x + 1)) x := by
    intro l x h h0 h1
    have p := inPart_cellP h h0 h1
    rcases cellP_succ (x := x) h with e | ⟨e, e2⟩
    · rw [e]; exact p
    · have hlt := cellP_lt h (x + 1)
      rw [e] at hlt ⊢
      have := axisB_lt h (show cellP l x + 1 < cellP l x + 1 + 1 by omega) hlt
      exact ⟨hlt, by omega, by omega⟩
  obtain ⟨h1, h2, h3, h4⟩ := hO
  exact ⟨one hX h1 h2, one hY h3 h4⟩

/-- Pairs of numbers of two lists. -/
def pairs (xs ys : List Int) : List (Int × Int) := xs.flatMap fun x => ys.map fun y => (x, y)
def mnF (T : Tbl) (a : Int) (l : List (Int × Int)) : Int := l.foldl (fun m p => min m (flo T p.1 p.2)) a
def mxF (T : Tbl) (a : Int) (l : List (Int × Int)) : Int := l.foldl (fun m p => max m (cei T p.1 p.2)) a
theorem mnF_snoc (T : Tbl) (a : Int) (l : List (Int × Int)) (p : Int × Int) : mnF T a (l ++ [p]) = min (mnF T a l) (flo T p.1 p.2) := by simp [mnF]
theorem mxF_snoc (T : Tbl) (a : Int) (l : List (Int × Int)) (p : Int × Int) : mxF T a (l ++ [p]) = max (mxF T a l) (cei T p.1 p.2) := by simp [mxF]
theorem mnF_spec (T : Tbl) (l : List (Int × Int)) : ∀ a, mnF T a l ≤ a ∧ (∀ p ∈ l, mnF T a l ≤ flo T p.1 p.2) ∧ (mnF T a l = a ∨ ∃ p ∈ l, mnF T a l = flo T p.1 p.2) := by
  induction l with
  | nil => intro a; simp [mnF]
  | cons q l ih =>
    intro a
    have e : mnF T a (q :: l) = mnF T (min a (flo T q.1 q.2)) l := rfl
    obtain ⟨h1, h2, h3⟩ := ih (min a (flo T q.1 q.2))
    rw [e]
    refine ⟨by omega, fun p hp => ?_, ?_⟩
    · rcases List.mem_cons.1 hp with rfl | hp
      · omega
      · exact h2 p hp
    · rcases h3 with h3 | ⟨p, hp, h3⟩
      · rcases (show min a (flo T q.1 q.2) = a ∨ min a (flo T q.1 q.2) = flo T q.1 q.2 by omega) with e | e
        · left; omega
        · right; exact ⟨q, by simp, by omega⟩
      · right; exact ⟨p, by simp [hp], h3⟩
theorem mxF_spec (T : Tbl) (l : List (Int × Int)) : ∀ a, a ≤ mxF T a l ∧ (∀ p ∈ l, cei T p.1 p.2 ≤ mxF T a l) ∧ (mxF T a l = a ∨ ∃ p ∈ l, mxF T a l = cei T p.1 p.2) := by
  induction l with
  | nil => intro a; simp [mxF]
  | cons q l ih =>
    intro a
    have e : mxF T a (q :: l) = mxF T (max a (cei T q.1 q.2)) l := rfl
    obtain ⟨h1, h2, h3⟩ := ih (max a (cei T q.1 q.2))
    rw [e]
    refine ⟨by omega, fun p hp => ?_, ?_⟩
    · rcases List.mem_cons.1 hp with rfl | hp
      · omega
      · exact h2 p hp
    · rcases h3 with h3 | ⟨p, hp, h3⟩
      · rcases (show max a (cei T q.1 q.2) = a ∨ max a (cei T q.1 q.2) = cei T q.1 q.2 by omega) with e | e
        · left; omega
        · right; exact ⟨q, by simp, by omega⟩
      · right; exact ⟨p, by simp [hp], h3⟩

/-- The least floor, and the greatest ceiling, over the corners of a box, as the reference finds them. -/
def bLo (T : Tbl) (xl xh yl yh : Int) : Int := mnF T (flo T (nth (stopsL T.X xl xh) 0) (nth (stopsL T.Y yl yh) 0)) (pairs (stopsL T.X xl xh) (stopsL T.Y yl yh))
def bHi (T : Tbl) (xl xh yl yh : Int) : Int := mxF T (cei T (nth (stopsL T.X xl xh) 0) (nth (stopsL T.Y yl yh) 0)) (pairs (stopsL T.X xl xh) (stopsL T.Y yl yh))

theorem mem_pairs {xs ys : List Int} {p : Int × Int} : p ∈ pairs xs ys ↔ p.1 ∈ xs ∧ p.2 ∈ ys := by
  unfold pairs
  simp only [List.mem_flatMap, List.mem_map]
  constructor
  · rintro ⟨x, hx, y, hy, rfl⟩; exact ⟨hx, hy⟩
  · rintro ⟨hx, hy⟩; exact ⟨p.1, hx, p.2, hy, rfl⟩
theorem mem_corners {T : Tbl} {xs ys : List Int} {q : Pt} : q ∈ cornersL T xs ys ↔ ∃ x ∈ xs, ∃ y ∈ ys, q = mkPt T x y := by
  unfold cornersL
  simp only [List.mem_flatMap, List.mem_map]
  constructor
  · rintro ⟨x, hx, y, hy, rfl⟩; exact ⟨x, hx, y, hy, rfl⟩
  · rintro ⟨x, hx, y, hy, rfl⟩; exact ⟨x, hx, y, hy, rfl⟩
theorem nth0_mem {xs : List Int} (h : 0 < xs.length) : nth xs 0 ∈ xs := nth_mem xs 0 h
theorem mem_stopsL {xs : List Int} {lo hi x : Int} (hlh : lo ≤ hi) (h : x ∈ stopsL xs lo hi) : lo ≤ x ∧ x ≤ hi := by
  obtain ⟨k, hk, rfl⟩ := List.getElem_of_mem h
  have := stopsL_in (xs := xs) hlh hk
  rwa [nth_getElem _ _ hk] at this
theorem Fits.on {T : Tbl} {xl xh yl yh x y : Int} (h : Fits T xl xh yl yh) (hx : xl ≤ x ∧ x ≤ xh) (hy : yl ≤ y ∧ y ≤ yh) : OnT T x y := by
  have h1 := h.lx
  have h2 := h.ly
  unfold liesB at h1 h2
  simp only [Bool.and_eq_true, decide_eq_true_eq] at h1 h2
  exact ⟨by omega, by omega, by omega, by omega⟩

theorem bnd_eq {T : Tbl} {xl xh yl yh : Int} (h : Fits T xl xh yl yh) : bndLo T xl xh yl yh = bLo T xl xh yl yh ∧ bndHi T xl xh yl yh = bHi T xl xh yl yh := by
  have hx := vspan_le h.vx
  have hy := vspan_le h.vy
  have nx := stopsL_pos T.X xl xh
  have ny := stopsL_pos T.Y yl yh
  have on : ∀ x ∈ stopsL T.X xl xh, ∀ y ∈ stopsL T.Y yl yh, OnT T x y := fun x hx' y hy' => h.on (mem_stopsL hx hx') (mem_stopsL hy hy')
  have mk : ∀ x ∈ stopsL T.X xl xh, ∀ y ∈ stopsL T.Y yl yh, (mkPt T x y).n / (mkPt T x y).d = flo T x y ∧ cdiv (mkPt T x y).n (mkPt T x y).d = cei T x y := by
    intro x hx' y hy'
    obtain ⟨e1, e2⟩ := mkPt_n h.t (on x hx' y hy')
    rw [e1, e2]; exact ⟨rfl, rfl⟩
  have m0 : (nth (stopsL T.X xl xh) 0, nth (stopsL T.Y yl yh) 0) ∈ pairs (stopsL T.X xl xh) (stopsL T.Y yl yh) := mem_pairs.2 ⟨nth0_mem nx, nth0_mem ny⟩
  constructor
  · obtain ⟨p, hp, hm, hl⟩ := leastO_some _ (cornersL_ne T _ _ nx ny)
    rw [bndLo_eq hp]
    obtain ⟨s1, s2, s3⟩ := mnF_spec T (pairs (stopsL T.X xl xh) (stopsL T.Y yl yh)) (flo T (nth (stopsL T.X xl xh) 0) (nth (stopsL T.Y yl yh) 0))
    unfold bLo
    obtain ⟨x, hx', y, hy', rfl⟩ := mem_corners.1 hm
    have a1 := s2 (x, y) (mem_pairs.2 ⟨hx', hy'⟩)
    rw [(mk x hx' y hy').1]
    simp only at a1
    have low : ∀ q ∈ pairs (stopsL T.X xl xh) (stopsL T.Y yl yh), flo T x y ≤ flo T q.1 q.2 := by
      intro q hq
      obtain ⟨q1, q2⟩ := mem_pairs.1 hq
      have := hl _ (mem_corners.2 ⟨q.1, q1, q.2, q2, rfl⟩)
      have := floor_mono (mkPt T x y).hd.1 (mkPt T q.1 q.2).hd.1 this
      rw [(mk _ q1 _ q2).1, (mk x hx' y hy').1] at this
      exact this
    rcases s3 with s3 | ⟨q, hq, s3⟩
    · have := low _ m0; simp only at this; omega
    · have := low q hq; omega
  · obtain ⟨p, hp, hm, hl⟩ := mostO_some _ (cornersL_ne T _ _ nx ny)
    rw [bndHi_eq hp]
    obtain ⟨s1, s2, s3⟩ := mxF_spec T (pairs (stopsL T.X xl xh) (stopsL T.Y yl yh)) (cei T (nth (stopsL T.X xl xh) 0) (nth (stopsL T.Y yl yh) 0))
    unfold bHi
    obtain ⟨x, hx', y, hy', rfl⟩ := mem_corners.1 hm
    have a1 := s2 (x, y) (mem_pairs.2 ⟨hx', hy'⟩)
    rw [(mk x hx' y hy').2]
    simp only at a1
    have low : ∀ q ∈ pairs (stopsL T.X xl xh) (stopsL T.Y yl yh), cei T q.1 q.2 ≤ cei T x y := by
      intro q hq
      obtain ⟨q1, q2⟩ := mem_pairs.1 hq
      have := hl _ (mem_corners.2 ⟨q.1, q1, q.2, q2, rfl⟩)
      have := cdiv_mono (mkPt T q.1 q.2).hd.1 (mkPt T x y).hd.1 this
      rw [(mk _ q1 _ q2).2, (mk x hx' y hy').2] at this
      exact this
    rcases s3 with s3 | ⟨q, hq, s3⟩
    · have := low _ m0; simp only at this; omega
    · have := low q hq; omega
end Go.Proofs.YtfcjblnebaemgaaGreat

namespace Go.Proofs.YtfcjblnebaemgaaGreat
open Go Go.RowKit Go.Proofs

set_option maxRecDepth 100000
set_option maxHeartbeats 4000000

/-- A slice's value. -/
def IsSl (v : Value) : Prop := ∃ a n c, v = .slice a n c

end Go.Proofs.YtfcjblnebaemgaaGreat

namespace Go.Proofs.YtfcjblnebaemgaaGreat
open Go Go.RowKit Go.Proofs

set_option maxRecDepth 100000
set_option maxHeartbeats 4000000

def lkE (T : Tbl) (xl xh yl yh : Int) : Bool := liesB T.X xl xh && liesB T.Y yl yh
end Go.Proofs.YtfcjblnebaemgaaGreat

namespace Go.Proofs.YtfcjblnebaemgaaGreat
open Go Go.RowKit Go.Proofs

structure Tabs where
  h : Tbl
  g : Tbl
  l : Tbl
  p : Tbl
  n : Tbl
  a : Tbl
  c : Tbl
  d : Tbl

structure RotAt (w : World) (hx hy hv gx gy gv lx ly lv px py pv nx ny nv ax ay av cx cy cv dx dy dv : Value) (cl bu : Int) (S : Tabs) : Prop where
  h : TblAt w hx hy hv S.h
  g : TblAt w gx gy gv S.g
  l : TblAt w lx ly lv S.l
  p : TblAt w px py pv S.p
  n : TblAt w nx ny nv S.n
  a : TblAt w ax ay av S.a
  c : TblAt w cx cy cv S.c
  d : TblAt w dx dy dv S.d
  cl : I64 cl
  bu : I64 bu
theorem RotAt.below {w w' : World} {hx hy hv gx gy gv lx ly lv px py pv nx ny nv ax ay av cx cy cv dx dy dv : Value} {cl bu : Int} {S : Tabs} (h : RotAt w hx hy hv gx gy gv lx ly lv px py pv nx ny nv ax ay av cx cy cv dx dy dv cl bu S) (hb : Below w.heap.size w w') : RotAt w' hx hy hv gx gy gv lx ly lv px py pv nx ny nv ax ay av cx cy cv dx dy dv cl bu S :=
  ⟨h.h.below hb, h.g.below hb, h.l.below hb, h.p.below hb, h.n.below hb, h.a.below hb, h.c.below hb, h.d.below hb, h.cl, h.bu⟩

theorem TblAt.s1 {w : World} {x y v : Value} {T : Tbl} (h : TblAt w x y v T) : IsSl x := by obtain ⟨A, c, e, -⟩ := h.x; exact ⟨_, _, _, e⟩
theorem TblAt.s2 {w : World} {x y v : Value} {T : Tbl} (h : TblAt w x y v T) : IsSl y := by obtain ⟨A, c, e, -⟩ := h.y; exact ⟨_, _, _, e⟩
theorem TblAt.s3 {w : World} {x y v : Value} {T : Tbl} (h : TblAt w x y v T) : IsSl v := by obtain ⟨A, c, vs, e, -⟩ := h.v; exact ⟨_, _, _, e⟩

set_option maxRecDepth 100000
set_option maxHeartbeats 4000000

theorem Tryz.fldLo (a b : Int) (w : World) : (Instr.field 23 (.agg #[.int .i64 a, .int .i64 b]) 0).run Tryz.prog w = .ok (.int .i64 a) w := by kernel_rfl
theorem Tryz.fldHi (a b : Int) (w : World) : (Instr.field 23 (.agg #[.int .i64 a, .int .i64 b]) 1).run Tryz.prog w = .ok (.int .i64 b) w := by kernel_rfl

noncomputable def wakeB (A C : Tbl) (wl wh sl sh kl kh : Int) : Bool := decide (bndLo A sl sh wl wh ≤ kh) && decide (kl ≤ bndHi C sl sh wl wh)

end Go.Proofs.YtfcjblnebaemgaaGreat

/- Contracts: needs, margin, rate of package rotor. -/
namespace Go.Proofs.YtfcjblnebaemgaaGreat
open Go Go.RowKit Go.Proofs
set_option maxRecDepth 100000
set_option maxHeartbeats 4000000

noncomputable def rateV (P L : Tbl) (wl wh tl th el eh cl n : Int) : Int := (bndLo P tl th el eh - bndHi L n n wl wh) / cl

end Go.Proofs.YtfcjblnebaemgaaGreat

/- Contracts: the limits of a table, package rotor. -/
namespace Go.Proofs.YtfcjblnebaemgaaGreat
open Go Go.RowKit Go.Proofs
set_option maxRecDepth 100000
set_option maxHeartbeats 4000000

/-- A row with a number outside of the limits. -/
def rowOff (lo hi : Int) (xs : List Int) : Bool := (List.range xs.length).any fun i => !inB (nth xs i) lo hi
theorem cell_lt {w : World} {b o : Nat} {v : Value} (h : w.cell? ⟨b, o, none⟩ = some v) : b < w.heap.size := blk_lt h

def offB (lo hi : Int) (V : List (List Int)) : Bool := (List.range V.length).any fun i => rowOff lo hi (nthR V i)
def rightB (T : Tbl) (lo hi : Int) : Bool := tblB T && !offB lo hi T.V

end Go.Proofs.YtfcjblnebaemgaaGreat

/- Contracts: slices.Equal, package rotor's Check. -/
namespace Go.Proofs.YtfcjblnebaemgaaGreat
open Go Go.RowKit Go.Proofs
set_option maxRecDepth 100000
set_option maxHeartbeats 4000000

theorem ext_nth {xs ys : List Int} (h : xs.length = ys.length) (hk : ∀ j, j < xs.length → nth xs j = nth ys j) : xs = ys := by
  apply List.ext_getElem h
  intro i h1 h2
  have := hk i h1
  rwa [nth_getElem xs i h1, nth_getElem ys i h2] at this

end Go.Proofs.YtfcjblnebaemgaaGreat

namespace Go.Proofs.YtfcjblnebaemgaaGreat
open Go Go.RowKit

theorem stops_lo {xs : List Int} {lo hi : Int} : lo ∈ stopsL xs lo hi := by simp [stopsL, stopsF]
theorem stops_hi {xs : List Int} {lo hi : Int} (h : lo ≤ hi) : hi ∈ stopsL xs lo hi := by
  by_cases e : lo < hi
  · simp [stopsL, e]
  · obtain rfl : lo = hi := by omega
    exact stops_lo
theorem stops_mid {xs : List Int} {lo hi x : Int} (hx : x ∈ xs) (h1 : lo < x) (h2 : x < hi) : x ∈ stopsL xs lo hi := by
  simp [stopsL, stopsF, hx, h1, h2]

/-- Two stops with a number between them, all in one part. -/
theorem between {xs : List Int} {lo hi x : Int} (h : axisB xs = true) (h0 : nth xs 0 ≤ x) (h1 : x ≤ nth xs (xs.length - 1)) (hl : lo ≤ x) (hh : x ≤ hi) :
    ∃ i s t, s ∈ stopsL xs lo hi ∧ t ∈ stopsL xs lo hi ∧ InPart xs i s ∧ InPart xs i t ∧ InPart xs i x ∧ s ≤ x ∧ x ≤ t := by
  obtain ⟨p1, p2, p3⟩ := inPart_cellP h h0 h1
  generalize cellP xs x = i at *
  have m0 := nth_mem xs i (by omega)
  have m1 := nth_mem xs (i + 1) p1
  have hs : ∃ s, s ∈ stopsL xs lo hi ∧ nth xs i ≤ s ∧ s ≤ x := by
    by_cases e : nth xs i ≤ lo
    · exact ⟨lo, stops_lo, e, hl⟩
    · by_cases e2 : nth xs i < hi
      · exact ⟨_, stops_mid m0 (by omega) e2, Int.le_refl _, p2⟩
      · exact ⟨hi, stops_hi (by omega), by omega, by omega⟩
  have ht : ∃ t, t ∈ stopsL xs lo hi ∧ t ≤ nth xs (i + 1) ∧ x ≤ t := by
    by_cases e : hi ≤ nth xs (i + 1)
    · exact ⟨hi, stops_hi (by omega), e, hh⟩
    · by_cases e2 : lo < nth xs (i + 1)
      · exact ⟨_, stops_mid m1 e2 (by omega), Int.le_refl _, p3⟩
      · exact ⟨lo, stops_lo, by omega, by omega⟩
  obtain ⟨s, s1, s2, s3⟩ := hs
  obtain ⟨t, t1, t2, t3⟩ := ht
  exact ⟨i, s, t, s1, t1, ⟨p1, s2, by omega⟩, ⟨p1, by omega, t2⟩, ⟨p1, p2, p3⟩, s3, t3⟩

theorem convex {a b c p q : Int} (hp : 0 ≤ p) (hq : 0 ≤ q) (h : c * (p + q) = a * p + b * q) (h0 : 0 < p + q) : (a ≤ c ∨ b ≤ c) ∧ (c ≤ a ∨ c ≤ b) := by
  constructor
  · by_cases e : a ≤ c
    · left; exact e
    · by_cases e2 : b ≤ c
      · right; exact e2
      · exfalso
        have h1 : (c + 1) * p ≤ a * p := Int.mul_le_mul_of_nonneg_right (by omega) hp
        have h2 : (c + 1) * q ≤ b * q := Int.mul_le_mul_of_nonneg_right (by omega) hq
        have h3 : (c + 1) * p + (c + 1) * q = c * (p + q) + (p + q) := by grind
        omega
  · by_cases e : c ≤ a
    · left; exact e
    · by_cases e2 : c ≤ b
      · right; exact e2
      · exfalso
        have h1 : a * p ≤ (c - 1) * p := Int.mul_le_mul_of_nonneg_right (by omega) hp
        have h2 : b * q ≤ (c - 1) * q := Int.mul_le_mul_of_nonneg_right (by omega) hq
        have h3 : (c - 1) * p + (c - 1) * q = c * (p + q) - (p + q) := by grind
        omega

theorem num_x (T : Tbl) (i k : Nat) (s t x y : Int) : num T i k x y * ((t - x) + (x - s)) = num T i k s y * (t - x) + num T i k t y * (x - s) := by unfold num; grind
theorem num_y (T : Tbl) (i k : Nat) (s t x y : Int) : num T i k x y * ((t - y) + (y - s)) = num T i k x s * (t - y) + num T i k x t * (y - s) := by unfold num; grind
theorem cdiv_le {a b d : Int} (hd : 1 ≤ d) (h : a ≤ b) : cdiv a d ≤ cdiv b d := by
  have := Int.ediv_le_ediv (show 0 < d by omega) (show -b ≤ -a by omega); unfold cdiv; omega

theorem ends_x {T : Tbl} {i k : Nat} {s t x y : Int} (hX : axisB T.X = true) (hY : axisB T.Y = true) (os : OnT T s y) (ot : OnT T t y) (ox : OnT T x y)
    (ps : InPart T.X i s) (pt : InPart T.X i t) (px : InPart T.X i x) (py : InPart T.Y k y) (h1 : s ≤ x) (h2 : x ≤ t) :
    (flo T s y ≤ flo T x y ∨ flo T t y ≤ flo T x y) ∧ (cei T x y ≤ cei T s y ∨ cei T x y ≤ cei T t y) := by
  by_cases e : s = t
  · obtain rfl : s = x := by omega
    exact ⟨Or.inl (Int.le_refl _), Or.inl (Int.le_refl _)⟩
  obtain ⟨a1, a2⟩ := flo_part hX hY os ps py
  obtain ⟨b1, b2⟩ := flo_part hX hY ot pt py
  obtain ⟨c1, c2⟩ := flo_part hX hY ox px py
  have d0 := den_pos x y hX hY px.1 py.1
  rw [den_eq] at a1 a2 b1 b2 c1 c2 d0
  generalize (nth T.X (i + 1) - nth T.X i) * (nth T.Y (k + 1) - nth T.Y k) = D at *
  rw [← a1, ← a2, ← b1, ← b2, ← c1, ← c2]
  obtain ⟨g1, g2⟩ := convex (by omega) (by omega) (num_x T i k s t x y) (by omega)
  constructor
  · rcases g1 with g | g
    · left; exact Int.ediv_le_ediv (by omega) g
    · right; exact Int.ediv_le_ediv (by omega) g
  · rcases g2 with g | g
    · left; exact cdiv_le d0 g
    · right; exact cdiv_le d0 g
theorem ends_y {T : Tbl} {i k : Nat} {s t x y : Int} (hX : axisB T.X = true) (hY : axisB T.Y = true) (os : OnT T x s) (ot : OnT T x t) (ox : OnT T x y)
    (ps : InPart T.Y k s) (pt : InPart T.Y k t) (py : InPart T.Y k y) (px : InPart T.X i x) (h1 : s ≤ y) (h2 : y ≤ t) :
    (flo T x s ≤ flo T x y ∨ flo T x t ≤ flo T x y) ∧ (cei T x y ≤ cei T x s ∨ cei T x y ≤ cei T x t) := by
  by_cases e : s = t
  · obtain rfl : s = y := by omega
    exact ⟨Or.inl (Int.le_refl _), Or.inl (Int.le_refl _)⟩
  obtain ⟨a1, a2⟩ := flo_part hX hY os px ps
  obtain ⟨b1, b2⟩ := flo_part hX hY ot px pt
  obtain ⟨c1, c2⟩ := flo_part hX hY ox px py
  have d0 := den_pos x y hX hY px.1 py.1
  rw [den_eq] at a1 a2 b1 b2 c1 c2 d0
  generalize (nth T.X (i + 1) - nth T.X i) * (nth T.Y (k + 1) - nth T.Y k) = D at *
  rw [← a1, ← a2, ← b1, ← b2, ← c1, ← c2]
  obtain ⟨g1, g2⟩ := convex (by omega) (by omega) (num_y T i k s t x y) (by omega)
  constructor
  · rcases g1 with g | g
    · left; exact Int.ediv_le_ediv (by omega) g
    · right; exact Int.ediv_le_ediv (by omega) g
  · rcases g2 with g | g
    · left; exact cdiv_le d0 g
    · right; exact cdiv_le d0 g

/-- The value at a point of a box is not beyond the bounds of the box. -/
theorem bnd_at {T : Tbl} {xl xh yl yh x y : Int} (h : Fits T xl xh yl yh) (hx : xl ≤ x ∧ x ≤ xh) (hy : yl ≤ y ∧ y ≤ yh) : bLo T xl xh yl yh ≤ flo T x y ∧ cei T x y ≤ bHi T xl xh yl yh := by
  have hX := tblB_X h.t
  have hY := tblB_Y h.t
  have O := h.on hx hy
  obtain ⟨o1, o2, o3, o4⟩ := id O
  obtain ⟨i, s, t, s1, t1, ps, pt, px, h1, h2⟩ := between (lo := xl) (hi := xh) hX o1 o2 hx.1 hx.2
  obtain ⟨k, u, v, u1, v1, qu, qv, qy, g1, g2⟩ := between (lo := yl) (hi := yh) hY o3 o4 hy.1 hy.2
  have bx := vspan_le h.vx
  have by_ := vspan_le h.vy
  have S := mem_stopsL bx s1
  have Tt := mem_stopsL bx t1
  have U := mem_stopsL by_ u1
  have V := mem_stopsL by_ v1
  obtain ⟨l1, l2⟩ := ends_x hX hY (h.on S hy) (h.on Tt hy) O ps pt px qy h1 h2
  have cor : ∀ z ∈ stopsL T.X xl xh, ∀ r ∈ stopsL T.Y yl yh, bLo T xl xh yl yh ≤ flo T z r ∧ cei T z r ≤ bHi T xl xh yl yh := fun z hz r hr =>
    ⟨(mnF_spec T _ _).2.1 (z, r) (mem_pairs.2 ⟨hz, hr⟩), (mxF_spec T _ _).2.1 (z, r) (mem_pairs.2 ⟨hz, hr⟩)⟩
  have col : ∀ z ∈ stopsL T.X xl xh, InPart T.X i z → bLo T xl xh yl yh ≤ flo T z y ∧ cei T z y ≤ bHi T xl xh yl yh := by
    intro z hz pz
    have Z := mem_stopsL bx hz
    obtain ⟨m1, m2⟩ := ends_y hX hY (h.on Z U) (h.on Z V) (h.on Z hy) qu qv qy pz g1 g2
    have c1 := cor z hz u u1
    have c2 := cor z hz v v1
    constructor
    · rcases m1 with m | m <;> omega
    · rcases m2 with m | m <;> omega
  have c1 := col s s1 ps
  have c2 := col t t1 pt
  constructor
  · rcases l1 with m | m <;> omega
  · rcases l2 with m | m <;> omega

theorem bLo_is {T : Tbl} {xl xh yl yh : Int} (h : Fits T xl xh yl yh) : ∃ x y, (xl ≤ x ∧ x ≤ xh) ∧ (yl ≤ y ∧ y ≤ yh) ∧ bLo T xl xh yl yh = flo T x y := by
  have bx := vspan_le h.vx
  have by_ := vspan_le h.vy
  rcases (mnF_spec T (pairs (stopsL T.X xl xh) (stopsL T.Y yl yh)) (flo T (nth (stopsL T.X xl xh) 0) (nth (stopsL T.Y yl yh) 0))).2.2 with e | ⟨p, hp, e⟩
  · exact ⟨_, _, mem_stopsL bx (nth0_mem (stopsL_pos _ _ _)), mem_stopsL by_ (nth0_mem (stopsL_pos _ _ _)), e⟩
  · obtain ⟨p1, p2⟩ := mem_pairs.1 hp
    exact ⟨_, _, mem_stopsL bx p1, mem_stopsL by_ p2, e⟩
theorem bHi_is {T : Tbl} {xl xh yl yh : Int} (h : Fits T xl xh yl yh) : ∃ x y, (xl ≤ x ∧ x ≤ xh) ∧ (yl ≤ y ∧ y ≤ yh) ∧ bHi T xl xh yl yh = cei T x y := by
  have bx := vspan_le h.vx
  have by_ := vspan_le h.vy
  rcases (mxF_spec T (pairs (stopsL T.X xl xh) (stopsL T.Y yl yh)) (cei T (nth (stopsL T.X xl xh) 0) (nth (stopsL T.Y yl yh) 0))).2.2 with e | ⟨p, hp, e⟩
  · exact ⟨_, _, mem_stopsL bx (nth0_mem (stopsL_pos _ _ _)), mem_stopsL by_ (nth0_mem (stopsL_pos _ _ _)), e⟩
  · obtain ⟨p1, p2⟩ := mem_pairs.1 hp
    exact ⟨_, _, mem_stopsL bx p1, mem_stopsL by_ p2, e⟩

/-- A smaller box has narrower bounds. -/
theorem bnd_sub {T : Tbl} {xl xh yl yh al ah bl bh : Int} (h : Fits T xl xh yl yh) (g : Fits T al ah bl bh) (h1 : xl ≤ al) (h2 : ah ≤ xh) (h3 : yl ≤ bl) (h4 : bh ≤ yh) :
    bLo T xl xh yl yh ≤ bLo T al ah bl bh ∧ bHi T al ah bl bh ≤ bHi T xl xh yl yh := by
  obtain ⟨x, y, hx, hy, e⟩ := bLo_is g
  obtain ⟨x', y', hx', hy', e'⟩ := bHi_is g
  rw [e, e']
  exact ⟨(bnd_at h (by omega) (by omega)).1, (bnd_at h (by omega) (by omega)).2⟩

/-- Values within limits. -/
theorem right_val {T : Tbl} {lo hi : Int} (h : rightB T lo hi = true) {i k : Nat} (hi' : i < T.X.length) (hk : k < T.Y.length) : lo ≤ nth (nthR T.V i) k ∧ nth (nthR T.V i) k ≤ hi := by
  unfold rightB at h
  simp only [Bool.and_eq_true, Bool.not_eq_true'] at h
  obtain ⟨ht, ho⟩ := h
  have lV := tblB_len ht
  have hr := (tblB_row ht (show i < T.V.length by omega)).1
  unfold offB at ho
  rw [List.any_eq_false] at ho
  have := ho i (List.mem_range.2 (by omega))
  unfold rowOff at this
  simp only [Bool.not_eq_true] at this
  rw [List.any_eq_false] at this
  have := this k (List.mem_range.2 (by omega))
  exact inB_iff.1 (by simpa using this)
theorem right_t {T : Tbl} {lo hi : Int} (h : rightB T lo hi = true) : tblB T = true := by
  unfold rightB at h; simp only [Bool.and_eq_true] at h; exact h.1
theorem flo_lim {T : Tbl} {lo hi x y : Int} (h : rightB T lo hi = true) (hO : OnT T x y) : lo ≤ flo T x y ∧ flo T x y ≤ cei T x y ∧ cei T x y ≤ hi := by
  have ht := right_t h
  have hX := tblB_X ht
  have hY := tblB_Y ht
  obtain ⟨o1, o2, o3, o4⟩ := id hO
  obtain ⟨p1, p2, p3⟩ := inPart_cellP hX o1 o2
  obtain ⟨q1, q2, q3⟩ := inPart_cellP hY o3 o4
  have d := den_pos x y hX hY p1 q1
  have v0 := right_val h (i := cellP T.X x) (k := cellP T.Y y) (by omega) (by omega)
  have v1 := right_val h (i := cellP T.X x + 1) (k := cellP T.Y y) (by omega) (by omega)
  have v2 := right_val h (i := cellP T.X x) (k := cellP T.Y y + 1) (by omega) (by omega)
  have v3 := right_val h (i := cellP T.X x + 1) (k := cellP T.Y y + 1) (by omega) (by omega)
  have key : lo * denP T x y ≤ numP T x y ∧ numP T x y ≤ hi * denP T x y := by
    unfold denP numP num den
    generalize cellP T.X x = i at *
    generalize cellP T.Y y = k at *
    have a0 : 0 ≤ nth T.X (i + 1) - x := by omega
    have b0 : 0 ≤ x - nth T.X i := by omega
    have c0 : 0 ≤ nth T.Y (k + 1) - y := by omega
    have d0 : 0 ≤ y - nth T.Y k := by omega
    generalize nth T.X (i + 1) - x = A at *
    generalize x - nth T.X i = B at *
    generalize nth T.Y (k + 1) - y = C at *
    generalize y - nth T.Y k = D at *
    generalize nth (nthR T.V i) k = w0 at *
    generalize nth (nthR T.V (i + 1)) k = w1 at *
    generalize nth (nthR T.V i) (k + 1) = w2 at *
    generalize nth (nthR T.V (i + 1)) (k + 1) = w3 at *
    have m1 := Int.mul_nonneg a0 c0
    have m2 := Int.mul_nonneg b0 c0
    have m3 := Int.mul_nonneg a0 d0
    have m4 := Int.mul_nonneg b0 d0
    have e : (A + B) * (C + D) = A * C + B * C + A * D + B * D := by grind
    rw [e]
    generalize A * C = P at *
    generalize B * C = Q at *
    generalize A * D = R at *
    generalize B * D = S at *
    have l1 := Int.mul_le_mul_of_nonneg_left v0.1 m1
    have l2 := Int.mul_le_mul_of_nonneg_left v1.1 m2
    have l3 := Int.mul_le_mul_of_nonneg_left v2.1 m3
    have l4 := Int.mul_le_mul_of_nonneg_left v3.1 m4
    have u1 := Int.mul_le_mul_of_nonneg_left v0.2 m1
    have u2 := Int.mul_le_mul_of_nonneg_left v1.2 m2
    have u3 := Int.mul_le_mul_of_nonneg_left v2.2 m3
    have u4 := Int.mul_le_mul_of_nonneg_left v3.2 m4
    constructor
    · have : lo * (P + Q + R + S) = P * lo + Q * lo + R * lo + S * lo := by grind
      omega
    · have : hi * (P + Q + R + S) = P * hi + Q * hi + R * hi + S * hi := by grind
      omega
  change 1 ≤ denP T x y at d
  unfold flo cei
  generalize numP T x y = n at *
  generalize denP T x y = D at *
  refine ⟨Int.le_ediv_of_mul_le (by omega) key.1, ?_, ?_⟩
  · unfold cdiv
    have h1 : n / D * D ≤ n := Int.ediv_mul_le n (by omega)
    have h2 : (-n) / D * D ≤ -n := Int.ediv_mul_le (-n) (by omega)
    have h3 : (n / D + (-n) / D) * D ≤ 0 * D := by rw [Int.add_mul]; omega
    have := Int.le_of_mul_le_mul_right h3 (by omega)
    omega
  · unfold cdiv
    have : -hi ≤ (-n) / D := Int.le_ediv_of_mul_le (by omega) (by rw [Int.neg_mul]; omega)
    omega
theorem bnd_lim {T : Tbl} {lo hi xl xh yl yh : Int} (h : rightB T lo hi = true) (g : Fits T xl xh yl yh) : lo ≤ bLo T xl xh yl yh ∧ bLo T xl xh yl yh ≤ bHi T xl xh yl yh ∧ bHi T xl xh yl yh ≤ hi := by
  have bx := vspan_le g.vx
  have by_ := vspan_le g.vy
  obtain ⟨x, y, hx, hy, e⟩ := bLo_is g
  obtain ⟨x', y', hx', hy', e'⟩ := bHi_is g
  have a := flo_lim h (g.on hx hy)
  have b := flo_lim h (g.on hx' hy')
  have c := bnd_at g (x := xl) (y := yl) (by omega) (by omega)
  have d := flo_lim h (g.on (x := xl) (y := yl) (by omega) (by omega))
  omega
end Go.Proofs.YtfcjblnebaemgaaGreat

/- What the functions of package rotor return, told plainly. -/
namespace Go.Proofs.YtfcjblnebaemgaaGreat
open Go Go.RowKit Go.Proofs

/-- A row of the lower table that exceeds the higher one's. -/
def overRow (ls hs : List Int) : Bool := (List.range ls.length).any fun k => decide (nth hs k < nth ls k)
def overB (A C : List (List Int)) : Bool := (List.range A.length).any fun i => overRow (nthR A i) (nthR C i)

/-- The k-th table that Check looks at, with its limits. -/
def limT (S : Tabs) : Nat → Tbl
  | 0 => S.h | 1 => S.g | 2 => S.l | 3 => S.p | 4 => S.n | 5 => S.a | 6 => S.c | _ => S.d
def limLo : Nat → Int
  | 7 => 1 | _ => 0
def limHi : Nat → Int
  | 0 => 100000 | 1 => 100 | 2 => 100000 | 3 => 100000 | _ => 10000
def limsB (S : Tabs) : Bool := (List.range 8).all fun k => rightB (limT S k) (limLo k) (limHi k)
def ringsB (S : Tabs) (cl bu : Int) : Bool := decide (S.a.X = S.c.X) && decide (S.a.Y = S.c.Y) && inB cl 1 1000 && inB bu 1 1000
def rotB (S : Tabs) (cl bu : Int) : Bool := limsB S && ringsB S cl bu && !overB S.a.V S.c.V
def rotE (b : Bool) : Int := if b then 0 else 20
theorem rotE_t : rotE true = 0 := rfl
theorem rotE_f : rotE false = 20 := rfl

theorem limsB_no {S : Tabs} {k : Nat} (hk : k < 8) (h : rightB (limT S k) (limLo k) (limHi k) = false) : limsB S = false := by
  unfold limsB; rw [List.all_eq_false]; exact ⟨k, by simpa using hk, by simp [h]⟩
theorem limsB_yes {S : Tabs} (h : ∀ k, k < 8 → rightB (limT S k) (limLo k) (limHi k) = true) : limsB S = true := by
  unfold limsB; rw [List.all_eq_true]; intro k hk; exact h k (by simpa using hk)
theorem limsB_at {S : Tabs} (h : limsB S = true) {k : Nat} (hk : k < 8) : rightB (limT S k) (limLo k) (limHi k) = true := by
  unfold limsB at h; rw [List.all_eq_true] at h; exact h k (by simpa using hk)
theorem rotB_lims {S : Tabs} {cl bu : Int} (h : rotB S cl bu = true) : limsB S = true := by unfold rotB at h; simp only [Bool.and_eq_true] at h; exact h.1.1
theorem rotB_rings {S : Tabs} {cl bu : Int} (h : rotB S cl bu = true) : ringsB S cl bu = true := by unfold rotB at h; simp only [Bool.and_eq_true] at h; exact h.1.2
theorem rotB_h {S : Tabs} {cl bu : Int} (h : rotB S cl bu = true) : rightB S.h 0 100000 = true := limsB_at (rotB_lims h) (k := 0) (by omega)
theorem rotB_g {S : Tabs} {cl bu : Int} (h : rotB S cl bu = true) : rightB S.g 0 100 = true := limsB_at (rotB_lims h) (k := 1) (by omega)
theorem rotB_l {S : Tabs} {cl bu : Int} (h : rotB S cl bu = true) : rightB S.l 0 100000 = true := limsB_at (rotB_lims h) (k := 2) (by omega)
theorem rotB_p {S : Tabs} {cl bu : Int} (h : rotB S cl bu = true) : rightB S.p 0 100000 = true := limsB_at (rotB_lims h) (k := 3) (by omega)
theorem rotB_n {S : Tabs} {cl bu : Int} (h : rotB S cl bu = true) : rightB S.n 0 10000 = true := limsB_at (rotB_lims h) (k := 4) (by omega)
theorem rotB_a {S : Tabs} {cl bu : Int} (h : rotB S cl bu = true) : rightB S.a 0 10000 = true := limsB_at (rotB_lims h) (k := 5) (by omega)
theorem rotB_c {S : Tabs} {cl bu : Int} (h : rotB S cl bu = true) : rightB S.c 0 10000 = true := limsB_at (rotB_lims h) (k := 6) (by omega)
theorem rotB_d {S : Tabs} {cl bu : Int} (h : rotB S cl bu = true) : rightB S.d 1 10000 = true := limsB_at (rotB_lims h) (k := 7) (by omega)
theorem rotB_cl {S : Tabs} {cl bu : Int} (h : rotB S cl bu = true) : 1 ≤ cl ∧ cl ≤ 1000 := by
  have := rotB_rings h; unfold ringsB at this; simp only [Bool.and_eq_true] at this; exact inB_iff.1 this.1.2
theorem rotB_bu {S : Tabs} {cl bu : Int} (h : rotB S cl bu = true) : 1 ≤ bu ∧ bu ≤ 1000 := by
  have := rotB_rings h; unfold ringsB at this; simp only [Bool.and_eq_true] at this; exact inB_iff.1 this.2
theorem rotB_axes {S : Tabs} {cl bu : Int} (h : rotB S cl bu = true) : S.a.X = S.c.X ∧ S.a.Y = S.c.Y := by
  have := rotB_rings h; unfold ringsB at this; simp only [Bool.and_eq_true, decide_eq_true_eq] at this; exact this.1.1

def sel8 {α : Type} (a b c d e f g h : α) : Nat → α
  | 0 => a | 1 => b | 2 => c | 3 => d | 4 => e | 5 => f | 6 => g | _ => h
def sel4 {α : Type} (a b c d : α) : Nat → α
  | 0 => a | 1 => b | 2 => c | _ => d

def airB (wl wh tl th el eh nl nh : Int) : Bool := vspan wl wh && vspan tl th && vspan el eh && vspan nl nh
/-- What check returns. -/
def chkE (rot air bad off : Bool) : Int := if rot then (if air then (if bad || off then 1 else 0) else 21) else 20
theorem chkE_rot {a b c : Bool} : chkE false a b c = 20 := rfl
theorem chkE_air {b c : Bool} : chkE true false b c = 21 := rfl
theorem chkE_bad {c : Bool} : chkE true true true c = 1 := by cases c <;> rfl
theorem chkE_off {b : Bool} : chkE true true b true = 1 := by cases b <;> rfl
theorem chkE_ok : chkE true true false false = 0 := rfl
theorem chkE_zero {r a b c : Bool} (h : chkE r a b c = 0) : r = true ∧ a = true ∧ b = false ∧ c = false := by
  cases r <;> cases a <;> cases b <;> cases c <;> simp [chkE] at h ⊢

theorem Fits.mk' {T : Tbl} {lo hi xl xh yl yh : Int} (h : rightB T lo hi = true) (vx : vspan xl xh = true) (vy : vspan yl yh = true) (hl : lkE T xl xh yl yh = true) : Fits T xl xh yl yh := by
  unfold lkE at hl; simp only [Bool.and_eq_true] at hl
  exact ⟨right_t h, vx, vy, hl.1, hl.2⟩
theorem lkE_pos {T : Tbl} {lo hi : Int} (h : rightB T lo hi = true) : 0 < T.X.length ∧ 0 < T.Y.length := by
  have h1 := axisB_len (tblB_X (right_t h))
  have h2 := axisB_len (tblB_Y (right_t h))
  omega

/-- The power that is needed, that there is, and the margin. -/
def needLo (S : Tabs) (wl wh tl th nl nh sl sh : Int) : Int := bLo S.h wl wh tl th * bLo S.g sl sh nl nh / 100
def needHi (S : Tabs) (wl wh tl th nl nh sl sh : Int) : Int := (bHi S.h wl wh tl th * bHi S.g sl sh nl nh + 99) / 100
def margV (S : Tabs) (wl wh tl th el eh nl nh sl sh : Int) : Int := bLo S.p tl th el eh - needHi S wl wh tl th nl nh sl sh
/-- The rate of climb. -/
def ratV (S : Tabs) (wl wh tl th el eh cl n : Int) : Int := (bLo S.p tl th el eh - bHi S.l n n wl wh) / cl
def wakV (S : Tabs) (wl wh sl sh kl kh : Int) : Bool := decide (bLo S.a sl sh wl wh ≤ kh) && decide (kl ≤ bHi S.c sl sh wl wh)
/-- A number, or 0 behind an error. -/
def okN (e n : Int) : Int := if e = 0 then n else 0
theorem okN_ok {n : Int} : okN 0 n = n := rfl
theorem okN_no {e n : Int} (h : e ≠ 0) : okN e n = 0 := by simp [okN, h]
end Go.Proofs.YtfcjblnebaemgaaGreat

/- Plain law: the greatest weight with a margin. -/
namespace Go.Proofs.YtfcjblnebaemgaaGreat
open Go Go.RowKit Go.Proofs

/-- The last of k numbers from a on for which f holds; a - 1: there is none. -/
def lastI (f : Int → Bool) (a : Int) : Nat → Int
  | 0 => a - 1
  | k + 1 => if f (a + k) = true then a + k else lastI f a k
theorem lastI_eq {f : Int → Bool} {a low : Int} : ∀ k : Nat, (∀ x y, a ≤ x → x ≤ y → y < a + k → f y = true → f x = true) → a - 1 ≤ low → low < a + k → (a ≤ low → f low = true) → (low + 1 < a + k → f (low + 1) = false) → lastI f a k = low
  | 0, _, h1, h2, _, _ => by unfold lastI; omega
  | k + 1, hm, h1, h2, h3, h4 => by
    unfold lastI
    by_cases e : low = a + k
    · have := h3 (by omega)
      rw [e] at this
      rw [if_pos this, e]
    · have hlt : low < a + k := by omega
      have hn : f (a + k) = false := by
        cases hf : f (a + k) with
        | false => rfl
        | true =>
          have := hm (low + 1) (a + k) (by omega) (by omega) (by omega) hf
          rw [h4 (by omega)] at this; cases this
      rw [if_neg (by simp [hn])]
      exact lastI_eq k (fun x y h1 h2 h3 => hm x y h1 h2 (by omega)) h1 hlt h3 (fun h => h4 (by omega))

theorem vspan_iff {l h : Int} : vspan l h = true ↔ -1000000 ≤ l ∧ l ≤ h ∧ h ≤ 1000000 := by
  unfold vspan inB; simp only [Bool.and_eq_true, decide_eq_true_eq]; omega
theorem Fits.sub {T : Tbl} {xl xh yl yh a b : Int} (h : Fits T xl xh yl yh) (h1 : xl ≤ a) (h2 : a ≤ b) (h3 : b ≤ xh) : Fits T a b yl yh := by
  have v := vspan_iff.1 h.vx
  refine ⟨h.t, vspan_iff.2 (by omega), h.vy, ?_, h.ly⟩
  have := h.lx
  unfold liesB at *
  simp only [Bool.and_eq_true, decide_eq_true_eq] at *
  omega

/-- The margin with weights up to n. -/
def marU (S : Tabs) (wl tl th el eh nl nh sl sh n : Int) : Int := margV S wl n tl th el eh nl nh sl sh
theorem marU_anti {S : Tabs} {wl wh tl th el eh nl nh sl sh : Int} (h1 : rightB S.h 0 100000 = true) (h2 : rightB S.g 0 100 = true) (hH : Fits S.h wl wh tl th) (hG : Fits S.g sl sh nl nh) {a b : Int} (ha : wl ≤ a) (hab : a ≤ b) (hb : b ≤ wh) :
    marU S wl tl th el eh nl nh sl sh b ≤ marU S wl tl th el eh nl nh sl sh a := by
  have fa := hH.sub (a := wl) (b := a) (by omega) ha (by omega)
  have fb := hH.sub (a := wl) (b := b) (by omega) (by omega) hb
  have s := (bnd_sub fb fa (by omega) hab (by omega) (by omega)).2
  have lg := bnd_lim h2 hG
  have la := bnd_lim h1 fa
  unfold marU margV needHi
  have m := Int.mul_le_mul_of_nonneg_right s (show 0 ≤ bHi S.g sl sh nl nh by omega)
  omega

def okW (S : Tabs) (wl tl th el eh nl nh sl sh res : Int) (n : Int) : Bool := decide (res ≤ marU S wl tl th el eh nl nh sl sh n)
def heavN (S : Tabs) (wl wh tl th el eh nl nh sl sh res : Int) : Int := lastI (okW S wl tl th el eh nl nh sl sh res) wl (wh - wl + 1).toNat
theorem heavN_eq {S : Tabs} {wl wh tl th el eh nl nh sl sh res low : Int} (h1 : rightB S.h 0 100000 = true) (h2 : rightB S.g 0 100 = true) (hH : Fits S.h wl wh tl th) (hG : Fits S.g sl sh nl nh)
    (g1 : wl - 1 ≤ low) (g2 : low ≤ wh) (g3 : wl ≤ low → okW S wl tl th el eh nl nh sl sh res low = true) (g4 : low < wh → okW S wl tl th el eh nl nh sl sh res (low + 1) = false) :
    heavN S wl wh tl th el eh nl nh sl sh res = low := by
  have hw := vspan_le hH.vx
  unfold heavN
  refine lastI_eq _ (fun x y hx hxy hy hf => ?_) g1 (by omega) g3 (fun h => g4 (by omega))
  unfold okW at *
  have := marU_anti h1 h2 hH hG (el := el) (eh := eh) hx hxy (by omega)
  simp only [decide_eq_true_eq] at *
  omega
end Go.Proofs.YtfcjblnebaemgaaGreat

namespace Go.Proofs.YtfcjblnebaemgaaGreat
open Go Go.RowKit Go.Proofs
set_option maxRecDepth 100000
set_option maxHeartbeats 4000000

theorem over_yes {A C : List (List Int)} {k j : Nat} (hk : k < A.length) (hj : j < (nthR A k).length) (h : decide (nth (nthR C k) j < nth (nthR A k) j) = true) : overB A C = true := by
  unfold overB; rw [List.any_eq_true]; refine ⟨k, List.mem_range.2 hk, ?_⟩
  unfold overRow; rw [List.any_eq_true]; exact ⟨j, List.mem_range.2 hj, h⟩
theorem row_no {a c : List Int} (h : ∀ j, j < a.length → decide (nth c j < nth a j) = false) : overRow a c = false := by
  unfold overRow; rw [List.any_eq_false]; intro j hj; simp [h j (List.mem_range.1 hj)]
theorem over_no {A C : List (List Int)} (h : ∀ j, j < A.length → overRow (nthR A j) (nthR C j) = false) : overB A C = false := by
  unfold overB; rw [List.any_eq_false]; intro j hj; simp [h j (List.mem_range.1 hj)]
theorem Blk.drew {W : World} {g : Nat} {t : TypeId} {cs : Array Value} (h : Blk W g t cs) : Blk W.drew g t cs := h
end Go.Proofs.YtfcjblnebaemgaaGreat

namespace Go.Proofs.YtfcjblnebaemgaaGreat
open Go Go.RowKit Go.Proofs
set_option maxRecDepth 100000
set_option maxHeartbeats 4000000

/-- A pointer to a new block of these cells. -/
def NewBlk (w0 : Nat) (t : TypeId) (cs : Array Value) (v : Value) (w : World) : Prop := ∃ g, v = .pointer (some ⟨g, 0, none⟩) ∧ w0 ≤ g ∧ Blk w g t cs
theorem NewBlk.below {w0 : Nat} {t : TypeId} {cs : Array Value} {v : Value} {w w' : World} (hb : Below w.heap.size w w') (h : NewBlk w0 t cs v w) : NewBlk w0 t cs v w' := by
  obtain ⟨g, rfl, h1, h2⟩ := h; exact ⟨g, rfl, h1, h2.below hb⟩

def needR (w0 : Nat) (m : Value) (lk1 b1 sp lk2 b2 : Value) : Nat → Value → World → Prop
  | 0, v, _ => v = m
  | 1, v, _ => v = lk1
  | 2, v, _ => v = b1
  | 3, v, _ => v = m
  | 4, v, _ => v = sp
  | 5, v, _ => v = lk2
  | 6, v, _ => v = b2
  | 7, v, w => NewBlk w0 23 #[.int .i64 0, .int .i64 0] v w
  | 8, v, w => NewBlk w0 23 #[.int .i64 0, .int .i64 0] v w
  | _, _, _ => True
theorem needR_below {w0 : Nat} {m lk1 b1 sp lk2 b2 : Value} (k : Nat) (v : Value) (w w' : World) (hb : Below w.heap.size w w') (h : needR w0 m lk1 b1 sp lk2 b2 k v w) : needR w0 m lk1 b1 sp lk2 b2 k v w' := by
  unfold needR at *
  split at h <;> first | exact h | exact NewBlk.below hb h

theorem Tryz.rowSpan : RowTy Tryz.prog 23 2 := ⟨by kernel_rfl, by kernel_rfl⟩

end Go.Proofs.YtfcjblnebaemgaaGreat

namespace Go.Proofs.YtfcjblnebaemgaaGreat
open Go Go.RowKit Go.Proofs
set_option maxRecDepth 100000
set_option maxHeartbeats 4000000

/-- What a table's look-up reads as. -/
structure Look where
  T : Tbl
  xl : Int
  xh : Int
  yl : Int
  yh : Int
def Look.on (k : Look) : Bool := lkE k.T k.xl k.xh k.yl k.yh
/-- A slice value that reads as a list of look-ups. -/
def Looks (w : World) (v : Value) (n : Nat) (L : Nat → Look) : Prop :=
  ∃ A c x y u, v = .slice A n c ∧ n ≤ 1000 ∧ LookedsAt w A n x y u (fun i => (L i).xl) (fun i => (L i).xh) (fun i => (L i).yl) (fun i => (L i).yh) ∧ ∀ i, i < n → TblAt w (x i) (y i) (u i) (L i).T ∧ 0 < (L i).T.X.length ∧ 0 < (L i).T.Y.length
def offL (n : Nat) (L : Nat → Look) : Bool := (List.range n).any fun i => !(L i).on

/-- What the closure of the tables does. -/
def Tables (P : Program) (g : Nat) (lb : Array Value) (n : Nat) (L : Nat → Look) (w : World) : Prop :=
  ∀ W, Below w.heap.size w W → Calls P g lb W fun e w' => ∃ v, e = .returned v ∧ Looks w' v n L ∧ Below W.heap.size W w'

def AIR (wl wh tl th el eh nl nh : Int) : Nat → Int × Int
  | 0 => (wl, wh) | 1 => (tl, th) | 2 => (el, eh) | _ => (nl, nh)
theorem airB_no {wl wh tl th el eh nl nh : Int} {k : Nat} (hk : k < 4) (h : vspan (AIR wl wh tl th el eh nl nh k).1 (AIR wl wh tl th el eh nl nh k).2 = false) : airB wl wh tl th el eh nl nh = false := by
  rcases (show k = 0 ∨ k = 1 ∨ k = 2 ∨ k = 3 by omega) with rfl | rfl | rfl | rfl <;> simp only [AIR] at h <;> simp [airB, h]
theorem airB_yes {wl wh tl th el eh nl nh : Int} (h : ∀ k, k < 4 → vspan (AIR wl wh tl th el eh nl nh k).1 (AIR wl wh tl th el eh nl nh k).2 = true) : airB wl wh tl th el eh nl nh = true := by
  have h0 := h 0 (by omega)
  have h1 := h 1 (by omega)
  have h2 := h 2 (by omega)
  have h3 := h 3 (by omega)
  simp only [AIR] at h0 h1 h2 h3
  simp [airB, h0, h1, h2, h3]

theorem SpansAt.below' {w w' : World} {A : Option Addr} {n : Nat} {lo hi : Nat → Int} (h : SpansAt w A n lo hi) (hb : Below w.heap.size w w') : SpansAt w' A n lo hi := by
  intro hn
  obtain ⟨b, off, hA, hlt, hc⟩ := h hn
  exact ⟨b, off, hA, Nat.lt_of_lt_of_le hlt hb.size, fun k hk => ⟨(hb.cell (p := ⟨b, off + k * 2, none⟩) hlt).trans (hc k hk).1, (hb.cell (p := ⟨b, off + k * 2 + 1, none⟩) hlt).trans (hc k hk).2⟩⟩
end Go.Proofs.YtfcjblnebaemgaaGreat

namespace Go.Proofs.YtfcjblnebaemgaaGreat
open Go Go.RowKit Go.Proofs
set_option maxRecDepth 100000
set_option maxHeartbeats 4000000

/-- Two, and three, look-ups. -/
def look1 (a : Look) : Nat → Look := fun _ => a
def look2 (a b : Look) : Nat → Look | 0 => a | _ => b
def look3 (a b c : Look) : Nat → Look | 0 => a | 1 => b | _ => c
theorem offL1 (a : Look) : offL 1 (look1 a) = !a.on := by simp [offL, look1, List.range_succ]
theorem offL2 (a b : Look) : offL 2 (look2 a b) = (!a.on || !b.on) := by simp [offL, look2, List.range_succ]
theorem offL3 (a b c : Look) : offL 3 (look3 a b c) = (!a.on || (!b.on || !c.on)) := by simp [offL, look3, List.range_succ]

theorem looks1 {W : World} {B c : Nat} {t : TypeId} {x y v : Value} {a : Look} (hB : Blk W B t #[x, y, v, .int .i64 a.xl, .int .i64 a.xh, .int .i64 a.yl, .int .i64 a.yh])
    (hT : TblAt W x y v a.T) (h1 : 0 < a.T.X.length) (h2 : 0 < a.T.Y.length) : Looks W (.slice (some ⟨B, 0, none⟩) 1 c) 1 (look1 a) :=
  ⟨_, c, fun _ => x, fun _ => y, fun _ => v, rfl, by omega, fun _ => ⟨B, 0, rfl, hB.lt, fun k hk => by
    obtain rfl : k = 0 := by omega
    exact ⟨hB.cell 0, hB.cell 1, hB.cell 2, hB.cell 3, hB.cell 4, hB.cell 5, hB.cell 6⟩⟩, fun i _ => ⟨hT, h1, h2⟩⟩
theorem looks2 {W : World} {B c : Nat} {t : TypeId} {x y v x' y' v' : Value} {a b : Look}
    (hB : Blk W B t #[x, y, v, .int .i64 a.xl, .int .i64 a.xh, .int .i64 a.yl, .int .i64 a.yh, x', y', v', .int .i64 b.xl, .int .i64 b.xh, .int .i64 b.yl, .int .i64 b.yh])
    (hT : TblAt W x y v a.T) (h1 : 0 < a.T.X.length) (h2 : 0 < a.T.Y.length) (hT' : TblAt W x' y' v' b.T) (h1' : 0 < b.T.X.length) (h2' : 0 < b.T.Y.length) :
    Looks W (.slice (some ⟨B, 0, none⟩) 2 c) 2 (look2 a b) :=
  ⟨_, c, fun | 0 => x | _ => x', fun | 0 => y | _ => y', fun | 0 => v | _ => v', rfl, by omega, fun _ => ⟨B, 0, rfl, hB.lt, fun k hk => by
    rcases (show k = 0 ∨ k = 1 by omega) with rfl | rfl
    · exact ⟨hB.cell 0, hB.cell 1, hB.cell 2, hB.cell 3, hB.cell 4, hB.cell 5, hB.cell 6⟩
    · exact ⟨hB.cell 7, hB.cell 8, hB.cell 9, hB.cell 10, hB.cell 11, hB.cell 12, hB.cell 13⟩⟩, fun i hi => by
    rcases (show i = 0 ∨ i = 1 by omega) with rfl | rfl
    · exact ⟨hT, h1, h2⟩
    · exact ⟨hT', h1', h2'⟩⟩
theorem looks3 {W : World} {B cc : Nat} {t : TypeId} {x y v x' y' v' p q r : Value} {a b c : Look}
    (hB : Blk W B t #[x, y, v, .int .i64 a.xl, .int .i64 a.xh, .int .i64 a.yl, .int .i64 a.yh, x', y', v', .int .i64 b.xl, .int .i64 b.xh, .int .i64 b.yl, .int .i64 b.yh, p, q, r, .int .i64 c.xl, .int .i64 c.xh, .int .i64 c.yl, .int .i64 c.yh])
    (hT : TblAt W x y v a.T) (h1 : 0 < a.T.X.length) (h2 : 0 < a.T.Y.length) (hT' : TblAt W x' y' v' b.T) (h1' : 0 < b.T.X.length) (h2' : 0 < b.T.Y.length) (hU : TblAt W p q r c.T) (g1 : 0 < c.T.X.length) (g2 : 0 < c.T.Y.length) :
    Looks W (.slice (some ⟨B, 0, none⟩) 3 cc) 3 (look3 a b c) :=
  ⟨_, cc, fun | 0 => x | 1 => x' | _ => p, fun | 0 => y | 1 => y' | _ => q, fun | 0 => v | 1 => v' | _ => r, rfl, by omega, fun _ => ⟨B, 0, rfl, hB.lt, fun k hk => by
    rcases (show k = 0 ∨ k = 1 ∨ k = 2 by omega) with rfl | rfl | rfl
    · exact ⟨hB.cell 0, hB.cell 1, hB.cell 2, hB.cell 3, hB.cell 4, hB.cell 5, hB.cell 6⟩
    · exact ⟨hB.cell 7, hB.cell 8, hB.cell 9, hB.cell 10, hB.cell 11, hB.cell 12, hB.cell 13⟩
    · exact ⟨hB.cell 14, hB.cell 15, hB.cell 16, hB.cell 17, hB.cell 18, hB.cell 19, hB.cell 20⟩⟩, fun i hi => by
    rcases (show i = 0 ∨ i = 1 ∨ i = 2 by omega) with rfl | rfl | rfl
    · exact ⟨hT, h1, h2⟩
    · exact ⟨hT', h1', h2'⟩
    · exact ⟨hU, g1, g2⟩⟩

end Go.Proofs.YtfcjblnebaemgaaGreat

namespace Go.Proofs.YtfcjblnebaemgaaGreat
open Go Go.RowKit Go.Proofs
set_option maxRecDepth 100000
set_option maxHeartbeats 4000000

end Go.Proofs.YtfcjblnebaemgaaGreat

namespace Go.Proofs.YtfcjblnebaemgaaGreat
open Go Go.RowKit Go.Proofs
set_option maxRecDepth 100000
set_option maxHeartbeats 4000000

theorem isSl_one {v : Value} (h : IsSl v) : v.oneCell' = true := by obtain ⟨a, n, c, rfl⟩ := h; rfl
theorem RotAt.one {w : World} {hx hy hv gx gy gv lx ly lv px py pv nx ny nv ax ay av cx cy cv dx dy dv : Value} {cl bu : Int} {S : Tabs} (h : RotAt w hx hy hv gx gy gv lx ly lv px py pv nx ny nv ax ay av cx cy cv dx dy dv cl bu S) (wl wh tl th el eh nl nh : Int) : (#[hx, hy, hv, gx, gy, gv, lx, ly, lv, px, py, pv, nx, ny, nv, ax, ay, av, cx, cy, cv, dx, dy, dv, .int .i64 cl, .int .i64 bu, .int .i64 wl, .int .i64 wh, .int .i64 tl, .int .i64 th, .int .i64 el, .int .i64 eh, .int .i64 nl, .int .i64 nh] : Array Value).all (·.oneCell') = true := by
  rw [Array.all_eq_true_iff_forall_mem]
  intro x hx'
  simp only [List.mem_toArray, List.mem_cons, List.not_mem_nil, or_false] at hx'
  rcases hx' with rfl | rfl | rfl | rfl | rfl | rfl | rfl | rfl | rfl | rfl | rfl | rfl | rfl | rfl | rfl | rfl | rfl | rfl | rfl | rfl | rfl | rfl | rfl | rfl | rfl | rfl | rfl | rfl | rfl | rfl | rfl | rfl | rfl | rfl
  any_goals rfl
  · exact isSl_one h.h.s1
  · exact isSl_one h.h.s2
  · exact isSl_one h.h.s3
  · exact isSl_one h.g.s1
  · exact isSl_one h.g.s2
  · exact isSl_one h.g.s3
  · exact isSl_one h.l.s1
  · exact isSl_one h.l.s2
  · exact isSl_one h.l.s3
  · exact isSl_one h.p.s1
  · exact isSl_one h.p.s2
  · exact isSl_one h.p.s3
  · exact isSl_one h.n.s1
  · exact isSl_one h.n.s2
  · exact isSl_one h.n.s3
  · exact isSl_one h.a.s1
  · exact isSl_one h.a.s2
  · exact isSl_one h.a.s3
  · exact isSl_one h.c.s1
  · exact isSl_one h.c.s2
  · exact isSl_one h.c.s3
  · exact isSl_one h.d.s1
  · exact isSl_one h.d.s2
  · exact isSl_one h.d.s3
/-- A whole row into the block that was made last. -/
theorem wpl_store_new {P : Program} {ops : Array Oper} {rest : List Oper} {o : Oper} {a : Act} {w : World} {Q : Exit → Act → World → Prop} (hgd : o.guard = none) (ty : TypeId) (x y : Operand) (ho : o.op = .store ty x y)
    (cells old : Array Value) (g : Nat) (hx : a.eval x = .pointer (some ⟨g, 0, none⟩)) (hg : g = w.heap.size) (hy : a.eval y = .agg cells) (hi : (P.info? ty).map (·.size) = some cells.size)
    (hold : old.size = cells.size) (h1 : cells.all (·.oneCell') = true)
    (h : wpList P ops Q rest (a.put o.dst undef) (w.alloc (.cells cells ty))) : wpList P ops Q (o :: rest) a (w.alloc (.cells old ty)) := by
  subst hg
  refine wpList_store_row hgd ty x y ho w.heap.size cells hx hy ty old (World.alloc_heap_new w _) hi hold h1 ?_
  rw [World.setRow_alloc_new]; exact h

def hasE (S : Tabs) (cl bu : Int) (wl wh tl th el eh nl nh : Int) : Int := chkE (rotB S cl bu) (airB wl wh tl th el eh nl nh) false (!lkE S.p tl th el eh)
def hasLo (S : Tabs) (cl bu : Int) (wl wh tl th el eh nl nh : Int) : Int := okN (hasE S cl bu wl wh tl th el eh nl nh) (bLo S.p tl th el eh)
def hasHi (S : Tabs) (cl bu : Int) (wl wh tl th el eh nl nh : Int) : Int := okN (hasE S cl bu wl wh tl th el eh nl nh) (bHi S.p tl th el eh)
theorem hasE_ok {S : Tabs} {cl bu wl wh tl th el eh nl nh : Int} (h : hasE S cl bu wl wh tl th el eh nl nh = 0) : rotB S cl bu = true ∧ Fits S.p tl th el eh := by
  obtain ⟨h1, h2, -, h3⟩ := chkE_zero h
  unfold airB at h2; simp only [Bool.and_eq_true] at h2
  exact ⟨h1, Fits.mk' (rotB_p h1) h2.1.1.2 h2.1.2 (by simpa using h3)⟩


end Go.Proofs.YtfcjblnebaemgaaGreat
