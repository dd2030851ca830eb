/- Plain law: bilinear values of a table: the same in each part of the axes where a point is; floors, ceilings; the least and the greatest over the corners of a box. -/
import Derived.Test.YtechkkgmdjgddaaGreatSpK
set_option linter.all false
namespace Go.Proofs.YtechkkgmdjgddaaGreat
open Go Go.RowKit

theorem floor_mono {a b c d : Int} (hb : 1 ≤ b) (hd : 1 ≤ d) (h : a * d ≤ c * b) : a / b ≤ c / d := by
  apply Int.le_ediv_of_mul_le (by omega)
  have h1 : a / b * b ≤ a := Int.ediv_mul_le a (by omega)
  have h2 : a / b * b * d ≤ a * d := Int.mul_le_mul_of_nonneg_right h1 (by omega)
  have h3 : (a / b * d) * b ≤ c * b := by
    have e : (a / b * d) * b = a / b * b * d := by grind
    omega
  exact Int.le_of_mul_le_mul_right h3 (by omega)
theorem cdiv_mono {a b c d : Int} (hb : 1 ≤ b) (hd : 1 ≤ d) (h : a * d ≤ c * b) : cdiv a b ≤ cdiv c d := by
  have := floor_mono (a := -c) (b := d) (c := -a) (d := b) hd hb (by rw [Int.neg_mul, Int.neg_mul]; omega)
  unfold cdiv; omega
theorem floor_same {a b c d : Int} (hb : 1 ≤ b) (hd : 1 ≤ d) (h : a * d = c * b) : a / b = c / d :=
  Int.le_antisymm (floor_mono hb hd (by omega)) (floor_mono hd hb (by omega))
theorem cdiv_same {a b c d : Int} (hb : 1 ≤ b) (hd : 1 ≤ d) (h : a * d = c * b) : cdiv a b = cdiv c d :=
  Int.le_antisymm (cdiv_mono hb hd (by omega)) (cdiv_mono hd hb (by omega))

theorem cellP_succ {l : List Int} {x : Int} (h : axisB l = true) : cellP l (x + 1) = cellP l x ∨ (cellP l (x + 1) = cellP l x + 1 ∧ nth l (cellP l x + 1) = x) := by
  have hl := axisB_len h
  obtain ⟨a1, a2, a3⟩ := lowIx_spec (fun k => nth l (k + 1)) (l.length - 1 - 1) x
  obtain ⟨b1, b2, b3⟩ := lowIx_spec (fun k => nth l (k + 1)) (l.length - 1 - 1) (x + 1)
  unfold cellP
  generalize lowIx (fun k => nth l (k + 1)) (l.length - 1 - 1) x = a at *
  generalize lowIx (fun k => nth l (k + 1)) (l.length - 1 - 1) (x + 1) = b at *
  rcases Nat.lt_trichotomy a b with hab | hab | hab
  · right
    have e1 := a3 (by omega)
    have e2 := b2 a hab
    refine ⟨?_, by omega⟩
    by_cases hb : b = a + 1
    · exact hb
    · have e3 := b2 (a + 1) (by omega)
      have e4 := axisB_lt h (show a + 1 < a + 1 + 1 by omega) (by omega)
      try simp only at e1 e2 e3
      omega
  · left; omega
  · have e1 := a2 b hab
    have e2 := b3 (by omega)
    try simp only at e1 e2
    omega

/-- A part of an axis where a number is. -/
def InPart (l : List Int) (i : Nat) (x : Int) : Prop := i + 1 < l.length ∧ nth l i ≤ x ∧ x ≤ nth l (i + 1)
theorem inPart_cellP {l : List Int} {x : Int} (h : axisB l = true) (h0 : nth l 0 ≤ x) (h1 : x ≤ nth l (l.length - 1)) : InPart l (cellP l x) x :=
  ⟨cellP_lt h x, (cellP_in h h0 h1).1, (cellP_in h h0 h1).2⟩
/-- Two parts where one number is: one, or neighbours. -/
theorem inPart_two {l : List Int} {i j : Nat} {x : Int} (h : axisB l = true) (hi : InPart l i x) (hj : InPart l j x) : i = j ∨ (j = i + 1 ∧ x = nth l (i + 1)) ∨ (i = j + 1 ∧ x = nth l (j + 1)) := by
  obtain ⟨a1, a2, a3⟩ := hi
  obtain ⟨b1, b2, b3⟩ := hj
  rcases Nat.lt_trichotomy i j with hij | hij | hij
  · right; left
    have e1 := axisB_le h (show i + 1 ≤ j by omega) (by omega)
    refine ⟨?_, by omega⟩
    by_cases e : j = i + 1
    · exact e
    · have := axisB_lt h (show i + 1 < j by omega) (by omega); omega
  · left; exact hij
  · right; right
    have e1 := axisB_le h (show j + 1 ≤ i by omega) (by omega)
    refine ⟨?_, by omega⟩
    by_cases e : i = j + 1
    · exact e
    · have := axisB_lt h (show j + 1 < i by omega) (by omega); omega

theorem den_eq (T : Tbl) (i k : Nat) (x y : Int) : den T i k x y = (nth T.X (i + 1) - nth T.X i) * (nth T.Y (k + 1) - nth T.Y k) := by
  unfold den; rw [show nth T.X (i + 1) - x + (x - nth T.X i) = nth T.X (i + 1) - nth T.X i by omega, show nth T.Y (k + 1) - y + (y - nth T.Y k) = nth T.Y (k + 1) - nth T.Y k by omega]
theorem num_stepX (T : Tbl) (i k : Nat) (y : Int) : num T i k (nth T.X (i + 1)) y * den T (i + 1) k (nth T.X (i + 1)) y = num T (i + 1) k (nth T.X (i + 1)) y * den T i k (nth T.X (i + 1)) y := by
  rw [den_eq, den_eq]; unfold num; grind
theorem num_stepY (T : Tbl) (i k : Nat) (x : Int) : num T i k x (nth T.Y (k + 1)) * den T i (k + 1) x (nth T.Y (k + 1)) = num T i (k + 1) x (nth T.Y (k + 1)) * den T i k x (nth T.Y (k + 1)) := by
  rw [den_eq, den_eq]; unfold num; grind
theorem den_pos {T : Tbl} {i k : Nat} (x y : Int) (hX : axisB T.X = true) (hY : axisB T.Y = true) (hi : i + 1 < T.X.length) (hk : k + 1 < T.Y.length) : 1 ≤ den T i k x y := by
  rw [den_eq]
  have si := axisB_step hX hi
  have sk := axisB_step hY hk
  have p : 1 * 1 ≤ (nth T.X (i + 1) - nth T.X i) * (nth T.Y (k + 1) - nth T.Y k) := Int.mul_le_mul (by omega) (by omega) (by omega) (by omega)
  omega
theorem cross_trans {a b c d e f : Int} (hd : 1 ≤ d) (h1 : a * d = c * b) (h2 : c * f = e * d) : a * f = e * b := by
  have : (a * f) * d = (e * b) * d := by
    have e1 : (a * f) * d = a * d * f := by grind
    have e2 : (e * b) * d = e * d * b := by grind
    rw [e1, e2, h1, ← h2]; grind
  exact Int.eq_of_mul_eq_mul_right (by omega) this
theorem num_partX {T : Tbl} {i j k : Nat} {x : Int} (y : Int) (hX : axisB T.X = true) (hi : InPart T.X i x) (hj : InPart T.X j x) : num T i k x y * den T j k x y = num T j k x y * den T i k x y := by
  rcases inPart_two hX hi hj with rfl | ⟨rfl, rfl⟩ | ⟨rfl, rfl⟩
  · rfl
  · exact num_stepX T i k y
  · exact (num_stepX T j k y).symm
theorem num_partY {T : Tbl} {i k m : Nat} {y : Int} (x : Int) (hY : axisB T.Y = true) (hk : InPart T.Y k y) (hm : InPart T.Y m y) : num T i k x y * den T i m x y = num T i m x y * den T i k x y := by
  rcases inPart_two hY hk hm with rfl | ⟨rfl, rfl⟩ | ⟨rfl, rfl⟩
  · rfl
  · exact num_stepY T i k x
  · exact (num_stepY T i m x).symm
theorem num_part {T : Tbl} {i j k m : Nat} {x y : Int} (hX : axisB T.X = true) (hY : axisB T.Y = true) (hi : InPart T.X i x) (hj : InPart T.X j x) (hk : InPart T.Y k y) (hm : InPart T.Y m y) :
    num T i k x y * den T j m x y = num T j m x y * den T i k x y :=
  cross_trans (c := num T j k x y) (d := den T j k x y) (den_pos x y hX hY hj.1 hk.1) (num_partX y hX hi hj) (num_partY x hY hk hm)

/-- The value of a table at a point, rounded down, and up. -/
def flo (T : Tbl) (x y : Int) : Int := numP T x y / denP T x y
def cei (T : Tbl) (x y : Int) : Int := cdiv (numP T x y) (denP T x y)

theorem flo_part {T : Tbl} {i k : Nat} {x y : Int} (hX : axisB T.X = true) (hY : axisB T.Y = true) (hO : OnT T x y) (hi : InPart T.X i x) (hk : InPart T.Y k y) :
    num T i k x y / den T i k x y = flo T x y ∧ cdiv (num T i k x y) (den T i k x y) = cei T x y := by
  obtain ⟨h1, h2, h3, h4⟩ := hO
  have px := inPart_cellP hX h1 h2
  have py := inPart_cellP hY h3 h4
  have e := num_part hX hY hi px hk py
  have d1 := den_pos x y hX hY hi.1 hk.1
  have d2 := den_pos x y hX hY px.1 py.1
  exact ⟨floor_same d1 d2 e, cdiv_same d1 d2 e⟩

/-- The parts that the reference finds. -/
theorem flo_ref {T : Tbl} {x y : Int} (hX : axisB T.X = true) (hY : axisB T.Y = true) (hO : OnT T x y) :
    InPart T.X (cellP T.X (x + 1)) x ∧ InPart T.Y (cellP T.Y (y + 1)) y := by
  have one : ∀ {l : List Int} {x : Int}, axisB l = true → nth l 0 ≤ x → x ≤ nth l (l.length - 1) → InPart l (cellP l (x + 1)) x := by
    intro l x h h0 h1
    have p := inPart_cellP h h0 h1
    rcases cellP_succ (x := x) h with e | ⟨e, e2⟩
    · rw [e]; exact p
    · have hlt := cellP_lt h (x + 1)
      rw [e] at hlt ⊢
      have := axisB_lt h (show cellP l x + 1 < cellP l x + 1 + 1 by omega) hlt
      exact ⟨hlt, by omega, by omega⟩
  obtain ⟨h1, h2, h3, h4⟩ := hO
  exact ⟨one hX h1 h2, one hY h3 h4⟩

/-- Pairs of numbers of two lists. -/
def pairs (xs ys : List Int) : List (Int × Int) := xs.flatMap fun x => ys.map fun y => (x, y)
def mnF (T : Tbl) (a : Int) (l : List (Int × Int)) : Int := l.foldl (fun m p => min m (flo T p.1 p.2)) a
def mxF (T : Tbl) (a : Int) (l : List (Int × Int)) : Int := l.foldl (fun m p => max m (cei T p.1 p.2)) a
theorem mnF_snoc (T : Tbl) (a : Int) (l : List (Int × Int)) (p : Int × Int) : mnF T a (l ++ [p]) = min (mnF T a l) (flo T p.1 p.2) := by simp [mnF]
theorem mxF_snoc (T : Tbl) (a : Int) (l : List (Int × Int)) (p : Int × Int) : mxF T a (l ++ [p]) = max (mxF T a l) (cei T p.1 p.2) := by simp [mxF]
theorem mnF_spec (T : Tbl) (l : List (Int × Int)) : ∀ a, mnF T a l ≤ a ∧ (∀ p ∈ l, mnF T a l ≤ flo T p.1 p.2) ∧ (mnF T a l = a ∨ ∃ p ∈ l, mnF T a l = flo T p.1 p.2) := by
  induction l with
  | nil => intro a; simp [mnF]
  | cons q l ih =>
    intro a
    have e : mnF T a (q :: l) = mnF T (min a (flo T q.1 q.2)) l := rfl
    obtain ⟨h1, h2, h3⟩ := ih (min a (flo T q.1 q.2))
    rw [e]
    refine ⟨by omega, fun p hp => ?_, ?_⟩
    · rcases List.mem_cons.1 hp with rfl | hp
      · omega
      · exact h2 p hp
    · rcases h3 with h3 | ⟨p, hp, h3⟩
      · rcases (show min a (flo T q.1 q.2) = a ∨ min a (flo T q.1 q.2) = flo T q.1 q.2 by omega) with e | e
        · left; omega
        · right; exact ⟨q, by simp, by omega⟩
      · right; exact ⟨p, by simp [hp], h3⟩
theorem mxF_spec (T : Tbl) (l : List (Int × Int)) : ∀ a, a ≤ mxF T a l ∧ (∀ p ∈ l, cei T p.1 p.2 ≤ mxF T a l) ∧ (mxF T a l = a ∨ ∃ p ∈ l, mxF T a l = cei T p.1 p.2) := by
  induction l with
  | nil => intro a; simp [mxF]
  | cons q l ih =>
    intro a
    have e : mxF T a (q :: l) = mxF T (max a (cei T q.1 q.2)) l := rfl
    obtain ⟨h1, h2, h3⟩ := ih (max a (cei T q.1 q.2))
    rw [e]
    refine ⟨by omega, fun p hp => ?_, ?_⟩
    · rcases List.mem_cons.1 hp with rfl | hp
      · omega
      · exact h2 p hp
    · rcases h3 with h3 | ⟨p, hp, h3⟩
      · rcases (show max a (cei T q.1 q.2) = a ∨ max a (cei T q.1 q.2) = cei T q.1 q.2 by omega) with e | e
        · left; omega
        · right; exact ⟨q, by simp, by omega⟩
      · right; exact ⟨p, by simp [hp], h3⟩

/-- The least floor, and the greatest ceiling, over the corners of a box, as the reference finds them. -/
def bLo (T : Tbl) (xl xh yl yh : Int) : Int := mnF T (flo T (nth (stopsL T.X xl xh) 0) (nth (stopsL T.Y yl yh) 0)) (pairs (stopsL T.X xl xh) (stopsL T.Y yl yh))
def bHi (T : Tbl) (xl xh yl yh : Int) : Int := mxF T (cei T (nth (stopsL T.X xl xh) 0) (nth (stopsL T.Y yl yh) 0)) (pairs (stopsL T.X xl xh) (stopsL T.Y yl yh))

theorem mem_pairs {xs ys : List Int} {p : Int × Int} : p ∈ pairs xs ys ↔ p.1 ∈ xs ∧ p.2 ∈ ys := by
  unfold pairs
  simp only [List.mem_flatMap, List.mem_map]
  constructor
  · rintro ⟨x, hx, y, hy, rfl⟩; exact ⟨hx, hy⟩
  · rintro ⟨hx, hy⟩; exact ⟨p.1, hx, p.2, hy, rfl⟩
theorem mem_corners {T : Tbl} {xs ys : List Int} {q : Pt} : q ∈ cornersL T xs ys ↔ ∃ x ∈ xs, ∃ y ∈ ys, q = mkPt T x y := by
  unfold cornersL
  simp only [List.mem_flatMap, List.mem_map]
  constructor
  · rintro ⟨x, hx, y, hy, rfl⟩; exact ⟨x, hx, y, hy, rfl⟩
  · rintro ⟨x, hx, y, hy, rfl⟩; exact ⟨x, hx, y, hy, rfl⟩
theorem nth0_mem {xs : List Int} (h : 0 < xs.length) : nth xs 0 ∈ xs := nth_mem xs 0 h
theorem mem_stopsL {xs : List Int} {lo hi x : Int} (hlh : lo ≤ hi) (h : x ∈ stopsL xs lo hi) : lo ≤ x ∧ x ≤ hi := by
  obtain ⟨k, hk, rfl⟩ := List.getElem_of_mem h
  have := stopsL_in (xs := xs) hlh hk
  rwa [nth_getElem _ _ hk] at this
theorem Fits.on {T : Tbl} {xl xh yl yh x y : Int} (h : Fits T xl xh yl yh) (hx : xl ≤ x ∧ x ≤ xh) (hy : yl ≤ y ∧ y ≤ yh) : OnT T x y := by
  have h1 := h.lx
  have h2 := h.ly
  unfold liesB at h1 h2
  simp only [Bool.and_eq_true, decide_eq_true_eq] at h1 h2
  exact ⟨by omega, by omega, by omega, by omega⟩

theorem bnd_eq {T : Tbl} {xl xh yl yh : Int} (h : Fits T xl xh yl yh) : bndLo T xl xh yl yh = bLo T xl xh yl yh ∧ bndHi T xl xh yl yh = bHi T xl xh yl yh := by
  have hx := vspan_le h.vx
  have hy := vspan_le h.vy
  have nx := stopsL_pos T.X xl xh
  have ny := stopsL_pos T.Y yl yh
  have on : ∀ x ∈ stopsL T.X xl xh, ∀ y ∈ stopsL T.Y yl yh, OnT T x y := fun x hx' y hy' => h.on (mem_stopsL hx hx') (mem_stopsL hy hy')
  have mk : ∀ x ∈ stopsL T.X xl xh, ∀ y ∈ stopsL T.Y yl yh, (mkPt T x y).n / (mkPt T x y).d = flo T x y ∧ cdiv (mkPt T x y).n (mkPt T x y).d = cei T x y := by
    intro x hx' y hy'
    obtain ⟨e1, e2⟩ := mkPt_n h.t (on x hx' y hy')
    rw [e1, e2]; exact ⟨rfl, rfl⟩
  have m0 : (nth (stopsL T.X xl xh) 0, nth (stopsL T.Y yl yh) 0) ∈ pairs (stopsL T.X xl xh) (stopsL T.Y yl yh) := mem_pairs.2 ⟨nth0_mem nx, nth0_mem ny⟩
  constructor
  · obtain ⟨p, hp, hm, hl⟩ := leastO_some _ (cornersL_ne T _ _ nx ny)
    rw [bndLo_eq hp]
    obtain ⟨s1, s2, s3⟩ := mnF_spec T (pairs (stopsL T.X xl xh) (stopsL T.Y yl yh)) (flo T (nth (stopsL T.X xl xh) 0) (nth (stopsL T.Y yl yh) 0))
    unfold bLo
    obtain ⟨x, hx', y, hy', rfl⟩ := mem_corners.1 hm
    have a1 := s2 (x, y) (mem_pairs.2 ⟨hx', hy'⟩)
    rw [(mk x hx' y hy').1]
    simp only at a1
    have low : ∀ q ∈ pairs (stopsL T.X xl xh) (stopsL T.Y yl yh), flo T x y ≤ flo T q.1 q.2 := by
      intro q hq
      obtain ⟨q1, q2⟩ := mem_pairs.1 hq
      have := hl _ (mem_corners.2 ⟨q.1, q1, q.2, q2, rfl⟩)
      have := floor_mono (mkPt T x y).hd.1 (mkPt T q.1 q.2).hd.1 this
      rw [(mk _ q1 _ q2).1, (mk x hx' y hy').1] at this
      exact this
    rcases s3 with s3 | ⟨q, hq, s3⟩
    · have := low _ m0; simp only at this; omega
    · have := low q hq; omega
  · obtain ⟨p, hp, hm, hl⟩ := mostO_some _ (cornersL_ne T _ _ nx ny)
    rw [bndHi_eq hp]
    obtain ⟨s1, s2, s3⟩ := mxF_spec T (pairs (stopsL T.X xl xh) (stopsL T.Y yl yh)) (cei T (nth (stopsL T.X xl xh) 0) (nth (stopsL T.Y yl yh) 0))
    unfold bHi
    obtain ⟨x, hx', y, hy', rfl⟩ := mem_corners.1 hm
    have a1 := s2 (x, y) (mem_pairs.2 ⟨hx', hy'⟩)
    rw [(mk x hx' y hy').2]
    simp only at a1
    have low : ∀ q ∈ pairs (stopsL T.X xl xh) (stopsL T.Y yl yh), cei T q.1 q.2 ≤ cei T x y := by
      intro q hq
      obtain ⟨q1, q2⟩ := mem_pairs.1 hq
      have := hl _ (mem_corners.2 ⟨q.1, q1, q.2, q2, rfl⟩)
      have := cdiv_mono (mkPt T q.1 q.2).hd.1 (mkPt T x y).hd.1 this
      rw [(mk _ q1 _ q2).2, (mk x hx' y hy').2] at this
      exact this
    rcases s3 with s3 | ⟨q, hq, s3⟩
    · have := low _ m0; simp only at this; omega
    · have := low q hq; omega
end Go.Proofs.YtechkkgmdjgddaaGreat
