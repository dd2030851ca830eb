/- Plain law: at no point of a box is the value of a table beyond those at the corners of its parts; values within limits. -/
import Derived.Test.YtechkkgmdjgddaaGreatLwA
import Derived.Test.YtechkkgmdjgddaaGreatRoC
set_option linter.all false
namespace Go.Proofs.YtechkkgmdjgddaaGreat
open Go Go.RowKit

theorem stops_lo {xs : List Int} {lo hi : Int} : lo ∈ stopsL xs lo hi := by simp [stopsL, stopsF]
theorem stops_hi {xs : List Int} {lo hi : Int} (h : lo ≤ hi) : hi ∈ stopsL xs lo hi := by
  by_cases e : lo < hi
  · simp [stopsL, e]
  · obtain rfl : lo = hi := by omega
    exact stops_lo
theorem stops_mid {xs : List Int} {lo hi x : Int} (hx : x ∈ xs) (h1 : lo < x) (h2 : x < hi) : x ∈ stopsL xs lo hi := by
  simp [stopsL, stopsF, hx, h1, h2]

/-- Two stops with a number between them, all in one part. -/
theorem between {xs : List Int} {lo hi x : Int} (h : axisB xs = true) (h0 : nth xs 0 ≤ x) (h1 : x ≤ nth xs (xs.length - 1)) (hl : lo ≤ x) (hh : x ≤ hi) :
    ∃ i s t, s ∈ stopsL xs lo hi ∧ t ∈ stopsL xs lo hi ∧ InPart xs i s ∧ InPart xs i t ∧ InPart xs i x ∧ s ≤ x ∧ x ≤ t := by
  obtain ⟨p1, p2, p3⟩ := inPart_cellP h h0 h1
  generalize cellP xs x = i at *
  have m0 := nth_mem xs i (by omega)
  have m1 := nth_mem xs (i + 1) p1
  have hs : ∃ s, s ∈ stopsL xs lo hi ∧ nth xs i ≤ s ∧ s ≤ x := by
    by_cases e : nth xs i ≤ lo
    · exact ⟨lo, stops_lo, e, hl⟩
    · by_cases e2 : nth xs i < hi
      · exact ⟨_, stops_mid m0 (by omega) e2, Int.le_refl _, p2⟩
      · exact ⟨hi, stops_hi (by omega), by omega, by omega⟩
  have ht : ∃ t, t ∈ stopsL xs lo hi ∧ t ≤ nth xs (i + 1) ∧ x ≤ t := by
    by_cases e : hi ≤ nth xs (i + 1)
    · exact ⟨hi, stops_hi (by omega), e, hh⟩
    · by_cases e2 : lo < nth xs (i + 1)
      · exact ⟨_, stops_mid m1 e2 (by omega), Int.le_refl _, p3⟩
      · exact ⟨lo, stops_lo, by omega, by omega⟩
  obtain ⟨s, s1, s2, s3⟩ := hs
  obtain ⟨t, t1, t2, t3⟩ := ht
  exact ⟨i, s, t, s1, t1, ⟨p1, s2, by omega⟩, ⟨p1, by omega, t2⟩, ⟨p1, p2, p3⟩, s3, t3⟩

theorem convex {a b c p q : Int} (hp : 0 ≤ p) (hq : 0 ≤ q) (h : c * (p + q) = a * p + b * q) (h0 : 0 < p + q) : (a ≤ c ∨ b ≤ c) ∧ (c ≤ a ∨ c ≤ b) := by
  constructor
  · by_cases e : a ≤ c
    · left; exact e
    · by_cases e2 : b ≤ c
      · right; exact e2
      · exfalso
        have h1 : (c + 1) * p ≤ a * p := Int.mul_le_mul_of_nonneg_right (by omega) hp
        have h2 : (c + 1) * q ≤ b * q := Int.mul_le_mul_of_nonneg_right (by omega) hq
        have h3 : (c + 1) * p + (c + 1) * q = c * (p + q) + (p + q) := by grind
        omega
  · by_cases e : c ≤ a
    · left; exact e
    · by_cases e2 : c ≤ b
      · right; exact e2
      · exfalso
        have h1 : a * p ≤ (c - 1) * p := Int.mul_le_mul_of_nonneg_right (by omega) hp
        have h2 : b * q ≤ (c - 1) * q := Int.mul_le_mul_of_nonneg_right (by omega) hq
        have h3 : (c - 1) * p + (c - 1) * q = c * (p + q) - (p + q) := by grind
        omega

theorem num_x (T : Tbl) (i k : Nat) (s t x y : Int) : num T i k x y * ((t - x) + (x - s)) = num T i k s y * (t - x) + num T i k t y * (x - s) := by unfold num; grind
theorem num_y (T : Tbl) (i k : Nat) (s t x y : Int) : num T i k x y * ((t - y) + (y - s)) = num T i k x s * (t - y) + num T i k x t * (y - s) := by unfold num; grind
theorem cdiv_le {a b d : Int} (hd : 1 ≤ d) (h : a ≤ b) : cdiv a d ≤ cdiv b d := by
  have := Int.ediv_le_ediv (show 0 < d by omega) (show -b ≤ -a by omega); unfold cdiv; omega

theorem ends_x {T : Tbl} {i k : Nat} {s t x y : Int} (hX : axisB T.X = true) (hY : axisB T.Y = true) (os : OnT T s y) (ot : OnT T t y) (ox : OnT T x y)
    (ps : InPart T.X i s) (pt : InPart T.X i t) (px : InPart T.X i x) (py : InPart T.Y k y) (h1 : s ≤ x) (h2 : x ≤ t) :
    (flo T s y ≤ flo T x y ∨ flo T t y ≤ flo T x y) ∧ (cei T x y ≤ cei T s y ∨ cei T x y ≤ cei T t y) := by
  by_cases e : s = t
  · obtain rfl : s = x := by omega
    exact ⟨Or.inl (Int.le_refl _), Or.inl (Int.le_refl _)⟩
  obtain ⟨a1, a2⟩ := flo_part hX hY os ps py
  obtain ⟨b1, b2⟩ := flo_part hX hY ot pt py
  obtain ⟨c1, c2⟩ := flo_part hX hY ox px py
  have d0 := den_pos x y hX hY px.1 py.1
  rw [den_eq] at a1 a2 b1 b2 c1 c2 d0
  generalize (nth T.X (i + 1) - nth T.X i) * (nth T.Y (k + 1) - nth T.Y k) = D at *
  rw [← a1, ← a2, ← b1, ← b2, ← c1, ← c2]
  obtain ⟨g1, g2⟩ := convex (by omega) (by omega) (num_x T i k s t x y) (by omega)
  constructor
  · rcases g1 with g | g
    · left; exact Int.ediv_le_ediv (by omega) g
    · right; exact Int.ediv_le_ediv (by omega) g
  · rcases g2 with g | g
    · left; exact cdiv_le d0 g
    · right; exact cdiv_le d0 g
theorem ends_y {T : Tbl} {i k : Nat} {s t x y : Int} (hX : axisB T.X = true) (hY : axisB T.Y = true) (os : OnT T x s) (ot : OnT T x t) (ox : OnT T x y)
    (ps : InPart T.Y k s) (pt : InPart T.Y k t) (py : InPart T.Y k y) (px : InPart T.X i x) (h1 : s ≤ y) (h2 : y ≤ t) :
    (flo T x s ≤ flo T x y ∨ flo T x t ≤ flo T x y) ∧ (cei T x y ≤ cei T x s ∨ cei T x y ≤ cei T x t) := by
  by_cases e : s = t
  · obtain rfl : s = y := by omega
    exact ⟨Or.inl (Int.le_refl _), Or.inl (Int.le_refl _)⟩
  obtain ⟨a1, a2⟩ := flo_part hX hY os px ps
  obtain ⟨b1, b2⟩ := flo_part hX hY ot px pt
  obtain ⟨c1, c2⟩ := flo_part hX hY ox px py
  have d0 := den_pos x y hX hY px.1 py.1
  rw [den_eq] at a1 a2 b1 b2 c1 c2 d0
  generalize (nth T.X (i + 1) - nth T.X i) * (nth T.Y (k + 1) - nth T.Y k) = D at *
  rw [← a1, ← a2, ← b1, ← b2, ← c1, ← c2]
  obtain ⟨g1, g2⟩ := convex (by omega) (by omega) (num_y T i k s t x y) (by omega)
  constructor
  · rcases g1 with g | g
    · left; exact Int.ediv_le_ediv (by omega) g
    · right; exact Int.ediv_le_ediv (by omega) g
  · rcases g2 with g | g
    · left; exact cdiv_le d0 g
    · right; exact cdiv_le d0 g

/-- The value at a point of a box is not beyond the bounds of the box. -/
theorem bnd_at {T : Tbl} {xl xh yl yh x y : Int} (h : Fits T xl xh yl yh) (hx : xl ≤ x ∧ x ≤ xh) (hy : yl ≤ y ∧ y ≤ yh) : bLo T xl xh yl yh ≤ flo T x y ∧ cei T x y ≤ bHi T xl xh yl yh := by
  have hX := tblB_X h.t
  have hY := tblB_Y h.t
  have O := h.on hx hy
  obtain ⟨o1, o2, o3, o4⟩ := id O
  obtain ⟨i, s, t, s1, t1, ps, pt, px, h1, h2⟩ := between (lo := xl) (hi := xh) hX o1 o2 hx.1 hx.2
  obtain ⟨k, u, v, u1, v1, qu, qv, qy, g1, g2⟩ := between (lo := yl) (hi := yh) hY o3 o4 hy.1 hy.2
  have bx := vspan_le h.vx
  have by_ := vspan_le h.vy
  have S := mem_stopsL bx s1
  have Tt := mem_stopsL bx t1
  have U := mem_stopsL by_ u1
  have V := mem_stopsL by_ v1
  obtain ⟨l1, l2⟩ := ends_x hX hY (h.on S hy) (h.on Tt hy) O ps pt px qy h1 h2
  have cor : ∀ z ∈ stopsL T.X xl xh, ∀ r ∈ stopsL T.Y yl yh, bLo T xl xh yl yh ≤ flo T z r ∧ cei T z r ≤ bHi T xl xh yl yh := fun z hz r hr =>
    ⟨(mnF_spec T _ _).2.1 (z, r) (mem_pairs.2 ⟨hz, hr⟩), (mxF_spec T _ _).2.1 (z, r) (mem_pairs.2 ⟨hz, hr⟩)⟩
  have col : ∀ z ∈ stopsL T.X xl xh, InPart T.X i z → bLo T xl xh yl yh ≤ flo T z y ∧ cei T z y ≤ bHi T xl xh yl yh := by
    intro z hz pz
    have Z := mem_stopsL bx hz
    obtain ⟨m1, m2⟩ := ends_y hX hY (h.on Z U) (h.on Z V) (h.on Z hy) qu qv qy pz g1 g2
    have c1 := cor z hz u u1
    have c2 := cor z hz v v1
    constructor
    · rcases m1 with m | m <;> omega
    · rcases m2 with m | m <;> omega
  have c1 := col s s1 ps
  have c2 := col t t1 pt
  constructor
  · rcases l1 with m | m <;> omega
  · rcases l2 with m | m <;> omega

theorem bLo_is {T : Tbl} {xl xh yl yh : Int} (h : Fits T xl xh yl yh) : ∃ x y, (xl ≤ x ∧ x ≤ xh) ∧ (yl ≤ y ∧ y ≤ yh) ∧ bLo T xl xh yl yh = flo T x y := by
  have bx := vspan_le h.vx
  have by_ := vspan_le h.vy
  rcases (mnF_spec T (pairs (stopsL T.X xl xh) (stopsL T.Y yl yh)) (flo T (nth (stopsL T.X xl xh) 0) (nth (stopsL T.Y yl yh) 0))).2.2 with e | ⟨p, hp, e⟩
  · exact ⟨_, _, mem_stopsL bx (nth0_mem (stopsL_pos _ _ _)), mem_stopsL by_ (nth0_mem (stopsL_pos _ _ _)), e⟩
  · obtain ⟨p1, p2⟩ := mem_pairs.1 hp
    exact ⟨_, _, mem_stopsL bx p1, mem_stopsL by_ p2, e⟩
theorem bHi_is {T : Tbl} {xl xh yl yh : Int} (h : Fits T xl xh yl yh) : ∃ x y, (xl ≤ x ∧ x ≤ xh) ∧ (yl ≤ y ∧ y ≤ yh) ∧ bHi T xl xh yl yh = cei T x y := by
  have bx := vspan_le h.vx
  have by_ := vspan_le h.vy
  rcases (mxF_spec T (pairs (stopsL T.X xl xh) (stopsL T.Y yl yh)) (cei T (nth (stopsL T.X xl xh) 0) (nth (stopsL T.Y yl yh) 0))).2.2 with e | ⟨p, hp, e⟩
  · exact ⟨_, _, mem_stopsL bx (nth0_mem (stopsL_pos _ _ _)), mem_stopsL by_ (nth0_mem (stopsL_pos _ _ _)), e⟩
  · obtain ⟨p1, p2⟩ := mem_pairs.1 hp
    exact ⟨_, _, mem_stopsL bx p1, mem_stopsL by_ p2, e⟩

/-- A smaller box has narrower bounds. -/
theorem bnd_sub {T : Tbl} {xl xh yl yh al ah bl bh : Int} (h : Fits T xl xh yl yh) (g : Fits T al ah bl bh) (h1 : xl ≤ al) (h2 : ah ≤ xh) (h3 : yl ≤ bl) (h4 : bh ≤ yh) :
    bLo T xl xh yl yh ≤ bLo T al ah bl bh ∧ bHi T al ah bl bh ≤ bHi T xl xh yl yh := by
  obtain ⟨x, y, hx, hy, e⟩ := bLo_is g
  obtain ⟨x', y', hx', hy', e'⟩ := bHi_is g
  rw [e, e']
  exact ⟨(bnd_at h (by omega) (by omega)).1, (bnd_at h (by omega) (by omega)).2⟩

/-- Values within limits. -/
theorem right_val {T : Tbl} {lo hi : Int} (h : rightB T lo hi = true) {i k : Nat} (hi' : i < T.X.length) (hk : k < T.Y.length) : lo ≤ nth (nthR T.V i) k ∧ nth (nthR T.V i) k ≤ hi := by
  unfold rightB at h
  simp only [Bool.and_eq_true, Bool.not_eq_true'] at h
  obtain ⟨ht, ho⟩ := h
  have lV := tblB_len ht
  have hr := (tblB_row ht (show i < T.V.length by omega)).1
  unfold offB at ho
  rw [List.any_eq_false] at ho
  have := ho i (List.mem_range.2 (by omega))
  unfold rowOff at this
  simp only [Bool.not_eq_true] at this
  rw [List.any_eq_false] at this
  have := this k (List.mem_range.2 (by omega))
  exact inB_iff.1 (by simpa using this)
theorem right_t {T : Tbl} {lo hi : Int} (h : rightB T lo hi = true) : tblB T = true := by
  unfold rightB at h; simp only [Bool.and_eq_true] at h; exact h.1
theorem flo_lim {T : Tbl} {lo hi x y : Int} (h : rightB T lo hi = true) (hO : OnT T x y) : lo ≤ flo T x y ∧ flo T x y ≤ cei T x y ∧ cei T x y ≤ hi := by
  have ht := right_t h
  have hX := tblB_X ht
  have hY := tblB_Y ht
  obtain ⟨o1, o2, o3, o4⟩ := id hO
  obtain ⟨p1, p2, p3⟩ := inPart_cellP hX o1 o2
  obtain ⟨q1, q2, q3⟩ := inPart_cellP hY o3 o4
  have d := den_pos x y hX hY p1 q1
  have v0 := right_val h (i := cellP T.X x) (k := cellP T.Y y) (by omega) (by omega)
  have v1 := right_val h (i := cellP T.X x + 1) (k := cellP T.Y y) (by omega) (by omega)
  have v2 := right_val h (i := cellP T.X x) (k := cellP T.Y y + 1) (by omega) (by omega)
  have v3 := right_val h (i := cellP T.X x + 1) (k := cellP T.Y y + 1) (by omega) (by omega)
  have key : lo * denP T x y ≤ numP T x y ∧ numP T x y ≤ hi * denP T x y := by
    unfold denP numP num den
    generalize cellP T.X x = i at *
    generalize cellP T.Y y = k at *
    have a0 : 0 ≤ nth T.X (i + 1) - x := by omega
    have b0 : 0 ≤ x - nth T.X i := by omega
    have c0 : 0 ≤ nth T.Y (k + 1) - y := by omega
    have d0 : 0 ≤ y - nth T.Y k := by omega
    generalize nth T.X (i + 1) - x = A at *
    generalize x - nth T.X i = B at *
    generalize nth T.Y (k + 1) - y = C at *
    generalize y - nth T.Y k = D at *
    generalize nth (nthR T.V i) k = w0 at *
    generalize nth (nthR T.V (i + 1)) k = w1 at *
    generalize nth (nthR T.V i) (k + 1) = w2 at *
    generalize nth (nthR T.V (i + 1)) (k + 1) = w3 at *
    have m1 := Int.mul_nonneg a0 c0
    have m2 := Int.mul_nonneg b0 c0
    have m3 := Int.mul_nonneg a0 d0
    have m4 := Int.mul_nonneg b0 d0
    have e : (A + B) * (C + D) = A * C + B * C + A * D + B * D := by grind
    rw [e]
    generalize A * C = P at *
    generalize B * C = Q at *
    generalize A * D = R at *
    generalize B * D = S at *
    have l1 := Int.mul_le_mul_of_nonneg_left v0.1 m1
    have l2 := Int.mul_le_mul_of_nonneg_left v1.1 m2
    have l3 := Int.mul_le_mul_of_nonneg_left v2.1 m3
    have l4 := Int.mul_le_mul_of_nonneg_left v3.1 m4
    have u1 := Int.mul_le_mul_of_nonneg_left v0.2 m1
    have u2 := Int.mul_le_mul_of_nonneg_left v1.2 m2
    have u3 := Int.mul_le_mul_of_nonneg_left v2.2 m3
    have u4 := Int.mul_le_mul_of_nonneg_left v3.2 m4
    constructor
    · have : lo * (P + Q + R + S) = P * lo + Q * lo + R * lo + S * lo := by grind
      omega
    · have : hi * (P + Q + R + S) = P * hi + Q * hi + R * hi + S * hi := by grind
      omega
  change 1 ≤ denP T x y at d
  unfold flo cei
  generalize numP T x y = n at *
  generalize denP T x y = D at *
  refine ⟨Int.le_ediv_of_mul_le (by omega) key.1, ?_, ?_⟩
  · unfold cdiv
    have h1 : n / D * D ≤ n := Int.ediv_mul_le n (by omega)
    have h2 : (-n) / D * D ≤ -n := Int.ediv_mul_le (-n) (by omega)
    have h3 : (n / D + (-n) / D) * D ≤ 0 * D := by rw [Int.add_mul]; omega
    have := Int.le_of_mul_le_mul_right h3 (by omega)
    omega
  · unfold cdiv
    have : -hi ≤ (-n) / D := Int.le_ediv_of_mul_le (by omega) (by rw [Int.neg_mul]; omega)
    omega
theorem bnd_lim {T : Tbl} {lo hi xl xh yl yh : Int} (h : rightB T lo hi = true) (g : Fits T xl xh yl yh) : lo ≤ bLo T xl xh yl yh ∧ bLo T xl xh yl yh ≤ bHi T xl xh yl yh ∧ bHi T xl xh yl yh ≤ hi := by
  have bx := vspan_le g.vx
  have by_ := vspan_le g.vy
  obtain ⟨x, y, hx, hy, e⟩ := bLo_is g
  obtain ⟨x', y', hx', hy', e'⟩ := bHi_is g
  have a := flo_lim h (g.on hx hy)
  have b := flo_lim h (g.on hx' hy')
  have c := bnd_at g (x := xl) (y := yl) (by omega) (by omega)
  have d := flo_lim h (g.on (x := xl) (y := yl) (by omega) (by omega))
  omega
end Go.Proofs.YtechkkgmdjgddaaGreat

/- What the functions of package rotor return, told plainly. -/
namespace Go.Proofs.YtechkkgmdjgddaaGreat
open Go Go.RowKit Go.Proofs

/-- A row of the lower table that exceeds the higher one's. -/
def overRow (ls hs : List Int) : Bool := (List.range ls.length).any fun k => decide (nth hs k < nth ls k)
def overB (A C : List (List Int)) : Bool := (List.range A.length).any fun i => overRow (nthR A i) (nthR C i)

/-- The k-th table that Check looks at, with its limits. -/
def limT (S : Tabs) : Nat → Tbl
  | 0 => S.h | 1 => S.g | 2 => S.l | 3 => S.p | 4 => S.n | 5 => S.a | 6 => S.c | _ => S.d
def limLo : Nat → Int
  | 7 => 1 | _ => 0
def limHi : Nat → Int
  | 0 => 100000 | 1 => 100 | 2 => 100000 | 3 => 100000 | _ => 10000
def limsB (S : Tabs) : Bool := (List.range 8).all fun k => rightB (limT S k) (limLo k) (limHi k)
def ringsB (S : Tabs) (cl bu : Int) : Bool := decide (S.a.X = S.c.X) && decide (S.a.Y = S.c.Y) && inB cl 1 1000 && inB bu 1 1000
def rotB (S : Tabs) (cl bu : Int) : Bool := limsB S && ringsB S cl bu && !overB S.a.V S.c.V
def rotE (b : Bool) : Int := if b then 0 else 20
theorem rotE_t : rotE true = 0 := rfl
theorem rotE_f : rotE false = 20 := rfl

theorem limsB_no {S : Tabs} {k : Nat} (hk : k < 8) (h : rightB (limT S k) (limLo k) (limHi k) = false) : limsB S = false := by
  unfold limsB; rw [List.all_eq_false]; exact ⟨k, by simpa using hk, by simp [h]⟩
theorem limsB_yes {S : Tabs} (h : ∀ k, k < 8 → rightB (limT S k) (limLo k) (limHi k) = true) : limsB S = true := by
  unfold limsB; rw [List.all_eq_true]; intro k hk; exact h k (by simpa using hk)
theorem limsB_at {S : Tabs} (h : limsB S = true) {k : Nat} (hk : k < 8) : rightB (limT S k) (limLo k) (limHi k) = true := by
  unfold limsB at h; rw [List.all_eq_true] at h; exact h k (by simpa using hk)
theorem rotB_lims {S : Tabs} {cl bu : Int} (h : rotB S cl bu = true) : limsB S = true := by unfold rotB at h; simp only [Bool.and_eq_true] at h; exact h.1.1
theorem rotB_rings {S : Tabs} {cl bu : Int} (h : rotB S cl bu = true) : ringsB S cl bu = true := by unfold rotB at h; simp only [Bool.and_eq_true] at h; exact h.1.2
theorem rotB_h {S : Tabs} {cl bu : Int} (h : rotB S cl bu = true) : rightB S.h 0 100000 = true := limsB_at (rotB_lims h) (k := 0) (by omega)
theorem rotB_g {S : Tabs} {cl bu : Int} (h : rotB S cl bu = true) : rightB S.g 0 100 = true := limsB_at (rotB_lims h) (k := 1) (by omega)
theorem rotB_l {S : Tabs} {cl bu : Int} (h : rotB S cl bu = true) : rightB S.l 0 100000 = true := limsB_at (rotB_lims h) (k := 2) (by omega)
theorem rotB_p {S : Tabs} {cl bu : Int} (h : rotB S cl bu = true) : rightB S.p 0 100000 = true := limsB_at (rotB_lims h) (k := 3) (by omega)
theorem rotB_n {S : Tabs} {cl bu : Int} (h : rotB S cl bu = true) : rightB S.n 0 10000 = true := limsB_at (rotB_lims h) (k := 4) (by omega)
theorem rotB_a {S : Tabs} {cl bu : Int} (h : rotB S cl bu = true) : rightB S.a 0 10000 = true := limsB_at (rotB_lims h) (k := 5) (by omega)
theorem rotB_c {S : Tabs} {cl bu : Int} (h : rotB S cl bu = true) : rightB S.c 0 10000 = true := limsB_at (rotB_lims h) (k := 6) (by omega)
theorem rotB_d {S : Tabs} {cl bu : Int} (h : rotB S cl bu = true) : rightB S.d 1 10000 = true := limsB_at (rotB_lims h) (k := 7) (by omega)
theorem rotB_cl {S : Tabs} {cl bu : Int} (h : rotB S cl bu = true) : 1 ≤ cl ∧ cl ≤ 1000 := by
  have := rotB_rings h; unfold ringsB at this; simp only [Bool.and_eq_true] at this; exact inB_iff.1 this.1.2
theorem rotB_bu {S : Tabs} {cl bu : Int} (h : rotB S cl bu = true) : 1 ≤ bu ∧ bu ≤ 1000 := by
  have := rotB_rings h; unfold ringsB at this; simp only [Bool.and_eq_true] at this; exact inB_iff.1 this.2
theorem rotB_axes {S : Tabs} {cl bu : Int} (h : rotB S cl bu = true) : S.a.X = S.c.X ∧ S.a.Y = S.c.Y := by
  have := rotB_rings h; unfold ringsB at this; simp only [Bool.and_eq_true, decide_eq_true_eq] at this; exact this.1.1

def sel8 {α : Type} (a b c d e f g h : α) : Nat → α
  | 0 => a | 1 => b | 2 => c | 3 => d | 4 => e | 5 => f | 6 => g | _ => h
def sel4 {α : Type} (a b c d : α) : Nat → α
  | 0 => a | 1 => b | 2 => c | _ => d

def airB (wl wh tl th el eh nl nh : Int) : Bool := vspan wl wh && vspan tl th && vspan el eh && vspan nl nh
/-- What check returns. -/
def chkE (rot air bad off : Bool) : Int := if rot then (if air then (if bad || off then 1 else 0) else 21) else 20
theorem chkE_rot {a b c : Bool} : chkE false a b c = 20 := rfl
theorem chkE_air {b c : Bool} : chkE true false b c = 21 := rfl
theorem chkE_bad {c : Bool} : chkE true true true c = 1 := by cases c <;> rfl
theorem chkE_off {b : Bool} : chkE true true b true = 1 := by cases b <;> rfl
theorem chkE_ok : chkE true true false false = 0 := rfl
theorem chkE_zero {r a b c : Bool} (h : chkE r a b c = 0) : r = true ∧ a = true ∧ b = false ∧ c = false := by
  cases r <;> cases a <;> cases b <;> cases c <;> simp [chkE] at h ⊢

theorem Fits.mk' {T : Tbl} {lo hi xl xh yl yh : Int} (h : rightB T lo hi = true) (vx : vspan xl xh = true) (vy : vspan yl yh = true) (hl : lkE T xl xh yl yh = true) : Fits T xl xh yl yh := by
  unfold lkE at hl; simp only [Bool.and_eq_true] at hl
  exact ⟨right_t h, vx, vy, hl.1, hl.2⟩
theorem lkE_pos {T : Tbl} {lo hi : Int} (h : rightB T lo hi = true) : 0 < T.X.length ∧ 0 < T.Y.length := by
  have h1 := axisB_len (tblB_X (right_t h))
  have h2 := axisB_len (tblB_Y (right_t h))
  omega

/-- The power that is needed, that there is, and the margin. -/
def needLo (S : Tabs) (wl wh tl th nl nh sl sh : Int) : Int := bLo S.h wl wh tl th * bLo S.g sl sh nl nh / 100
def needHi (S : Tabs) (wl wh tl th nl nh sl sh : Int) : Int := (bHi S.h wl wh tl th * bHi S.g sl sh nl nh + 99) / 100
def margV (S : Tabs) (wl wh tl th el eh nl nh sl sh : Int) : Int := bLo S.p tl th el eh - needHi S wl wh tl th nl nh sl sh
/-- The rate of climb. -/
def ratV (S : Tabs) (wl wh tl th el eh cl n : Int) : Int := (bLo S.p tl th el eh - bHi S.l n n wl wh) / cl
def wakV (S : Tabs) (wl wh sl sh kl kh : Int) : Bool := decide (bLo S.a sl sh wl wh ≤ kh) && decide (kl ≤ bHi S.c sl sh wl wh)
/-- A number, or 0 behind an error. -/
def okN (e n : Int) : Int := if e = 0 then n else 0
theorem okN_ok {n : Int} : okN 0 n = n := rfl
theorem okN_no {e n : Int} (h : e ≠ 0) : okN e n = 0 := by simp [okN, h]
end Go.Proofs.YtechkkgmdjgddaaGreat

/- Plain law: the greatest weight with a margin. -/
namespace Go.Proofs.YtechkkgmdjgddaaGreat
open Go Go.RowKit Go.Proofs

/-- The last of k numbers from a on for which f holds; a - 1: there is none. -/
def lastI (f : Int → Bool) (a : Int) : Nat → Int
  | 0 => a - 1
  | k + 1 => if f (a + k) = true then a + k else lastI f a k
theorem lastI_eq {f : Int → Bool} {a low : Int} : ∀ k : Nat, (∀ x y, a ≤ x → x ≤ y → y < a + k → f y = true → f x = true) → a - 1 ≤ low → low < a + k → (a ≤ low → f low = true) → (low + 1 < a + k → f (low + 1) = false) → lastI f a k = low
  | 0, _, h1, h2, _, _ => by unfold lastI; omega
  | k + 1, hm, h1, h2, h3, h4 => by
    unfold lastI
    by_cases e : low = a + k
    · have := h3 (by omega)
      rw [e] at this
      rw [if_pos this, e]
    · have hlt : low < a + k := by omega
      have hn : f (a + k) = false := by
        cases hf : f (a + k) with
        | false => rfl
        | true =>
          have := hm (low + 1) (a + k) (by omega) (by omega) (by omega) hf
          rw [h4 (by omega)] at this; cases this
      rw [if_neg (by simp [hn])]
      exact lastI_eq k (fun x y h1 h2 h3 => hm x y h1 h2 (by omega)) h1 hlt h3 (fun h => h4 (by omega))

theorem vspan_iff {l h : Int} : vspan l h = true ↔ -1000000 ≤ l ∧ l ≤ h ∧ h ≤ 1000000 := by
  unfold vspan inB; simp only [Bool.and_eq_true, decide_eq_true_eq]; omega
theorem Fits.sub {T : Tbl} {xl xh yl yh a b : Int} (h : Fits T xl xh yl yh) (h1 : xl ≤ a) (h2 : a ≤ b) (h3 : b ≤ xh) : Fits T a b yl yh := by
  have v := vspan_iff.1 h.vx
  refine ⟨h.t, vspan_iff.2 (by omega), h.vy, ?_, h.ly⟩
  have := h.lx
  unfold liesB at *
  simp only [Bool.and_eq_true, decide_eq_true_eq] at *
  omega

/-- The margin with weights up to n. -/
def marU (S : Tabs) (wl tl th el eh nl nh sl sh n : Int) : Int := margV S wl n tl th el eh nl nh sl sh
theorem marU_anti {S : Tabs} {wl wh tl th el eh nl nh sl sh : Int} (h1 : rightB S.h 0 100000 = true) (h2 : rightB S.g 0 100 = true) (hH : Fits S.h wl wh tl th) (hG : Fits S.g sl sh nl nh) {a b : Int} (ha : wl ≤ a) (hab : a ≤ b) (hb : b ≤ wh) :
    marU S wl tl th el eh nl nh sl sh b ≤ marU S wl tl th el eh nl nh sl sh a := by
  have fa := hH.sub (a := wl) (b := a) (by omega) ha (by omega)
  have fb := hH.sub (a := wl) (b := b) (by omega) (by omega) hb
  have s := (bnd_sub fb fa (by omega) hab (by omega) (by omega)).2
  have lg := bnd_lim h2 hG
  have la := bnd_lim h1 fa
  unfold marU margV needHi
  have m := Int.mul_le_mul_of_nonneg_right s (show 0 ≤ bHi S.g sl sh nl nh by omega)
  omega

def okW (S : Tabs) (wl tl th el eh nl nh sl sh res : Int) (n : Int) : Bool := decide (res ≤ marU S wl tl th el eh nl nh sl sh n)
def heavN (S : Tabs) (wl wh tl th el eh nl nh sl sh res : Int) : Int := lastI (okW S wl tl th el eh nl nh sl sh res) wl (wh - wl + 1).toNat
theorem heavN_eq {S : Tabs} {wl wh tl th el eh nl nh sl sh res low : Int} (h1 : rightB S.h 0 100000 = true) (h2 : rightB S.g 0 100 = true) (hH : Fits S.h wl wh tl th) (hG : Fits S.g sl sh nl nh)
    (g1 : wl - 1 ≤ low) (g2 : low ≤ wh) (g3 : wl ≤ low → okW S wl tl th el eh nl nh sl sh res low = true) (g4 : low < wh → okW S wl tl th el eh nl nh sl sh res (low + 1) = false) :
    heavN S wl wh tl th el eh nl nh sl sh res = low := by
  have hw := vspan_le hH.vx
  unfold heavN
  refine lastI_eq _ (fun x y hx hxy hy hf => ?_) g1 (by omega) g3 (fun h => g4 (by omega))
  unfold okW at *
  have := marU_anti h1 h2 hH hG (el := el) (eh := eh) hx hxy (by omega)
  simp only [decide_eq_true_eq] at *
  omega
end Go.Proofs.YtechkkgmdjgddaaGreat
