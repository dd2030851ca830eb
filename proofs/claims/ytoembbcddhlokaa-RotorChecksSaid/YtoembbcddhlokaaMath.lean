/- Plain arithmetic: Go's division and remainder, floors and ceilings. No program is imported here. -/
import Derived.WalkKit
import Derived.IntWalk
set_option linter.all false
namespace Go.Proofs.Ytoembbcddhlokaa
open Go Go.RowKit

theorem fdiv_neg {a b : Int} (hb : 1 ≤ b) (h : a.tmod b < 0) : a.tdiv b - 1 = a / b := by
  have h1 := Int.mul_tdiv_add_tmod a b
  have h2 := Int.tmod_lt_of_pos a (show 0 < b by omega)
  have h3 := Int.lt_tmod_of_pos a (show 0 < b by omega)
  have e : a = (a.tmod b + b) + b * (a.tdiv b - 1) := by rw [Int.mul_sub]; omega
  rw [e, Int.add_mul_ediv_left _ _ (by omega), Int.ediv_eq_zero_of_lt (by omega) (by omega)]
  rw [← e]; omega
theorem fdiv_pos {a b : Int} (hb : 1 ≤ b) (h : 0 ≤ a.tmod b) : a.tdiv b = a / b := by
  have h1 := Int.mul_tdiv_add_tmod a b
  have h2 := Int.tmod_lt_of_pos a (show 0 < b by omega)
  have e : a = a.tmod b + b * a.tdiv b := by omega
  conv => rhs; rw [e]
  rw [Int.add_mul_ediv_left _ _ (by omega), Int.ediv_eq_zero_of_lt (by omega) (by omega)]
  omega
theorem ediv_bound {a b m : Int} (hb : 1 ≤ b) (hm : 0 ≤ m) (h0 : -m ≤ a) (h1 : a ≤ m) : -m ≤ a / b ∧ a / b ≤ m := by
  constructor
  · apply Int.le_ediv_of_mul_le (by omega)
    have : -m * b ≤ -m * 1 := Int.mul_le_mul_of_nonpos_left (by omega) (by omega)
    omega
  · by_cases h : 0 ≤ a
    · exact Int.le_trans (Int.ediv_le_self _ h) h1
    · have := Int.ediv_neg_of_neg_of_pos (show a < 0 by omega) (show 0 < b by omega); omega
theorem wrap64_in {x : Int} (h0 : -9223372036854775808 ≤ x) (h1 : x ≤ 9223372036854775807) : wrap64 x = x := by
  unfold wrap64; omega
/-- The ceiling of a fraction. -/
def cdiv (a b : Int) : Int := -((-a) / b)
theorem cdiv_bound {a b m : Int} (hb : 1 ≤ b) (hm : 0 ≤ m) (h0 : -m ≤ a) (h1 : a ≤ m) : -m ≤ cdiv a b ∧ cdiv a b ≤ m := by
  have := ediv_bound (a := -a) hb hm (by omega) (by omega); unfold cdiv; omega

theorem mul_bd {a b A B : Int} (ha0 : -A ≤ a) (ha1 : a ≤ A) (hb0 : -B ≤ b) (hb1 : b ≤ B) : -(A * B) ≤ a * b ∧ a * b ≤ A * B := by
  have hA : 0 ≤ A := by omega
  have hB : 0 ≤ B := by omega
  have h1 : a * b ≤ A * B ∧ -(A * B) ≤ a * b := by
    have e1 : (A - a) * (B - b) ≥ 0 := Int.mul_nonneg (by omega) (by omega)
    have e2 : (A + a) * (B + b) ≥ 0 := Int.mul_nonneg (by omega) (by omega)
    have e3 : (A - a) * (B + b) ≥ 0 := Int.mul_nonneg (by omega) (by omega)
    have e4 : (A + a) * (B - b) ≥ 0 := Int.mul_nonneg (by omega) (by omega)
    simp only [Int.sub_mul, Int.mul_sub, Int.add_mul, Int.mul_add] at e1 e2 e3 e4
    constructor <;> omega
  exact ⟨h1.2, h1.1⟩

theorem wnum_eq {A B C D v0 v1 v2 v3 : Int} (a0 : 0 ≤ A) (a1 : A ≤ 10000) (b0 : 0 ≤ B) (b1 : B ≤ 10000) (c0 : 0 ≤ C) (c1 : C ≤ 10000) (d0 : 0 ≤ D) (d1 : D ≤ 10000)
    (h0 : -1000000 ≤ v0 ∧ v0 ≤ 1000000) (h1 : -1000000 ≤ v1 ∧ v1 ≤ 1000000) (h2 : -1000000 ≤ v2 ∧ v2 ≤ 1000000) (h3 : -1000000 ≤ v3 ∧ v3 ≤ 1000000) :
    wrap64 (wrap64 (wrap64 (wrap64 (wrap64 (A * C) * v0) + wrap64 (wrap64 (B * C) * v2)) + wrap64 (wrap64 (A * D) * v1)) + wrap64 (wrap64 (B * D) * v3)) = A * C * v0 + B * C * v2 + A * D * v1 + B * D * v3
    ∧ (-400000000000000 ≤ A * C * v0 + B * C * v2 + A * D * v1 + B * D * v3 ∧ A * C * v0 + B * C * v2 + A * D * v1 + B * D * v3 ≤ 400000000000000) := by
  have p1 := mul_bd (a := A) (b := C) (A := 10000) (B := 10000) (by omega) (by omega) (by omega) (by omega)
  have p2 := mul_bd (a := B) (b := C) (A := 10000) (B := 10000) (by omega) (by omega) (by omega) (by omega)
  have p3 := mul_bd (a := A) (b := D) (A := 10000) (B := 10000) (by omega) (by omega) (by omega) (by omega)
  have p4 := mul_bd (a := B) (b := D) (A := 10000) (B := 10000) (by omega) (by omega) (by omega) (by omega)
  rw [wrap64_in (x := A * C) (by omega) (by omega), wrap64_in (x := B * C) (by omega) (by omega), wrap64_in (x := A * D) (by omega) (by omega), wrap64_in (x := B * D) (by omega) (by omega)]
  generalize A * C = p at *
  generalize B * C = q at *
  generalize A * D = r at *
  generalize B * D = s at *
  have q1 := mul_bd (a := p) (b := v0) (A := 100000000) (B := 1000000) (by omega) (by omega) (by omega) (by omega)
  have q2 := mul_bd (a := q) (b := v2) (A := 100000000) (B := 1000000) (by omega) (by omega) (by omega) (by omega)
  have q3 := mul_bd (a := r) (b := v1) (A := 100000000) (B := 1000000) (by omega) (by omega) (by omega) (by omega)
  have q4 := mul_bd (a := s) (b := v3) (A := 100000000) (B := 1000000) (by omega) (by omega) (by omega) (by omega)
  rw [wrap64_in (x := p * v0) (by omega) (by omega), wrap64_in (x := q * v2) (by omega) (by omega), wrap64_in (x := r * v1) (by omega) (by omega), wrap64_in (x := s * v3) (by omega) (by omega)]
  generalize p * v0 = p' at *
  generalize q * v2 = q' at *
  generalize r * v1 = r' at *
  generalize s * v3 = s' at *
  rw [wrap64_in (x := p' + q') (by omega) (by omega), wrap64_in (x := p' + q' + r') (by omega) (by omega), wrap64_in (by omega) (by omega)]
  omega
theorem wden_eq {A B C D : Int} (a0 : 0 ≤ A) (a1 : A ≤ 10000) (b0 : 0 ≤ B) (b1 : B ≤ 10000) (c0 : 0 ≤ C) (c1 : C ≤ 10000) (d0 : 0 ≤ D) (d1 : D ≤ 10000) :
    wrap64 ((A + B) * (C + D)) = (A + B) * (C + D) := by
  have p1 := mul_bd (a := A + B) (b := C + D) (A := 20000) (B := 20000) (by omega) (by omega) (by omega) (by omega)
  exact wrap64_in (by omega) (by omega)
end Go.Proofs.Ytoembbcddhlokaa
