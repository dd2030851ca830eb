import Derived.Test.YtlambeiafdpkgaaGreatSpB
import Derived.Test.YtlambeiafdpkgaaGreatJAA
set_option linter.all false
namespace Go.Proofs.YtlambeiafdpkgaaGreat
open Go Go.RowKit Go.Proofs
set_option maxRecDepth 100000
set_option maxHeartbeats 4000000
theorem tcWithin_c (n lo hi : Int) (w : World) :
  Calls Tryz.prog 74 #[.int .i64 n, .int .i64 lo, .int .i64 hi] w fun e w' => e = .returned (.bool (inB n lo hi)) ∧ w = w' := by
 by_cases h : lo ≤ n
 ·go_enter Tryz.func74, Tryz.ntmps74
  go_wp2
  go_ret
  exact ⟨ret_bool (by simp [inB, h]), rfl⟩
 ·have h2 : n < lo := by omega
  go_enter Tryz.func74, Tryz.ntmps74
  go_wp2
  go_ret
  exact ⟨ret_bool (by simp [inB]; omega), rfl⟩
def IL (w : World) (v : Value) (n : Nat) (P : Nat → Int) : Prop := ∃ A c, v = .slice A n c ∧ (0 < n → ∃ b off, A = some ⟨b, off, none⟩ ∧ b < w.heap.size ∧ ∀ k, k < n → w.cell? ⟨b, off + k, none⟩ = some (.int .i64 (P k)))
theorem IL.below {w w' : World} {v : Value} {n : Nat} {P : Nat → Int} (h : IL w v n P) (hb : Below w.heap.size w w') : IL w' v n P := by
 obtain ⟨A, c, e, h⟩ := h
 refine ⟨A, c, e, fun hn => ?_⟩
 obtain ⟨b, off, e, hl, h⟩ := h hn
 exact ⟨b, off, e, Nat.lt_of_lt_of_le hl hb.size, fun k hk => (hb.cell (p := ⟨b, off + k, none⟩) hl).trans (h k hk)⟩
def prvI (P : Nat → Int) : Nat → Int | 0 => -1 | k + 1 => P k
theorem tcAscends_c (v : Value) (n : Nat) (P : Nat → Int) (lim : Int) (w : World) (h : IL w v n P) (hn : n ≤ 1000) (ha : ∀ k, k < n → prvI P k < P k ∧ P k < lim) :
  Calls Tryz.prog 118 #[v, .int .i64 lim] w fun e w' => e = .returned (.bool true) ∧ Below w.heap.size w w' := by
 obtain ⟨A, c, rfl, hA⟩ := h
 have HA := hI9 hA
 have HC := hI9 ha
 clear hA ha
 go_enter Tryz.func118, Tryz.ntmps118
 go_wp2
 go_loopw [5, 7, 10] (fun s5 _ s10 wr => ∃ k : Nat, k ≤ n ∧ s10 = .int .i64 k ∧ s5 = .int .i64 (prvI P k) ∧ Hid (Below w.heap.size w wr)) (fun _ _ i _ => n - (intOf i).toNat)
 case atStart => exact ⟨0, by omega, rfl, rfl, hI9 (Below.refl _ _)⟩
 case round =>
  obtain ⟨k, hk, rfl, rfl, hB⟩ := hrel
  by_cases hlt : k < n
  ·obtain ⟨b, off, rfl, hb, hc⟩ := HA.out (by omega)
   have h0 := (hB.out.cell (p := ⟨b, off + k, none⟩) hb).trans (hc k hlt)
   obtain ⟨h1, h2⟩ := HC.out k hlt
   have HE := hI9 (show prvI P (k + 1) = P k from rfl)
   have h1' : ¬ P k ≤ prvI P k := by omega
   have h2' : ¬ lim ≤ P k := by omega
   clear HA HC hc h1 h2
   generalize prvI P k = p0 at *
   generalize P k = p1 at *
   go_wp2
   go_roundw
   case rel => exact ⟨k + 1, by omega, by go_num, by rw [HE.out], hB⟩
   case measure => simp [intOf]; omega
  ·obtain rfl : k = n := by omega
   clear HA HC
   go_wp2
   go_ret
   exact ⟨rfl, hB.out⟩
theorem tcProof_c (lo hi : Int) (w : World) (h0 : 0 ≤ lo) (h1 : lo ≤ hi) (h2 : hi ≤ 2000) :
  Calls Tryz.prog 120 #[.agg #[.int .i64 lo, .int .i64 hi]] w fun e w' => e = .returned (.bool true) ∧ Below w.heap.size w w' := by
 have e4 := spanE_f
 have hk : ∀ b c w, w.cell? ⟨b, 0, none⟩ = some (.int .i64 lo) → w.cell? ⟨b, 1, none⟩ = some (.int .i64 hi) → Calls Tryz.prog 163 #[.slice (some ⟨b, 0, none⟩) 1 c] w fun e w' => e = .returned (.int .i64 0) ∧ Below w.heap.size w w' := by
  intro b c w q0 q1
  have h := spCheck_c (some ⟨b, 0, none⟩) 1 c (fun _ => lo) (fun _ => hi) w (by omega)
   (fun _ => ⟨b, 0, rfl, blk_lt q0, fun k hk => by
    obtain rfl : k = 0 := by omega
    exact ⟨(by simpa using q0), (by simpa using q1)⟩⟩)
  rw [anyBad1] at h
  have hv : vspan lo hi = true := by
   unfold vspan inB
   simp only [Bool.and_eq_true, decide_eq_true_eq]
   omega
  rw [hv] at h
  exact h
 have HK := hI9 hk
 clear hk
 go_enter Tryz.func120, Tryz.ntmps120
 go_wp2_with (first | (go_at_call 163; (with_reducible refine (HK.out _ _ _ (by simp) (by simp)).mono ?_); rintro e w1 ⟨rfl, hb1⟩; have hB1 := bthen (show Below w.heap.size w _ from (by repeat' (first | exact Below.refl _ _ | assumption | refine Below.drew ?_ | refine bdn ?_ _ | refine bal ?_ _ | refine Below.setCell ?_ (by first | (simp; done) | omega | (simp; omega)) _))) hb1; have hz1 := hb1.size; (try simp at hz1); obtain ⟨hc1, hf1⟩ := bcell hb1; first | (have hE1 := bthen2 hE (by repeat' (first | exact Below.refl _ _ | refine Below.drew ?_ | refine bdn ?_ _ | refine bal ?_ _ | refine Below.setCell ?_ (by first | (simp; done) | omega | (simp; omega)) _)) hb1; clear hE; have hE := hE1; clear hE1; obtain ⟨hd1, hg1⟩ := bcell hE) | (have hE := hb1)))
 all_goals go_ret
 all_goals exact ⟨ret_bool (by simp [h0, h2]), (by repeat' (first | exact Below.refl _ _ | assumption | refine Below.drew ?_ | refine bdn ?_ _ | refine bal ?_ _ | refine Below.setCell ?_ (by first | (simp; done) | omega | (simp; omega)) _))⟩
theorem tc_and (q : Nat) (hq : q < 2 ^ 60) : bits .and .i64 (q : Int) 1 = ((q % 2 : Nat) : Int) := by
 show IntKind.i64.wrap ((BitVec.ofInt 64 (q : Int) &&& BitVec.ofInt 64 1).toNat : Int) = _
 rw [BitVec.toNat_and, BitVec.toNat_ofInt, BitVec.toNat_ofInt]
 have e1 : ((q : Int) % ((2 ^ 64 : Nat) : Int)).toNat = q := by omega
 have e2 : ((1 : Int) % ((2 ^ 64 : Nat) : Int)).toNat = 1 := by decide
 rw [e1, e2, Nat.and_one_is_mod, IntKind.wrap_i64]
 omega
theorem tc_or (a b : Nat) (ha : a < 2 ^ 60) (hb : b < 2 ^ 60) : bits .or .i64 (a : Int) (b : Int) = ((a ||| b : Nat) : Int) := by
 show IntKind.i64.wrap ((BitVec.ofInt 64 (a : Int) ||| BitVec.ofInt 64 (b : Int)).toNat : Int) = _
 rw [BitVec.toNat_or, BitVec.toNat_ofInt, BitVec.toNat_ofInt]
 have e1 : ((a : Int) % ((2 ^ 64 : Nat) : Int)).toNat = a := by omega
 have e2 : ((b : Int) % ((2 ^ 64 : Nat) : Int)).toNat = b := by omega
 have h3 : (a ||| b) < 2 ^ 60 := Nat.or_lt_two_pow ha hb
 rw [e1, e2, IntKind.wrap_i64]
 omega
theorem tc_div (p n : Nat) : ((p : Int) / 2 ^ n) = ((p >>> n : Nat) : Int) := by
 rw [Nat.shiftRight_eq_div_pow]
 simp
theorem tc_pow (n : Nat) (hn : n < 60) : wrap64 (2 ^ n) = ((2 ^ n : Nat) : Int) := by
 have h2 : (2 ^ n : Nat) < 2 ^ 60 := Nat.pow_lt_pow_right (by decide) hn
 have h3 : ((2 : Int) ^ n) = ((2 ^ n : Nat) : Int) := by simp
 rw [h3]
 generalize (2 ^ n : Nat) = m at *
 unfold wrap64
 omega
theorem tcHas_c (p n : Nat) (w : World) (hp : p < 2 ^ 60) (hn : n < 60) :
  Calls Tryz.prog 77 #[.int .i64 p, .int .i64 n] w fun e w' => e = .returned (.bool (p.testBit n)) ∧ w = w' := by
 have hq : p >>> n < 2 ^ 60 := Nat.lt_of_le_of_lt (by rw [Nat.shiftRight_eq_div_pow]; exact Nat.div_le_self _ _) hp
 have e2 := tc_and (p >>> n) hq
 have e3 : p.testBit n = ((((p >>> n % 2 : Nat)) : Int) == 1) := by
  rw [Nat.testBit_eq_decide_div_mod_eq, ← Nat.shiftRight_eq_div_pow]
  have hr : p >>> n % 2 < 2 := Nat.mod_lt _ (by decide)
  generalize p >>> n % 2 = r at hr
  match r, hr with
  | 0, _ => rfl
  | 1, _ => rfl
 rw [e3, ← e2, ← tc_div]
 clear e3 e2 hq
 go_enter Tryz.func77, Tryz.ntmps77
 go_wp2
 go_ret
 exact ⟨rfl, rfl⟩
theorem tcWith_c (p n : Nat) (w : World) (hp : p < 2 ^ 60) (hn : n < 60) :
  Calls Tryz.prog 79 #[.int .i64 p, .int .i64 n] w fun e w' => e = .returned (.int .i64 ((p ||| 2 ^ n : Nat) : Int)) ∧ w = w' := by
 have e2 := tc_or p (2 ^ n) hp (Nat.pow_lt_pow_right (by decide) hn)
 rw [← e2, ← tc_pow n hn]
 clear e2
 go_enter Tryz.func79, Tryz.ntmps79
 go_wp2
 go_ret
 exact ⟨rfl, rfl⟩
end Go.Proofs.YtlambeiafdpkgaaGreat
