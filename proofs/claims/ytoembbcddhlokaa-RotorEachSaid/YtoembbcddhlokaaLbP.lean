/- Contracts: pick of the laws of rotors. -/
import Derived.Test.YtoembbcddhlokaaLbO
import Derived.Test.YtoembbcddhlokaaRgM
set_option linter.all false
namespace Go.Proofs.Ytoembbcddhlokaa
open Go Go.RowKit Go.Proofs
set_option maxRecDepth 100000
set_option maxHeartbeats 8000000

/-- The number that pick takes: from 0 to the width. -/
def pickN (lo hi m : Int) : Int := m % (hi - lo + 1)
def pickLo (lo hi m n : Int) : Int := lo + min (pickN lo hi m) (pickN lo hi n)
def pickHi (lo hi m n : Int) : Int := lo + max (pickN lo hi m) (pickN lo hi n)
theorem pickN_bd {lo hi m : Int} (h : lo ≤ hi) : 0 ≤ pickN lo hi m ∧ pickN lo hi m ≤ hi - lo := by
  unfold pickN
  have h1 := Int.emod_nonneg m (show hi - lo + 1 ≠ 0 by omega)
  have h2 := Int.emod_lt_of_pos m (show 0 < hi - lo + 1 by omega)
  omega
theorem pick_bd {lo hi m n : Int} (h : lo ≤ hi) : lo ≤ pickLo lo hi m n ∧ pickLo lo hi m n ≤ pickHi lo hi m n ∧ pickHi lo hi m n ≤ hi := by
  have h1 := pickN_bd (m := m) h
  have h2 := pickN_bd (m := n) h
  unfold pickLo pickHi
  omega
theorem tmod_pick {m w : Int} (hw : 1 ≤ w) : (m.tmod w + w) % w = m % w := by
  rw [Int.add_emod_right]
  have e := Int.mul_tdiv_add_tmod m w
  have : m.tmod w = m - w * m.tdiv w := by omega
  rw [this, Int.sub_mul_emod_self_left]

theorem pick_c (lo hi m n : Int) (w : World) (hv : vspan lo hi = true) (hm : I64 m) (hn : I64 n) :
   Calls Try.prog 25 #[.agg #[.int .i64 lo, .int .i64 hi], .int .i64 m, .int .i64 n] w fun e w' => e = .returned (.agg #[.int .i64 (pickLo lo hi m n), .int .i64 (pickHi lo hi m n)]) ∧ Below w.heap.size w w' := by
  have hw := vspan_iff.1 hv
  unfold pickLo pickHi
  have p1 := pickN_bd (m := m) hw.2.1
  have p2 := pickN_bd (m := n) hw.2.1
  have e1 : (m.tmod (hi - lo + 1) + (hi - lo + 1)) % (hi - lo + 1) = pickN lo hi m := tmod_pick (by omega)
  have e2 : (n.tmod (hi - lo + 1) + (hi - lo + 1)) % (hi - lo + 1) = pickN lo hi n := tmod_pick (by omega)
  have a1 := Int.tmod_lt_of_pos m (show 0 < hi - lo + 1 by omega)
  have a2 := Int.lt_tmod_of_pos m (show 0 < hi - lo + 1 by omega)
  have b1 := Int.tmod_lt_of_pos n (show 0 < hi - lo + 1 by omega)
  have b2 := Int.lt_tmod_of_pos n (show 0 < hi - lo + 1 by omega)
  generalize pickN lo hi m = i at *
  generalize pickN lo hi n = k at *
  have E1 := Lib.hid e1
  have E2 := Lib.hid e2
  clear e1 e2
  obtain ⟨x, hx⟩ : ∃ x, min i k = x := ⟨_, rfl⟩
  obtain ⟨y, hy⟩ : ∃ y, max i k = y := ⟨_, rfl⟩
  rw [hx, hy]
  rcases (show (i < k ∧ x = i ∧ y = k) ∨ (k = i ∧ x = i ∧ y = i) ∨ (k < i ∧ x = k ∧ y = i) by omega) with ⟨h, rfl, rfl⟩ | ⟨rfl, rfl, rfl⟩ | ⟨h, rfl, rfl⟩
  all_goals
    clear hx hy
    go_enter Try.func25, Try.ntmps25
    go_wp2
    go_quiet (fail)
    rw [E1.out, E2.out]
    go_wp2
  · exact bodyPost_ret (v := .agg #[.int .i64 (lo + x), .int .i64 (lo + y)]) (by first | (simp (maxDischargeDepth := 9) [results, Try.results25, go_sem, hc1, hd1]; done) | (simp (maxDischargeDepth := 9) [results, Try.results25, go_sem, hc1]; done) | (simp [results, Try.results25, go_sem]; done)) rfl (⟨rfl, (by repeat' (first | exact Below.refl _ _ | assumption | refine Below.drew ?_ | refine bdn ?_ _ | refine bal ?_ _ | refine Below.setCell ?_ (by first | (simp; done) | omega | (simp; omega)) _))⟩)
  · exact bodyPost_ret (v := .agg #[.int .i64 (lo + y), .int .i64 (lo + y)]) (by first | (simp (maxDischargeDepth := 9) [results, Try.results25, go_sem, hc1, hd1]; done) | (simp (maxDischargeDepth := 9) [results, Try.results25, go_sem, hc1]; done) | (simp [results, Try.results25, go_sem]; done)) rfl (⟨rfl, (by repeat' (first | exact Below.refl _ _ | assumption | refine Below.drew ?_ | refine bdn ?_ _ | refine bal ?_ _ | refine Below.setCell ?_ (by first | (simp; done) | omega | (simp; omega)) _))⟩)
  · exact bodyPost_ret (v := .agg #[.int .i64 (lo + x), .int .i64 (lo + y)]) (by first | (simp (maxDischargeDepth := 9) [results, Try.results25, go_sem, hc1, hd1]; done) | (simp (maxDischargeDepth := 9) [results, Try.results25, go_sem, hc1]; done) | (simp [results, Try.results25, go_sem]; done)) rfl (⟨rfl, (by repeat' (first | exact Below.refl _ _ | assumption | refine Below.drew ?_ | refine bdn ?_ _ | refine bal ?_ _ | refine Below.setCell ?_ (by first | (simp; done) | omega | (simp; omega)) _))⟩)

end Go.Proofs.Ytoembbcddhlokaa
