/- Contracts: the leaves of the references. -/
import Derived.Test.YtoembbcddhlokaaDef
import Derived.Test.YtoembbcddhlokaaRoF
set_option linter.all false
namespace Go.Proofs.Ytoembbcddhlokaa
open Go Go.RowKit Go.Proofs

theorem up_eq {a d : Int} (hd : 1 ≤ d) : (a + d - 1) / d = cdiv a d := by
  unfold cdiv
  have h1 := Int.emod_nonneg (-a) (show d ≠ 0 by omega)
  have h2 := Int.emod_lt_of_pos (-a) (show 0 < d by omega)
  have h3 := Int.emod_add_mul_ediv (-a) d
  generalize (-a) / d = q at *
  generalize (-a) % d = r at *
  have e : a + d - 1 = (d - 1 - r) + d * (-q) := by rw [Int.mul_neg]; omega
  rw [e, Int.add_mul_ediv_left _ _ (by omega), Int.ediv_eq_zero_of_lt (by omega) (by omega)]
  omega
theorem cdiv_neg {a d : Int} : -cdiv (-a) d = a / d := by unfold cdiv; simp only [Int.neg_neg]
theorem neg_floor {a d : Int} : -((-a) / d) = cdiv a d := rfl

theorem rf_From_c (n lo hi : Int) (w : World) : Calls Try.prog 60 #[.int .i64 n, .int .i64 lo, .int .i64 hi] w fun e w' => e = .returned (.bool (inB n lo hi)) ∧ w = w' := by
  unfold inB
  by_cases h1 : lo ≤ n <;> by_cases h2 : n ≤ hi
  all_goals
    go_enter Try.func60, Try.ntmps60
    go_wp2
    go_ret
    exact ⟨by simp [h1, h2], rfl⟩
theorem rf_from_c (n lo hi : Int) (w : World) : Calls Try.prog 57 #[.int .i64 n, .int .i64 lo, .int .i64 hi] w fun e w' => e = .returned (.bool (inB n lo hi)) ∧ w = w' := by
  unfold inB
  by_cases h1 : lo ≤ n <;> by_cases h2 : n ≤ hi
  all_goals
    go_enter Try.func57, Try.ntmps57
    go_wp2
    go_ret
    exact ⟨by simp [h1, h2], rfl⟩

theorem vspan_two {lo hi : Int} : (inB lo (-1000000) 1000000 && inB hi lo 1000000) = vspan lo hi := by
  rw [Bool.eq_iff_iff]; unfold vspan inB; simp only [Bool.and_eq_true, decide_eq_true_eq]; omega

theorem rf_Valid_c (lo hi : Int) (w : World) : Calls Try.prog 24 #[.agg #[.int .i64 lo, .int .i64 hi]] w fun e w' => e = .returned (.bool (vspan lo hi)) ∧ Below w.heap.size w w' := by
  rw [← vspan_two]
  cases h1 : inB lo (-1000000) 1000000
  all_goals
    go_enter Try.func24, Try.ntmps24
    go_wp2_with (first | (go_at_call 60; (with_reducible refine (rf_From_c _ _ _ _).mono ?_); rintro e w1 ⟨rfl, rfl⟩))
    go_ret
    exact ⟨by simp, (by repeat' (first | exact Below.refl _ _ | assumption | refine Below.drew ?_ | refine bdn ?_ _ | refine bal ?_ _ | refine Below.setCell ?_ (by first | (simp; done) | omega | (simp; omega)) _))⟩

theorem rf_two_c (al ah bl bh : Int) (w : World) : Calls Try.prog 142 #[.agg #[.int .i64 al, .int .i64 ah], .agg #[.int .i64 bl, .int .i64 bh]] w fun e w' => e = .returned (.int .i64 (spanE (!vspan al ah || !vspan bl bh))) ∧ Below w.heap.size w w' := by
  cases h1 : vspan al ah <;> cases h2 : vspan bl bh
  all_goals
    go_enter Try.func142, Try.ntmps142
    go_wp2_with (first | (go_at_call 24; (with_reducible refine (rf_Valid_c _ _ _).mono ?_); rintro e w1 ⟨rfl, hb1⟩; have hB1 := bthen (show Below w.heap.size w _ from (by repeat' (first | exact Below.refl _ _ | assumption | refine Below.drew ?_ | refine bdn ?_ _ | refine bal ?_ _ | refine Below.setCell ?_ (by first | (simp; done) | omega | (simp; omega)) _))) hb1; have hz1 := hb1.size; (try simp at hz1); obtain ⟨hc1, hf1⟩ := bcell hb1; first | (have hE1 := bthen2 hE (by repeat' (first | exact Below.refl _ _ | refine Below.drew ?_ | refine bdn ?_ _ | refine bal ?_ _ | refine Below.setCell ?_ (by first | (simp; done) | omega | (simp; omega)) _)) hb1; clear hE; have hE := hE1; clear hE1; obtain ⟨hd1, hg1⟩ := bcell hE) | (have hE := hb1)))
    go_ret
    exact ⟨rfl, (by repeat' (first | exact Below.refl _ _ | assumption | refine Below.drew ?_ | refine bdn ?_ _ | refine bal ?_ _ | refine Below.setCell ?_ (by first | (simp; done) | omega | (simp; omega)) _))⟩

theorem rf_floor_c (num den : Int) (w : World) (h0 : -4000000000000000000 ≤ num) (h1 : num ≤ 4000000000000000000) (h2 : 1 ≤ den) (h3 : den ≤ 4000000000000000000) :
   Calls Try.prog 125 #[.int .i64 num, .int .i64 den] w fun e w' => e = .returned (.int .i64 (num / den)) ∧ w = w' := by
  by_cases h : 0 ≤ num
  · go_enter Try.func125, Try.ntmps125
    go_wp2
    go_ret
    exact ⟨rfl, rfl⟩
  · have hq := ediv_bound (a := -num + den - 1) h2 (show (0:Int) ≤ 8000000000000000000 by omega) (by omega) (by omega)
    have e := up_eq (a := -num) h2
    have e2 := cdiv_neg (a := num) (d := den)
    have E := Lib.hid e
    have E2 := Lib.hid e2
    clear e e2
    go_enter Try.func125, Try.ntmps125
    go_wp2
    go_ret
    exact ⟨ret_int (by rw [E.out, E2.out]), rfl⟩

theorem rf_ceil_c (num den : Int) (w : World) (h0 : -4000000000000000000 ≤ num) (h1 : num ≤ 4000000000000000000) (h2 : 1 ≤ den) (h3 : den ≤ 4000000000000000000) :
   Calls Try.prog 126 #[.int .i64 num, .int .i64 den] w fun e w' => e = .returned (.int .i64 (cdiv num den)) ∧ w = w' := by
  have hb := ediv_bound (a := -num) h2 (show (0:Int) ≤ 4000000000000000000 by omega) (by omega) (by omega)
  go_enter Try.func126, Try.ntmps126
  go_wp2_with (first | (go_at_call 125; (with_reducible refine (rf_floor_c _ _ _ (by omega) (by omega) h2 h3).mono ?_); rintro e w1 ⟨rfl, rfl⟩))
  go_ret
  exact ⟨rfl, rfl⟩

theorem rf_up_c (num den : Int) (w : World) (h0 : 0 ≤ num) (h1 : num ≤ 4000000000000000000) (h2 : 1 ≤ den) (h3 : den ≤ 4000000000000000000) :
   Calls Try.prog 90 #[.int .i64 num, .int .i64 den] w fun e w' => e = .returned (.int .i64 (cdiv num den)) ∧ w = w' := by
  have e := up_eq (a := num) h2
  have hq := ediv_bound (a := num + den - 1) h2 (show (0:Int) ≤ 8000000000000000000 by omega) (by omega) (by omega)
  have E := Lib.hid e
  clear e
  go_enter Try.func90, Try.ntmps90
  go_wp2
  go_ret
  exact ⟨ret_int (by rw [E.out]), rfl⟩

theorem rf_down_c (num den : Int) (w : World) (h0 : -4000000000000000000 ≤ num) (h1 : num ≤ 4000000000000000000) (h2 : 1 ≤ den) (h3 : den ≤ 4000000000000000000) :
   Calls Try.prog 94 #[.int .i64 num, .int .i64 den] w fun e w' => e = .returned (.int .i64 (num / den)) ∧ w = w' := by
  by_cases h : 0 ≤ num
  · go_enter Try.func94, Try.ntmps94
    go_wp2
    go_ret
    exact ⟨rfl, rfl⟩
  · have hq := cdiv_bound (a := -num) h2 (show (0:Int) ≤ 8000000000000000000 by omega) (by omega) (by omega)
    have e2 := cdiv_neg (a := num) (d := den)
    have E2 := Lib.hid e2
    clear e2
    go_enter Try.func94, Try.ntmps94
    go_wp2_with (first | (go_at_call 90; (with_reducible refine (rf_up_c _ _ _ (by omega) (by omega) h2 h3).mono ?_); rintro e w1 ⟨rfl, rfl⟩))
    go_ret
    exact ⟨ret_int (by rw [E2.out]), rfl⟩

theorem rf_at_c (n : Int) (w : World) : Calls Try.prog 89 #[.int .i64 n] w fun e w' => e = .returned (.agg #[.int .i64 n, .int .i64 n]) ∧ Below w.heap.size w w' := by
  go_enter Try.func89, Try.ntmps89
  go_wp2
  exact bodyPost_ret (v := .agg #[.int .i64 n, .int .i64 n]) (by first | (simp (maxDischargeDepth := 9) [results, Try.results89, go_sem, hc1, hd1]; done) | (simp (maxDischargeDepth := 9) [results, Try.results89, go_sem, hc1]; done) | (simp [results, Try.results89, go_sem]; done)) rfl (⟨rfl, (by repeat' (first | exact Below.refl _ _ | assumption | refine Below.drew ?_ | refine bdn ?_ _ | refine bal ?_ _ | refine Below.setCell ?_ (by first | (simp; done) | omega | (simp; omega)) _))⟩)

theorem rf_Between_c (v : Value) (xs : List Int) (lo hi : Int) (w : World) (hv : Ints w v xs) (h0 : 0 < xs.length) :
   Calls Try.prog 97 #[v, .agg #[.int .i64 lo, .int .i64 hi]] w fun e w' => e = .returned (.bool (liesB xs lo hi)) ∧ Below w.heap.size w w' := by
  obtain ⟨A, c, rfl, hc1, hc2, _, hA⟩ := hv
  obtain ⟨b, off, rfl, hb, hc⟩ := hA h0
  have c0 := hc 0 h0
  simp only [Nat.add_zero] at c0
  have c1 := hc (xs.length - 1) (by omega)
  clear hc hA
  have hi0 : (0 : Int) < (xs.length : Int) := by omega
  have hi1 : (xs.length : Int) ≤ 9223372036854775807 := by omega
  have ht : ((xs.length : Int) - 1).toNat = xs.length - 1 := by omega
  cases h : decide (nth xs 0 ≤ lo)
  all_goals
    go_enter Try.func97, Try.ntmps97
    go_wp2
    go_quiet (fail)
    go_wp2
    go_ret
    exact ⟨ret_bool (by simp [liesB, h]), (by repeat' (first | exact Below.refl _ _ | assumption | refine Below.drew ?_ | refine bdn ?_ _ | refine bal ?_ _ | refine Below.setCell ?_ (by first | (simp; done) | omega | (simp; omega)) _))⟩

/-- sameInts of two lists. -/
theorem rf_same_c (v u : Value) (xs ys : List Int) (w : World) (hv : Ints w v xs) (hu : Ints w u ys) :
   Calls Try.prog 56 #[v, u] w fun e w' => e = .returned (.bool (decide (xs = ys))) ∧ Below w.heap.size w w' := by
  obtain ⟨A, c, rfl, hc1, hc2, _, hA⟩ := hv
  obtain ⟨A', c', rfl, hc1', hc2', _, hA'⟩ := hu
  by_cases hl : xs.length = ys.length
  · have hb : ((xs.length : Int) != (ys.length : Int)) = false := by simp [hl]
    have HL := Lib.hid hl
    rw [← hl] at hc1' hA' ⊢
    clear hl hb
    generalize hn : xs.length = n at *
    have HN := Lib.hid hn
    clear hn
    have hn9 : (n : Int) ≤ 9223372036854775807 := by omega
    have hb2 : ((n : Int) != (n : Int)) = false := by simp
    go_enter Try.func56, Try.ntmps56
    go_wp2
    go_loopw [5] (fun s wr => ∃ k : Nat, k ≤ n ∧ s = .int .i64 k ∧ Hid (Below w.heap.size w wr) ∧ Hid (∀ j, j < k → nth xs j = nth ys j)) (fun i _ => n - (intOf i).toNat)
    case atStart => exact ⟨0, by omega, rfl, Below.refl _ _, fun j hj => absurd hj (by omega)⟩
    case round =>
      obtain ⟨k, hk, rfl, hB, hF⟩ := hrel
      by_cases hlt : k < n
      · obtain ⟨b, off, rfl, hb1, hc⟩ := hA (by omega)
        obtain ⟨b', off', rfl, hb1', hc'⟩ := hA' (by omega)
        have hck := (hB.out.cell (p := ⟨b, off + k, none⟩) hb1).trans (hc k hlt)
        have hck' := (hB.out.cell (p := ⟨b', off' + k, none⟩) hb1').trans (hc' k hlt)
        clear hc hA hc' hA'
        by_cases he : nth xs k = nth ys k
        · have hne : (nth xs k != nth ys k) = false := by simp [he]
          go_wp2
          go_quiet (fail)
          go_wp2
          go_roundw
          case rel => exact ⟨k + 1, by omega, by go_num, bdn hB.out _, fun j hj => by
            by_cases e : j = k
            · subst e; exact he
            · exact hF.out j (by omega)⟩
          case measure => simp [intOf]; omega
        · have hne : (nth xs k != nth ys k) = true := by simp [he]
          go_wp2
          go_quiet (fail)
          go_wp2
          go_ret
          exact ⟨ret_bool (by simp only [Bool.false_eq, decide_eq_false_iff_not]; intro e; exact he (by rw [e])), bdn hB.out _⟩
      · obtain rfl : k = n := by omega
        clear hA hA'
        go_wp2
        go_ret
        exact ⟨ret_bool (by simp only [Bool.true_eq, decide_eq_true_eq]; exact ext_nth (HN.out.trans HL.out) (fun j hj => hF.out j (by rw [← HN.out]; exact hj))), hB.out⟩
  · have hb : ((xs.length : Int) != (ys.length : Int)) = true := by simp; omega
    have hne : ¬ xs = ys := fun e => hl (by rw [e])
    go_enter Try.func56, Try.ntmps56
    go_wp2
    go_ret
    exact ⟨ret_bool (by simp [hne]), Below.refl _ _⟩
end Go.Proofs.Ytoembbcddhlokaa
