/- Contracts: lies, checkPoints of package spans. -/
import Derived.Test.YtoembbcddhlokaaSpC
set_option linter.all false
namespace Go.Proofs.Ytoembbcddhlokaa
open Go Go.RowKit Go.Proofs

def liesB (xs : List Int) (lo hi : Int) : Bool := decide (nth xs 0 ≤ lo) && decide (hi ≤ nth xs (xs.length - 1))

theorem lies_c (v : Value) (xs : List Int) (lo hi : Int) (w : World) (hv : Ints w v xs) (h0 : 0 < xs.length) :
   Calls Try.prog 62 #[v, .agg #[.int .i64 lo, .int .i64 hi]] w fun e w' => e = .returned (.bool (liesB xs lo hi)) ∧ Below w.heap.size w w' := by
  obtain ⟨A, c, rfl, hc1, hc2, _, hA⟩ := hv
  obtain ⟨b, off, rfl, hb, hc⟩ := hA h0
  have c0 := hc 0 h0
  simp only [Nat.add_zero] at c0
  have c1 := hc (xs.length - 1) (by omega)
  clear hc hA
  have hi0 : (0 : Int) < (xs.length : Int) := by omega
  have hi1 : (xs.length : Int) ≤ 9223372036854775807 := by omega
  have ht : ((xs.length : Int) - 1).toNat = xs.length - 1 := by omega
  by_cases h : nth xs 0 ≤ lo
  · go_enter Try.func62, Try.ntmps62
    go_wp2
    go_quiet (fail)
    go_wp2
    go_ret
    exact ⟨ret_bool (by simp [liesB, h]), (by repeat' (first | exact Below.refl _ _ | assumption | refine Below.drew ?_ | refine bdn ?_ _ | refine bal ?_ _ | refine Below.setCell ?_ (by first | (simp; done) | omega | (simp; omega)) _))⟩
  · have hd : decide (nth xs 0 ≤ lo) = false := by simpa using h
    go_enter Try.func62, Try.ntmps62
    go_wp2
    go_quiet (fail)
    go_wp2
    go_ret
    exact ⟨ret_bool (by simp [liesB, hd]), (by repeat' (first | exact Below.refl _ _ | assumption | refine Below.drew ?_ | refine bdn ?_ _ | refine bal ?_ _ | refine Below.setCell ?_ (by first | (simp; done) | omega | (simp; omega)) _))⟩

theorem anyBad2 (lo hi : Nat → Int) : anyBad 2 lo hi = (!vspan (lo 0) (hi 0) || !vspan (lo 1) (hi 1)) := by
  simp [anyBad, List.range_succ]
theorem anyBad1 (lo hi : Nat → Int) : anyBad 1 lo hi = !vspan (lo 0) (hi 0) := by
  simp [anyBad, List.range_succ]

theorem spanned2_c (b c : Nat) (xl xh yl yh : Int) (w : World) (h0 : w.cell? ⟨b, 0, none⟩ = some (.int .i64 xl)) (h1 : w.cell? ⟨b, 1, none⟩ = some (.int .i64 xh))
    (h2 : w.cell? ⟨b, 2, none⟩ = some (.int .i64 yl)) (h3 : w.cell? ⟨b, 3, none⟩ = some (.int .i64 yh)) :
   Calls Try.prog 100 #[.slice (some ⟨b, 0, none⟩) 2 c] w fun e w' => e = .returned (.int .i64 (spanE (!vspan xl xh || !vspan yl yh))) ∧ Below w.heap.size w w' := by
  have h := spanned_c (some ⟨b, 0, none⟩) 2 c (fun i => if i = 0 then xl else yl) (fun i => if i = 0 then xh else yh) w (by omega)
    (fun _ => ⟨b, 0, rfl, blk_lt h0, fun k hk => by
      rcases (show k = 0 ∨ k = 1 by omega) with rfl | rfl
      · simpa using ⟨h0, h1⟩
      · simpa using ⟨h2, h3⟩⟩)
  rw [anyBad2] at h
  exact h

def cpE (T : Tbl) (xl xh yl yh : Int) : Int :=
  if tblB T then (if vspan xl xh && vspan yl yh then (if liesB T.X xl xh && liesB T.Y yl yh then 0 else 1) else 10) else 11

theorem axisB_len {l : List Int} (h : axisB l = true) : 2 ≤ l.length ∧ l.length ≤ 12 := by
  unfold axisB at h; simp only [Bool.and_eq_true] at h; have := inB_iff.1 h.1; omega
theorem tblB_X {T : Tbl} (h : tblB T = true) : axisB T.X = true := by unfold tblB at h; simp only [Bool.and_eq_true] at h; exact h.1.1.1
theorem tblB_Y {T : Tbl} (h : tblB T = true) : axisB T.Y = true := by unfold tblB at h; simp only [Bool.and_eq_true] at h; exact h.1.1.2

set_option maxHeartbeats 800000 in
theorem checkPoints_c (x y v : Value) (T : Tbl) (xl xh yl yh : Int) (w : World) (hT : TblAt w x y v T) :
   Calls Try.prog 81 #[.agg #[x, y, v], .agg #[.int .i64 xl, .int .i64 xh], .agg #[.int .i64 yl, .int .i64 yh]] w fun e w' => e = .returned (.int .i64 (cpE T xl xh yl yh)) ∧ Below w.heap.size w w' := by
  have e1 := tblE_t
  have e2 := tblE_f
  have e3 := spanE_t
  have e4 := spanE_f
  cases h1 : tblB T
  · go_enter Try.func81, Try.ntmps81
    go_wp2_with (first | (go_at_call 61; (with_reducible refine (CheckTable_c _ _ _ T _ (hT.below (by repeat' (first | exact Below.refl _ _ | assumption | refine Below.drew ?_ | refine bdn ?_ _ | refine bal ?_ _ | refine Below.setCell ?_ (by first | (simp; done) | omega | (simp; omega)) _)))).mono ?_); rintro e w1 ⟨rfl, hb1⟩; have hB1 := bthen (show Below w.heap.size w _ from (by repeat' (first | exact Below.refl _ _ | assumption | refine Below.drew ?_ | refine bdn ?_ _ | refine bal ?_ _ | refine Below.setCell ?_ (by first | (simp; done) | omega | (simp; omega)) _))) hb1; have hz1 := hb1.size; (try simp at hz1); obtain ⟨hc1, hf1⟩ := bcell hb1; first | (have hE1 := bthen2 hE (by repeat' (first | exact Below.refl _ _ | refine Below.drew ?_ | refine bdn ?_ _ | refine bal ?_ _ | refine Below.setCell ?_ (by first | (simp; done) | omega | (simp; omega)) _)) hb1; clear hE; have hE := hE1; clear hE1; obtain ⟨hd1, hg1⟩ := bcell hE) | (have hE := hb1)))
    go_ret
    exact ⟨ret_int (by simp [cpE, h1]), (by repeat' (first | exact Below.refl _ _ | assumption | refine Below.drew ?_ | refine bdn ?_ _ | refine bal ?_ _ | refine Below.setCell ?_ (by first | (simp; done) | omega | (simp; omega)) _))⟩
  · have hX := axisB_len (tblB_X h1)
    have hY := axisB_len (tblB_Y h1)
    cases h2 : vspan xl xh
    · go_enter Try.func81, Try.ntmps81
      go_wp2_with (first | (go_at_call 61; (with_reducible refine (CheckTable_c _ _ _ T _ (hT.below (by repeat' (first | exact Below.refl _ _ | assumption | refine Below.drew ?_ | refine bdn ?_ _ | refine bal ?_ _ | refine Below.setCell ?_ (by first | (simp; done) | omega | (simp; omega)) _)))).mono ?_); rintro e w1 ⟨rfl, hb1⟩; have hB1 := bthen (show Below w.heap.size w _ from (by repeat' (first | exact Below.refl _ _ | assumption | refine Below.drew ?_ | refine bdn ?_ _ | refine bal ?_ _ | refine Below.setCell ?_ (by first | (simp; done) | omega | (simp; omega)) _))) hb1; have hz1 := hb1.size; (try simp at hz1); obtain ⟨hc1, hf1⟩ := bcell hb1; first | (have hE1 := bthen2 hE (by repeat' (first | exact Below.refl _ _ | refine Below.drew ?_ | refine bdn ?_ _ | refine bal ?_ _ | refine Below.setCell ?_ (by first | (simp; done) | omega | (simp; omega)) _)) hb1; clear hE; have hE := hE1; clear hE1; obtain ⟨hd1, hg1⟩ := bcell hE) | (have hE := hb1)) | (go_at_call 100; (with_reducible refine (spanned2_c _ _ xl xh yl yh _ (by simp) (by simp) (by simp) (by simp)).mono ?_); rintro e w1 ⟨rfl, hb1⟩; have hB1 := bthen (show Below w.heap.size w _ from (by repeat' (first | exact Below.refl _ _ | assumption | refine Below.drew ?_ | refine bdn ?_ _ | refine bal ?_ _ | refine Below.setCell ?_ (by first | (simp; done) | omega | (simp; omega)) _))) hb1; have hz1 := hb1.size; (try simp at hz1); obtain ⟨hc1, hf1⟩ := bcell hb1; first | (have hE1 := bthen2 hE (by repeat' (first | exact Below.refl _ _ | refine Below.drew ?_ | refine bdn ?_ _ | refine bal ?_ _ | refine Below.setCell ?_ (by first | (simp; done) | omega | (simp; omega)) _)) hb1; clear hE; have hE := hE1; clear hE1; obtain ⟨hd1, hg1⟩ := bcell hE) | (have hE := hb1)))
      go_ret
      exact ⟨ret_int (by simp [cpE, h1, h2]), (by repeat' (first | exact Below.refl _ _ | assumption | refine Below.drew ?_ | refine bdn ?_ _ | refine bal ?_ _ | refine Below.setCell ?_ (by first | (simp; done) | omega | (simp; omega)) _))⟩
    · cases h3 : vspan yl yh
      · go_enter Try.func81, Try.ntmps81
        go_wp2_with (first | (go_at_call 61; (with_reducible refine (CheckTable_c _ _ _ T _ (hT.below (by repeat' (first | exact Below.refl _ _ | assumption | refine Below.drew ?_ | refine bdn ?_ _ | refine bal ?_ _ | refine Below.setCell ?_ (by first | (simp; done) | omega | (simp; omega)) _)))).mono ?_); rintro e w1 ⟨rfl, hb1⟩; have hB1 := bthen (show Below w.heap.size w _ from (by repeat' (first | exact Below.refl _ _ | assumption | refine Below.drew ?_ | refine bdn ?_ _ | refine bal ?_ _ | refine Below.setCell ?_ (by first | (simp; done) | omega | (simp; omega)) _))) hb1; have hz1 := hb1.size; (try simp at hz1); obtain ⟨hc1, hf1⟩ := bcell hb1; first | (have hE1 := bthen2 hE (by repeat' (first | exact Below.refl _ _ | refine Below.drew ?_ | refine bdn ?_ _ | refine bal ?_ _ | refine Below.setCell ?_ (by first | (simp; done) | omega | (simp; omega)) _)) hb1; clear hE; have hE := hE1; clear hE1; obtain ⟨hd1, hg1⟩ := bcell hE) | (have hE := hb1)) | (go_at_call 100; (with_reducible refine (spanned2_c _ _ xl xh yl yh _ (by simp) (by simp) (by simp) (by simp)).mono ?_); rintro e w1 ⟨rfl, hb1⟩; have hB1 := bthen (show Below w.heap.size w _ from (by repeat' (first | exact Below.refl _ _ | assumption | refine Below.drew ?_ | refine bdn ?_ _ | refine bal ?_ _ | refine Below.setCell ?_ (by first | (simp; done) | omega | (simp; omega)) _))) hb1; have hz1 := hb1.size; (try simp at hz1); obtain ⟨hc1, hf1⟩ := bcell hb1; first | (have hE1 := bthen2 hE (by repeat' (first | exact Below.refl _ _ | refine Below.drew ?_ | refine bdn ?_ _ | refine bal ?_ _ | refine Below.setCell ?_ (by first | (simp; done) | omega | (simp; omega)) _)) hb1; clear hE; have hE := hE1; clear hE1; obtain ⟨hd1, hg1⟩ := bcell hE) | (have hE := hb1)))
        go_ret
        exact ⟨ret_int (by simp [cpE, h1, h2, h3]), (by repeat' (first | exact Below.refl _ _ | assumption | refine Below.drew ?_ | refine bdn ?_ _ | refine bal ?_ _ | refine Below.setCell ?_ (by first | (simp; done) | omega | (simp; omega)) _))⟩
      · cases h4 : liesB T.X xl xh
        · go_enter Try.func81, Try.ntmps81
          go_wp2_with (first | (go_at_call 61; (with_reducible refine (CheckTable_c _ _ _ T _ (hT.below (by repeat' (first | exact Below.refl _ _ | assumption | refine Below.drew ?_ | refine bdn ?_ _ | refine bal ?_ _ | refine Below.setCell ?_ (by first | (simp; done) | omega | (simp; omega)) _)))).mono ?_); rintro e w1 ⟨rfl, hb1⟩; have hB1 := bthen (show Below w.heap.size w _ from (by repeat' (first | exact Below.refl _ _ | assumption | refine Below.drew ?_ | refine bdn ?_ _ | refine bal ?_ _ | refine Below.setCell ?_ (by first | (simp; done) | omega | (simp; omega)) _))) hb1; have hz1 := hb1.size; (try simp at hz1); obtain ⟨hc1, hf1⟩ := bcell hb1; first | (have hE1 := bthen2 hE (by repeat' (first | exact Below.refl _ _ | refine Below.drew ?_ | refine bdn ?_ _ | refine bal ?_ _ | refine Below.setCell ?_ (by first | (simp; done) | omega | (simp; omega)) _)) hb1; clear hE; have hE := hE1; clear hE1; obtain ⟨hd1, hg1⟩ := bcell hE) | (have hE := hb1)) | (go_at_call 100; (with_reducible refine (spanned2_c _ _ xl xh yl yh _ (by simp) (by simp) (by simp) (by simp)).mono ?_); rintro e w1 ⟨rfl, hb1⟩; have hB1 := bthen (show Below w.heap.size w _ from (by repeat' (first | exact Below.refl _ _ | assumption | refine Below.drew ?_ | refine bdn ?_ _ | refine bal ?_ _ | refine Below.setCell ?_ (by first | (simp; done) | omega | (simp; omega)) _))) hb1; have hz1 := hb1.size; (try simp at hz1); obtain ⟨hc1, hf1⟩ := bcell hb1; first | (have hE1 := bthen2 hE (by repeat' (first | exact Below.refl _ _ | refine Below.drew ?_ | refine bdn ?_ _ | refine bal ?_ _ | refine Below.setCell ?_ (by first | (simp; done) | omega | (simp; omega)) _)) hb1; clear hE; have hE := hE1; clear hE1; obtain ⟨hd1, hg1⟩ := bcell hE) | (have hE := hb1)) | (go_at_call 62; (with_reducible refine (lies_c x T.X _ _ _ (hT.x.below (by repeat' (first | exact Below.refl _ _ | assumption | refine Below.drew ?_ | refine bdn ?_ _ | refine bal ?_ _ | refine Below.setCell ?_ (by first | (simp; done) | omega | (simp; omega)) _))) (by omega)).mono ?_); rintro e w1 ⟨rfl, hb1⟩; have hB1 := bthen (show Below w.heap.size w _ from (by repeat' (first | exact Below.refl _ _ | assumption | refine Below.drew ?_ | refine bdn ?_ _ | refine bal ?_ _ | refine Below.setCell ?_ (by first | (simp; done) | omega | (simp; omega)) _))) hb1; have hz1 := hb1.size; (try simp at hz1); obtain ⟨hc1, hf1⟩ := bcell hb1; first | (have hE1 := bthen2 hE (by repeat' (first | exact Below.refl _ _ | refine Below.drew ?_ | refine bdn ?_ _ | refine bal ?_ _ | refine Below.setCell ?_ (by first | (simp; done) | omega | (simp; omega)) _)) hb1; clear hE; have hE := hE1; clear hE1; obtain ⟨hd1, hg1⟩ := bcell hE) | (have hE := hb1)))
          go_ret
          exact ⟨ret_int (by simp [cpE, h1, h2, h3, h4]), (by repeat' (first | exact Below.refl _ _ | assumption | refine Below.drew ?_ | refine bdn ?_ _ | refine bal ?_ _ | refine Below.setCell ?_ (by first | (simp; done) | omega | (simp; omega)) _))⟩
        · cases h5 : liesB T.Y yl yh
          all_goals
            go_enter Try.func81, Try.ntmps81
            go_wp2_with (first | (go_at_call 61; (with_reducible refine (CheckTable_c _ _ _ T _ (hT.below (by repeat' (first | exact Below.refl _ _ | assumption | refine Below.drew ?_ | refine bdn ?_ _ | refine bal ?_ _ | refine Below.setCell ?_ (by first | (simp; done) | omega | (simp; omega)) _)))).mono ?_); rintro e w1 ⟨rfl, hb1⟩; have hB1 := bthen (show Below w.heap.size w _ from (by repeat' (first | exact Below.refl _ _ | assumption | refine Below.drew ?_ | refine bdn ?_ _ | refine bal ?_ _ | refine Below.setCell ?_ (by first | (simp; done) | omega | (simp; omega)) _))) hb1; have hz1 := hb1.size; (try simp at hz1); obtain ⟨hc1, hf1⟩ := bcell hb1; first | (have hE1 := bthen2 hE (by repeat' (first | exact Below.refl _ _ | refine Below.drew ?_ | refine bdn ?_ _ | refine bal ?_ _ | refine Below.setCell ?_ (by first | (simp; done) | omega | (simp; omega)) _)) hb1; clear hE; have hE := hE1; clear hE1; obtain ⟨hd1, hg1⟩ := bcell hE) | (have hE := hb1)) | (go_at_call 100; (with_reducible refine (spanned2_c _ _ xl xh yl yh _ (by simp) (by simp) (by simp) (by simp)).mono ?_); rintro e w1 ⟨rfl, hb1⟩; have hB1 := bthen (show Below w.heap.size w _ from (by repeat' (first | exact Below.refl _ _ | assumption | refine Below.drew ?_ | refine bdn ?_ _ | refine bal ?_ _ | refine Below.setCell ?_ (by first | (simp; done) | omega | (simp; omega)) _))) hb1; have hz1 := hb1.size; (try simp at hz1); obtain ⟨hc1, hf1⟩ := bcell hb1; first | (have hE1 := bthen2 hE (by repeat' (first | exact Below.refl _ _ | refine Below.drew ?_ | refine bdn ?_ _ | refine bal ?_ _ | refine Below.setCell ?_ (by first | (simp; done) | omega | (simp; omega)) _)) hb1; clear hE; have hE := hE1; clear hE1; obtain ⟨hd1, hg1⟩ := bcell hE) | (have hE := hb1)) | (go_at_call 62; (with_reducible refine (lies_c x T.X _ _ _ (hT.x.below (by repeat' (first | exact Below.refl _ _ | assumption | refine Below.drew ?_ | refine bdn ?_ _ | refine bal ?_ _ | refine Below.setCell ?_ (by first | (simp; done) | omega | (simp; omega)) _))) (by omega)).mono ?_); rintro e w1 ⟨rfl, hb1⟩; have hB1 := bthen (show Below w.heap.size w _ from (by repeat' (first | exact Below.refl _ _ | assumption | refine Below.drew ?_ | refine bdn ?_ _ | refine bal ?_ _ | refine Below.setCell ?_ (by first | (simp; done) | omega | (simp; omega)) _))) hb1; have hz1 := hb1.size; (try simp at hz1); obtain ⟨hc1, hf1⟩ := bcell hb1; first | (have hE1 := bthen2 hE (by repeat' (first | exact Below.refl _ _ | refine Below.drew ?_ | refine bdn ?_ _ | refine bal ?_ _ | refine Below.setCell ?_ (by first | (simp; done) | omega | (simp; omega)) _)) hb1; clear hE; have hE := hE1; clear hE1; obtain ⟨hd1, hg1⟩ := bcell hE) | (have hE := hb1)) | (go_at_call 62; (with_reducible refine (lies_c y T.Y _ _ _ (hT.y.below (by repeat' (first | exact Below.refl _ _ | assumption | refine Below.drew ?_ | refine bdn ?_ _ | refine bal ?_ _ | refine Below.setCell ?_ (by first | (simp; done) | omega | (simp; omega)) _))) (by omega)).mono ?_); rintro e w1 ⟨rfl, hb1⟩; have hB1 := bthen (show Below w.heap.size w _ from (by repeat' (first | exact Below.refl _ _ | assumption | refine Below.drew ?_ | refine bdn ?_ _ | refine bal ?_ _ | refine Below.setCell ?_ (by first | (simp; done) | omega | (simp; omega)) _))) hb1; have hz1 := hb1.size; (try simp at hz1); obtain ⟨hc1, hf1⟩ := bcell hb1; first | (have hE1 := bthen2 hE (by repeat' (first | exact Below.refl _ _ | refine Below.drew ?_ | refine bdn ?_ _ | refine bal ?_ _ | refine Below.setCell ?_ (by first | (simp; done) | omega | (simp; omega)) _)) hb1; clear hE; have hE := hE1; clear hE1; obtain ⟨hd1, hg1⟩ := bcell hE) | (have hE := hb1)))
            go_ret
            exact ⟨ret_int (by simp [cpE, h1, h2, h3, h4, h5]), (by repeat' (first | exact Below.refl _ _ | assumption | refine Below.drew ?_ | refine bdn ?_ _ | refine bal ?_ _ | refine Below.setCell ?_ (by first | (simp; done) | omega | (simp; omega)) _))⟩
end Go.Proofs.Ytoembbcddhlokaa
