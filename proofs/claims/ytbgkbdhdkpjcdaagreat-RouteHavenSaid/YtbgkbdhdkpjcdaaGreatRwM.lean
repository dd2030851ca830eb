/- Contracts: Worst, In of the reference of weather; what is flyable at the worst is flyable. -/
import Derived.Test.YtbgkbdhdkpjcdaaGreatJAM
set_option linter.all false
namespace Go.Proofs.YtbgkbdhdkpjcdaaGreat
open Go Go.RowKit Go.Proofs
set_option maxRecDepth 100000
set_option maxHeartbeats 8000000
def hasW (x : Sk) (p q r : Int) (i s : Bool) : Bool := inB p x.a0 x.a1 && (inB q x.a2 x.a3 && (inB r x.a4 x.a5 && ((!i || x.i) && (!s || x.s))))
theorem rw5Worst_c (x : Sk) (w : World) : Calls Tryz.prog 57 #[.agg #[.int .i64 x.a0, .int .i64 x.a1, .int .i64 x.a2, .int .i64 x.a3, .int .i64 x.a4, .int .i64 x.a5, .bool x.i, .bool x.s]] w
    fun e w' => e = .returned (.agg #[.int .i64 x.a1, .int .i64 x.a2, .int .i64 x.a4, .bool x.i, .bool x.s]) ∧ Below w.heap.size w w' := by
  obtain ⟨a0, a1, a2, a3, a4, a5, xi, xs⟩ := x
  go_enter Tryz.func57, Tryz.ntmps57
  go_wp2
  exact bodyPost_ret (res_c rfl _ _ _ 5 rfl (Blk.newA _ _ _ (by simp)) Tryz.rowWe rfl) rfl ⟨rfl, (by repeat' (first | exact Below.refl _ _ | assumption | refine Below.drew ?_ | refine bdn ?_ _ | refine bal ?_ _ | refine Below.setCell ?_ (by first | (simp; done) | omega | (simp; omega)) _))⟩
theorem rw5In_c (x : Sk) (p q r : Int) (wi ws : Bool) (w : World) :
   Calls Tryz.prog 58 #[.agg #[.int .i64 p, .int .i64 q, .int .i64 r, .bool wi, .bool ws], .agg x.cells] w fun e w' => e = .returned (.bool (hasW x p q r wi ws)) ∧ Below w.heap.size w w' := by
  obtain ⟨a0, a1, a2, a3, a4, a5, xi, xs⟩ := x
  unfold hasW Sk.cells
  dsimp only
  have h1 := fun w1 => rw_from_c p a0 a1 w1
  have h2 := fun w1 => rw_from_c q a2 a3 w1
  have h3 := fun w1 => rw_from_c r a4 a5 w1
  generalize inB p a0 a1 = B1 at *
  generalize inB q a2 a3 = B2 at *
  generalize inB r a4 a5 = B3 at *
  have H1 := Lib.hid h1
  have H2 := Lib.hid h2
  have H3 := Lib.hid h3
  clear h1 h2 h3
  have X1 : ∀ b : Bool, (false && b) = false := fun _ => rfl
  have X2 : ∀ b : Bool, (true && b) = b := fun _ => rfl
  cases B1
  · rw [X1]
    go_enter Tryz.func58, Tryz.ntmps58
    go_wp2_with (first | (go_at_call 64; (with_reducible refine (H1.out _).mono ?_); rintro e w1 ⟨rfl, rfl⟩) | (go_at_call 64; (with_reducible refine (H2.out _).mono ?_); rintro e w1 ⟨rfl, rfl⟩) | (go_at_call 64; (with_reducible refine (H3.out _).mono ?_); rintro e w1 ⟨rfl, rfl⟩))
    go_ret
    exact ⟨rfl, (by repeat' (first | exact Below.refl _ _ | assumption | refine Below.drew ?_ | refine bdn ?_ _ | refine bal ?_ _ | refine Below.setCell ?_ (by first | (simp; done) | omega | (simp; omega)) _))⟩
  rw [X2]
  cases B2
  · rw [X1]
    go_enter Tryz.func58, Tryz.ntmps58
    go_wp2_with (first | (go_at_call 64; (with_reducible refine (H1.out _).mono ?_); rintro e w1 ⟨rfl, rfl⟩) | (go_at_call 64; (with_reducible refine (H2.out _).mono ?_); rintro e w1 ⟨rfl, rfl⟩) | (go_at_call 64; (with_reducible refine (H3.out _).mono ?_); rintro e w1 ⟨rfl, rfl⟩))
    go_ret
    exact ⟨rfl, (by repeat' (first | exact Below.refl _ _ | assumption | refine Below.drew ?_ | refine bdn ?_ _ | refine bal ?_ _ | refine Below.setCell ?_ (by first | (simp; done) | omega | (simp; omega)) _))⟩
  rw [X2]
  cases B3
  · rw [X1]
    go_enter Tryz.func58, Tryz.ntmps58
    go_wp2_with (first | (go_at_call 64; (with_reducible refine (H1.out _).mono ?_); rintro e w1 ⟨rfl, rfl⟩) | (go_at_call 64; (with_reducible refine (H2.out _).mono ?_); rintro e w1 ⟨rfl, rfl⟩) | (go_at_call 64; (with_reducible refine (H3.out _).mono ?_); rintro e w1 ⟨rfl, rfl⟩))
    go_ret
    exact ⟨rfl, (by repeat' (first | exact Below.refl _ _ | assumption | refine Below.drew ?_ | refine bdn ?_ _ | refine bal ?_ _ | refine Below.setCell ?_ (by first | (simp; done) | omega | (simp; omega)) _))⟩
  rw [X2]
  cases wi <;> cases ws <;> cases xi <;> cases xs
  all_goals
    go_enter Tryz.func58, Tryz.ntmps58
    go_wp2_with (first | (go_at_call 64; (with_reducible refine (H1.out _).mono ?_); rintro e w1 ⟨rfl, rfl⟩) | (go_at_call 64; (with_reducible refine (H2.out _).mono ?_); rintro e w1 ⟨rfl, rfl⟩) | (go_at_call 64; (with_reducible refine (H3.out _).mono ?_); rintro e w1 ⟨rfl, rfl⟩))
    go_ret
    exact ⟨rfl, (by repeat' (first | exact Below.refl _ _ | assumption | refine Below.drew ?_ | refine bdn ?_ _ | refine bal ?_ _ | refine Below.setCell ?_ (by first | (simp; done) | omega | (simp; omega)) _))⟩
theorem fly_within {x : Sk} {p q r : Int} {i s : Bool} {lw ls lc : Int} {li lb : Bool} (h : openB x lw ls lc li lb = true) (hw : hasW x p q r i s = true) : flyB p q r i s lw ls lc li lb = true := by
  unfold openB at h
  unfold hasW at hw
  unfold flyB at *
  simp only [Bool.and_eq_true, decide_eq_true_eq] at h hw ⊢
  obtain ⟨h1, h2, h3, h4, h5⟩ := h
  obtain ⟨w1, w2, w3, w4, w5⟩ := hw
  have a1 := inB_iff.1 w1
  have a2 := inB_iff.1 w2
  have a3 := inB_iff.1 w3
  refine ⟨by omega, by omega, by omega, ?_, ?_⟩
  · cases i <;> cases x.i <;> simp_all
  · cases s <;> cases x.s <;> simp_all
end Go.Proofs.YtbgkbdhdkpjcdaaGreat
