/- Contracts: the limits of a table, package rotor. -/
import Derived.Test.YtoembbcddhlokaaRoC
set_option linter.all false
namespace Go.Proofs.Ytoembbcddhlokaa
open Go Go.RowKit Go.Proofs
set_option maxRecDepth 100000
set_option maxHeartbeats 4000000

theorem right1_c (n lo hi : Int) (b : Nat) (w : World) (h3 : w.cell? ⟨b, 3, none⟩ = some (.int .i64 lo)) (h4 : w.cell? ⟨b, 4, none⟩ = some (.int .i64 hi)) :
   Calls Try.prog 103 #[.int .i64 n, .pointer (some ⟨b, 0, none⟩)] w fun e w' => e = .returned (.bool (!inB n lo hi)) ∧ Below w.heap.size w w' := by
  cases h : inB n lo hi
  all_goals
    go_enter Try.func103, Try.ntmps103
    go_wp2_with (first | (go_at_call 53; (with_reducible refine (ro_within_c _ _ _ _).mono ?_); rintro e w1 ⟨rfl, rfl⟩))
    go_ret
    exact ⟨rfl, (by repeat' (first | exact Below.refl _ _ | assumption | refine Below.drew ?_ | refine bdn ?_ _ | refine bal ?_ _ | refine Below.setCell ?_ (by first | (simp; done) | omega | (simp; omega)) _))⟩

/-- A row with a number outside of the limits. -/
def rowOff (lo hi : Int) (xs : List Int) : Bool := (List.range xs.length).any fun i => !inB (nth xs i) lo hi
theorem cell_lt {w : World} {b o : Nat} {v : Value} (h : w.cell? ⟨b, o, none⟩ = some v) : b < w.heap.size := blk_lt h

theorem right2_c (v : Value) (xs : List Int) (lo hi : Int) (b b2 : Nat) (w : World) (hv : Ints w v xs)
    (h3 : w.cell? ⟨b, 3, none⟩ = some (.int .i64 lo)) (h4 : w.cell? ⟨b, 4, none⟩ = some (.int .i64 hi))
    (hf : w.cell? ⟨b2, 0, none⟩ = some (.func (.func 103) #[] #[.pointer (some ⟨b, 0, none⟩)])) :
   Calls Try.prog 105 #[v, .pointer (some ⟨b2, 0, none⟩)] w fun e w' => e = .returned (.bool (rowOff lo hi xs)) ∧ Below w.heap.size w w' := by
  obtain ⟨A, c, rfl, hc1, hc2, _, hA⟩ := hv
  have hcf := cfInt_c A xs.length c (nth xs) 103 #[.pointer (some ⟨b, 0, none⟩)] (fun i => !inB (nth xs i) lo hi) w (by omega) (enters_of Try.func103 (by kernel_rfl) rfl) hA
    (fun W i _ hb => right1_c (nth xs i) lo hi b W ((hb.cell (p := ⟨b, 3, none⟩) (cell_lt h3)).trans h3) ((hb.cell (p := ⟨b, 4, none⟩) (cell_lt h4)).trans h4))
  have HC := Lib.hid hcf
  clear hcf h3 h4 hA
  unfold rowOff
  generalize ((List.range xs.length).any fun i => !inB (nth xs i) lo hi) = r at *
  cases r
  all_goals
    go_enter Try.func105, Try.ntmps105
    go_wp2_with (first | (go_at_call 106; (with_reducible refine HC.out.mono ?_); rintro e w1 ⟨rfl, hb1⟩))
    go_ret
    exact ⟨rfl, hb1⟩

def offB (lo hi : Int) (V : List (List Int)) : Bool := (List.range V.length).any fun i => rowOff lo hi (nthR V i)
def rightB (T : Tbl) (lo hi : Int) : Bool := tblB T && !offB lo hi T.V

theorem rows_any (v : Value) (V : List (List Int)) (lo hi : Int) (b b2 : Nat) (w : World) (hv : Rows w v V)
    (h3 : w.cell? ⟨b, 3, none⟩ = some (.int .i64 lo)) (h4 : w.cell? ⟨b, 4, none⟩ = some (.int .i64 hi))
    (hf : w.cell? ⟨b2, 0, none⟩ = some (.func (.func 103) #[] #[.pointer (some ⟨b, 0, none⟩)])) :
   Calls Try.prog 104 #[v, .func (.func 105) #[] #[.pointer (some ⟨b2, 0, none⟩)]] w fun e w' => e = .returned (.bool (offB lo hi V)) ∧ Below w.heap.size w w' := by
  obtain ⟨A, c, vs, rfl, hc1, hc2, hA, hrow⟩ := hv
  exact cfRow_c A V.length c vs 105 #[.pointer (some ⟨b2, 0, none⟩)] (fun i => rowOff lo hi (nthR V i)) w (by omega) (enters_of Try.func105 (by kernel_rfl) rfl) hA
    (fun W i hi' hb => right2_c (vs i) (nthR V i) lo hi b b2 W ((hrow i hi').below hb) ((hb.cell (p := ⟨b, 3, none⟩) (cell_lt h3)).trans h3) ((hb.cell (p := ⟨b, 4, none⟩) (cell_lt h4)).trans h4) ((hb.cell (p := ⟨b2, 0, none⟩) (cell_lt hf)).trans hf))

theorem right_c (x y v : Value) (T : Tbl) (lo hi : Int) (w : World) (hT : TblAt w x y v T) :
   Calls Try.prog 51 #[.agg #[x, y, v, .int .i64 lo, .int .i64 hi]] w fun e w' => e = .returned (.bool (rightB T lo hi)) ∧ Below w.heap.size w w' := by
  have e1 := tblE_t
  have e2 := tblE_f
  have HT := Lib.hid hT
  clear hT
  unfold rightB
  cases h1 : tblB T
  · go_enter Try.func51, Try.ntmps51
    go_wp2_with (first | (go_at_call 61; (with_reducible refine (CheckTable_c _ _ _ T _ (HT.out.below (by repeat' (first | exact Below.refl _ _ | assumption | refine Below.drew ?_ | refine bdn ?_ _ | refine bal ?_ _ | refine Below.setCell ?_ (by first | (simp; done) | omega | (simp; omega)) _)))).mono ?_); rintro e w1 ⟨rfl, hb1⟩; have hB1 := bthen (show Below w.heap.size w _ from (by repeat' (first | exact Below.refl _ _ | assumption | refine Below.drew ?_ | refine bdn ?_ _ | refine bal ?_ _ | refine Below.setCell ?_ (by first | (simp; done) | omega | (simp; omega)) _))) hb1; have hz1 := hb1.size; (try simp at hz1); obtain ⟨hc1, hf1⟩ := bcell hb1; first | (have hE1 := bthen2 hE (by repeat' (first | exact Below.refl _ _ | refine Below.drew ?_ | refine bdn ?_ _ | refine bal ?_ _ | refine Below.setCell ?_ (by first | (simp; done) | omega | (simp; omega)) _)) hb1; clear hE; have hE := hE1; clear hE1; obtain ⟨hd1, hg1⟩ := bcell hE) | (have hE := hb1)))
    go_ret
    exact ⟨ret_bool (by simp), (by repeat' (first | exact Below.refl _ _ | assumption | refine Below.drew ?_ | refine bdn ?_ _ | refine bal ?_ _ | refine Below.setCell ?_ (by first | (simp; done) | omega | (simp; omega)) _))⟩
  · cases h2 : offB lo hi T.V
    all_goals
      go_enter Try.func51, Try.ntmps51
      go_wp2_with (first | (go_at_call 61; (with_reducible refine (CheckTable_c _ _ _ T _ (HT.out.below (by repeat' (first | exact Below.refl _ _ | assumption | refine Below.drew ?_ | refine bdn ?_ _ | refine bal ?_ _ | refine Below.setCell ?_ (by first | (simp; done) | omega | (simp; omega)) _)))).mono ?_); rintro e w1 ⟨rfl, hb1⟩; have hB1 := bthen (show Below w.heap.size w _ from (by repeat' (first | exact Below.refl _ _ | assumption | refine Below.drew ?_ | refine bdn ?_ _ | refine bal ?_ _ | refine Below.setCell ?_ (by first | (simp; done) | omega | (simp; omega)) _))) hb1; have hz1 := hb1.size; (try simp at hz1); obtain ⟨hc1, hf1⟩ := bcell hb1; have R1 := Lib.hid (show Blk w1 w.heap.size 82 #[x, y, v, .int .i64 lo, .int .i64 hi] from Blk.below (by repeat (first | (refine Blk.newAt _ _ _ ?_; first | rfl | (simp; done)) | refine Blk.alloc ?_ _)) hb1); have R2 := Lib.hid (show w1.cell? ⟨w.heap.size + 1, 0, none⟩ = some (.func (.func 103) #[] #[.pointer (some ⟨w.heap.size, 0, none⟩)]) from (Blk.below (show Blk _ (w.heap.size + 1) 121 #[.func (.func 103) #[] #[.pointer (some ⟨w.heap.size, 0, none⟩)]] from (by repeat (first | (refine Blk.newAt _ _ _ ?_; first | rfl | (simp; done)) | refine Blk.alloc ?_ _))) hb1).cell 0)) | (go_at_call 104; (with_reducible refine (rows_any _ T.V lo hi _ _ _ (HT.out.v.below (by repeat' (first | exact Below.refl _ _ | assumption | refine Below.drew ?_ | refine bdn ?_ _ | refine bal ?_ _ | refine Below.setCell ?_ (by first | (simp; done) | omega | (simp; omega)) _))) (R1.out.cell 3) (R1.out.cell 4) R2.out).mono ?_); rintro e w2 ⟨rfl, hb2⟩; have hB2 := bthen hB1 hb2))
      go_ret
      exact ⟨rfl, hB2⟩
end Go.Proofs.Ytoembbcddhlokaa
