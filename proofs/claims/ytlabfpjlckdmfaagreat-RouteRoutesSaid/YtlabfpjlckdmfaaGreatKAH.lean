/- Texts joined: KAH. -/
import Derived.Test.YtlabfpjlckdmfaaGreatKAG
import Derived.Test.YtlabfpjlckdmfaaGreatKAF
import Derived.Laws.CopyRow
import Derived.OwnWalk
import Derived.Test.YtlabfpjlckdmfaaGreatKAC
import Derived.Test.YtlabfpjlckdmfaaGreatKAB
import Derived.OpenShut
import Derived.Deep.Slices
import Derived.ChangeArms
import Derived.ChangeSlices
import Derived.WideShapes
import Derived.Test.YtlabfpjlckdmfaaGreatRows
import Derived.WalkKit
import Derived.ProofKit
import Derived.Below
import Derived.Carry
import Derived.ChangeSame
set_option linter.all false
namespace Go.Proofs.YtlabfpjlckdmfaaGreat
open Go Go.RowKit Go.Proofs
structure Sk where
 a0 : Int
 a1 : Int
 a2 : Int
 a3 : Int
 a4 : Int
 a5 : Int
 i : Bool
 s : Bool
def Sk.ok (x : Sk) : Prop := vspan x.a0 x.a1 = true ∧ vspan x.a2 x.a3 = true ∧ vspan x.a4 x.a5 = true
def Sk.cells (x : Sk) : Array Value := #[.int .i64 x.a0, .int .i64 x.a1, .int .i64 x.a2, .int .i64 x.a3, .int .i64 x.a4, .int .i64 x.a5, .bool x.i, .bool x.s]
def Sk.cut (x b : Sk) : Sk := ⟨cuL x.a0 x.a1 b.a0 b.a1, cuH x.a0 x.a1 b.a0 b.a1, cuL x.a2 x.a3 b.a2 b.a3, cuH x.a2 x.a3 b.a2 b.a3, cuL x.a4 x.a5 b.a4 b.a5, cuH x.a4 x.a5 b.a4 b.a5, x.i, x.s⟩
def Sk.odd (x b : Sk) : Bool := skF x.a0 x.a1 x.a2 x.a3 x.a4 x.a5 b.a0 b.a1 b.a2 b.a3 b.a4 b.a5
structure MetD where
 places : Int
 any : Sk
 mw : Int
 ms : Int
 mc : Int
 n : Nat
 D : Nat → Nat → Int
 B : Nat → Nat → Bool
 m : Nat
 E : Nat → Nat → Int
 C : Nat → Nat → Bool
def fcV (D : Nat → Nat → Int) (B : Nat → Nat → Bool) (i j : Nat) : Value := if j < 10 then .int .i64 (D i j) else .bool (B i j)
def siV (E : Nat → Nat → Int) (C : Nat → Nat → Bool) (i j : Nat) : Value := if j < 5 then .int .i64 (E i j) else .bool (C i j)
def MetD.fc (M : MetD) (i : Nat) : Sk := ⟨M.D i 4, M.D i 5, M.D i 6, M.D i 7, M.D i 8, M.D i 9, M.B i 10, M.B i 11⟩
def MetD.covP (M : MetD) (p t : Int) (i : Nat) : Bool := decide (M.D i 0 = p) && inB t (M.D i 1) (M.D i 2 - 1)
def MetD.cov (M : MetD) (p t : Int) (k : Nat) : List Nat := (List.range k).filter (M.covP p t)
def MetD.ordF (M : MetD) (p t : Int) : List Nat := stab (fun i => M.D i 3) (M.cov p t M.n)
def MetD.stepF (M : MetD) (x : Sk) (i : Nat) : Sk := { x.cut (M.fc i) with i := x.i && M.B i 10, s := x.s && M.B i 11 }
def MetD.skyF (M : MetD) (l : List Nat) : Sk := l.foldl M.stepF M.any
def MetD.oddF (M : MetD) : Sk → List Nat → List Nat
 | _, [] => []
 | x, i :: l => if x.odd (M.fc i) then i :: M.oddF (M.stepF x i) l else M.oddF (M.stepF x i) l
def MetD.senP (M : MetD) (p t : Int) (i : Nat) : Bool := decide (M.E i 0 = p) && decide (M.E i 1 ≤ t)
def MetD.sen (M : MetD) (p t : Int) (k : Nat) : List Nat := (List.range k).filter (M.senP p t)
def MetD.ordS (M : MetD) (p t : Int) : List Nat := stab (fun i => M.E i 1) (M.sen p t M.m)
def MetD.si (M : MetD) (t : Int) (i : Nat) : Sk := ⟨neL (M.E i 2) ((t - M.E i 1) * M.mw) 300, neH (M.E i 2) ((t - M.E i 1) * M.mw) 300, neL (M.E i 3) ((t - M.E i 1) * M.ms) 20000, neH (M.E i 3) ((t - M.E i 1) * M.ms) 20000,
 neL (M.E i 4) ((t - M.E i 1) * M.mc) 20000, neH (M.E i 4) ((t - M.E i 1) * M.mc) 20000, false, false⟩
def MetD.stepS (M : MetD) (t : Int) (x : Sk) (i : Nat) : Sk := if t - M.E i 1 = 0 then { x.cut (M.si t i) with i := M.C i 5, s := M.C i 6 } else x.cut (M.si t i)
def MetD.may (M : MetD) (p t : Int) : Sk := (M.ordS p t).foldl (M.stepS t) (M.skyF (M.ordF p t))
def MetD.odd (M : MetD) (p t : Int) : List Nat := M.oddF M.any (M.ordF p t)
def Sk.inr (x : Sk) : Bool := insB x.a0 x.a1 300 && (insB x.a2 x.a3 20000 && insB x.a4 x.a5 20000)
structure MetD.Ok (M : MetD) : Prop where
 places : 1 ≤ M.places ∧ M.places ≤ 8
 any : M.any.inr = true
 mw : 0 ≤ M.mw ∧ M.mw ≤ 20000
 ms : 0 ≤ M.ms ∧ M.ms ≤ 20000
 mc : 0 ≤ M.mc ∧ M.mc ≤ 20000
 n : M.n ≤ 40
 m : M.m ≤ 20
 fp : ∀ i, i < M.n → 0 ≤ M.D i 0 ∧ M.D i 0 ≤ M.places - 1
 ff : ∀ i, i < M.n → 0 ≤ M.D i 1 ∧ M.D i 1 ≤ 2000
 ft : ∀ i, i < M.n → 0 ≤ M.D i 2 ∧ M.D i 2 ≤ 2000
 fi : ∀ i, i < M.n → 0 ≤ M.D i 3 ∧ M.D i 3 ≤ 2000
 fl : ∀ i, i < M.n → M.D i 1 < M.D i 2
 fs : ∀ i, i < M.n → (M.fc i).inr = true
 sp : ∀ i, i < M.m → 0 ≤ M.E i 0 ∧ M.E i 0 ≤ M.places - 1
 sa : ∀ i, i < M.m → 0 ≤ M.E i 1 ∧ M.E i 1 ≤ 2000
 sw : ∀ i, i < M.m → 0 ≤ M.E i 2 ∧ M.E i 2 ≤ 300
 ss : ∀ i, i < M.m → 0 ≤ M.E i 3 ∧ M.E i 3 ≤ 20000
 sc : ∀ i, i < M.m → 0 ≤ M.E i 4 ∧ M.E i 4 ≤ 20000
theorem insB_iff {lo hi m : Int} : insB lo hi m = true ↔ vspan lo hi = true ∧ 0 ≤ lo ∧ lo ≤ m ∧ hi ≤ m := by
 unfold insB; simp only [Bool.and_eq_true, decide_eq_true_eq, inB_iff]
 exact ⟨fun ⟨a, ⟨b, c⟩, d⟩ => ⟨a, b, c, d⟩, fun ⟨a, b, c, d⟩ => ⟨a, ⟨b, c⟩, d⟩⟩
theorem Sk.inr_ok {x : Sk} (h : x.inr = true) : x.ok := by
 unfold Sk.inr at h
 simp only [Bool.and_eq_true] at h
 exact ⟨(insB_iff.1 h.1).1, (insB_iff.1 h.2.1).1, (insB_iff.1 h.2.2).1⟩
theorem cu_ok {al ah bl bh m : Int} (ha : insB al ah m = true) (hb : insB bl bh m = true) : insB (cuL al ah bl bh) (cuH al ah bl bh) m = true := by
 rw [insB_iff, vspan_iff'] at *
 unfold cuL cuH
 split <;> omega
theorem Sk.cut_inr {x b : Sk} (h : x.inr = true) (hb : b.inr = true) : (x.cut b).inr = true := by
 unfold Sk.inr at *
 simp only [Bool.and_eq_true] at *
 exact ⟨cu_ok h.1 hb.1, cu_ok h.2.1 hb.2.1, cu_ok h.2.2 hb.2.2⟩
theorem ne_ok {n d m : Int} (h0 : 0 ≤ n) (h1 : n ≤ m) (h2 : 0 ≤ d) (h3 : m ≤ 1000000) : insB (neL n d m) (neH n d m) m = true := by
 rw [insB_iff, vspan_iff']
 unfold neL neH
 omega
theorem MetD.Ok.stepF {M : MetD} (h : M.Ok) {x : Sk} (hx : x.inr = true) {i : Nat} (hi : i < M.n) : (M.stepF x i).inr = true := by
 have := Sk.cut_inr hx (h.fs i hi)
 exact this
theorem MetD.Ok.si {M : MetD} (h : M.Ok) {t : Int} {i : Nat} (hi : i < M.m) (ht : M.E i 1 ≤ t) : (M.si t i).inr = true := by
 have a := h.sw i hi
 have b := h.ss i hi
 have c := h.sc i hi
 have d : 0 ≤ t - M.E i 1 := by omega
 have e1 := Int.mul_nonneg d h.mw.1
 have e2 := Int.mul_nonneg d h.ms.1
 have e3 := Int.mul_nonneg d h.mc.1
 unfold Sk.inr MetD.si
 simp only [Bool.and_eq_true]
 exact ⟨ne_ok a.1 a.2 e1 (by omega), ne_ok b.1 b.2 e2 (by omega), ne_ok c.1 c.2 e3 (by omega)⟩
theorem MetD.Ok.stepS {M : MetD} (h : M.Ok) {t : Int} {x : Sk} (hx : x.inr = true) {i : Nat} (hi : i < M.m) (ht : M.E i 1 ≤ t) : (M.stepS t x i).inr = true := by
 have := Sk.cut_inr hx (h.si hi ht)
 unfold MetD.stepS
 split
 ·exact this
 ·exact this
theorem stab_mem {key : Nat → Int} {l : List Nat} {x : Nat} : x ∈ stab key l ↔ x ∈ l := by unfold stab; exact List.mem_mergeSort
theorem MetD.cov_lt {M : MetD} {p t : Int} {k i : Nat} (h : i ∈ M.cov p t k) : i < k := by
 unfold MetD.cov at h; exact List.mem_range.1 (List.mem_filter.1 h).1
theorem MetD.sen_lt {M : MetD} {p t : Int} {k i : Nat} (h : i ∈ M.sen p t k) : i < k ∧ M.E i 1 ≤ t := by
 unfold MetD.sen at h
 have h2 := (List.mem_filter.1 h).2
 unfold MetD.senP at h2
 simp only [Bool.and_eq_true, decide_eq_true_eq] at h2
 exact ⟨List.mem_range.1 (List.mem_filter.1 h).1, h2.2⟩
theorem MetD.cov_succ (M : MetD) (p t : Int) (k : Nat) : M.cov p t (k + 1) = M.cov p t k ++ (if M.covP p t k then [k] else []) := by
 unfold MetD.cov; rw [List.range_succ, List.filter_append]; simp [List.filter]; cases M.covP p t k <;> rfl
theorem MetD.sen_succ (M : MetD) (p t : Int) (k : Nat) : M.sen p t (k + 1) = M.sen p t k ++ (if M.senP p t k then [k] else []) := by
 unfold MetD.sen; rw [List.range_succ, List.filter_append]; simp [List.filter]; cases M.senP p t k <;> rfl
theorem MetD.cov_len (M : MetD) (p t : Int) (k : Nat) : (M.cov p t k).length ≤ k := by
 unfold MetD.cov; exact Nat.le_trans (List.length_filter_le _ _) (by simp)
theorem MetD.sen_len (M : MetD) (p t : Int) (k : Nat) : (M.sen p t k).length ≤ k := by
 unfold MetD.sen; exact Nat.le_trans (List.length_filter_le _ _) (by simp)
theorem MetD.cov_inc (M : MetD) (p t : Int) (k : Nat) : (M.cov p t k).Pairwise (· < ·) := List.Pairwise.filter _ List.pairwise_lt_range
theorem MetD.sen_inc (M : MetD) (p t : Int) (k : Nat) : (M.sen p t k).Pairwise (· < ·) := List.Pairwise.filter _ List.pairwise_lt_range
end Go.Proofs.YtlabfpjlckdmfaaGreat

namespace Go.Proofs.YtlabfpjlckdmfaaGreat
open Go Go.RowKit Go.Proofs
set_option maxRecDepth 100000
set_option maxHeartbeats 4000000
theorem sky_c (x : Sk) (w : World) : Calls Tryz.prog 72 #[.agg #[.int .i64 x.a0, .int .i64 x.a1, .int .i64 x.a2, .int .i64 x.a3, .int .i64 x.a4, .int .i64 x.a5, .bool x.i, .bool x.s]] w fun e w' => e = .returned (.bool x.inr) ∧ Below w.heap.size w w' := by
 obtain ⟨a0, a1, a2, a3, a4, a5, xi, xs⟩ := x
 have h1 := fun w1 => inside_c a0 a1 300 w1
 have h2 := fun w1 => inside_c a2 a3 20000 w1
 have h3 := fun w1 => inside_c a4 a5 20000 w1
 show Calls _ _ _ _ fun e w' => e = .returned (.bool (insB a0 a1 300 && (insB a2 a3 20000 && insB a4 a5 20000))) ∧ Below w.heap.size w w'
 dsimp only
 generalize insB a0 a1 300 = B1 at *
 generalize insB a2 a3 20000 = B2 at *
 generalize insB a4 a5 20000 = B3 at *
 have H1 := hI9 h1
 have H2 := hI9 h2
 have H3 := hI9 h3
 clear h1 h2 h3
 cases B1 <;> cases B2 <;> cases B3
 all_goals
  go_enter Tryz.func72, Tryz.ntmps72
  go_wp2_with (fail)
  have _x := frm1 w #[.int .i64 a0, .int .i64 a1, .int .i64 a2, .int .i64 a3, .int .i64 a4, .int .i64 a5, .bool xi, .bool xs] 25
  have HX := hI9 _x.1
  have HB := hI9 _x.2.1
  have zW := _x.2.2
  clear _x
  generalize World.alloc w _ = W at *
  have zHX := HX.out.lt
  have cHX0 := HX.out.cell 0
  have cHX1 := HX.out.cell 1
  go_wp2_with (first | (go_at_call 89; (with_reducible refine (H1.out _).mono ?_); rintro e w1 ⟨rfl, hb1⟩; have nHX := hI9 (HX.out.below hb1); have nHB := hI9 (bthen HB.out hb1); have zz1 := hb1.size; clear HX HB hb1; have HX := nHX; have HB := nHB; clear nHX nHB; (try clear zHX); have zHX := HX.out.lt; (try clear cHX2); have cHX2 := HX.out.cell 2; (try clear cHX3); have cHX3 := HX.out.cell 3) | (go_at_call 89; (with_reducible refine (H2.out _).mono ?_); rintro e w1 ⟨rfl, hb1⟩; have nHX := hI9 (HX.out.below hb1); have nHB := hI9 (bthen HB.out hb1); have zz1 := hb1.size; clear HX HB hb1; have HX := nHX; have HB := nHB; clear nHX nHB; (try clear zHX); have zHX := HX.out.lt; (try clear cHX4); have cHX4 := HX.out.cell 4; (try clear cHX5); have cHX5 := HX.out.cell 5) | (go_at_call 89; (with_reducible refine (H3.out _).mono ?_); rintro e w1 ⟨rfl, hb1⟩; have nHX := hI9 (HX.out.below hb1); have nHB := hI9 (bthen HB.out hb1); have zz1 := hb1.size; clear HX HB hb1; have HX := nHX; have HB := nHB; clear nHX nHB))
  go_ret
  exact ⟨rfl, HB.out⟩
def flyB (we se ce : Int) (ic st : Bool) (lw ls lc : Int) (li lt : Bool) : Bool := decide (we ≤ lw) && (decide (ls ≤ se) && (decide (lc ≤ ce) && ((!ic || li) && (!st || lt))))
theorem flyable_c (we se ce : Int) (ic st : Bool) (lw ls lc : Int) (li lt : Bool) (w : World) : Calls Tryz.prog 98 #[.agg #[.int .i64 we, .int .i64 se, .int .i64 ce, .bool ic, .bool st], .agg #[.int .i64 lw, .int .i64 ls, .int .i64 lc, .bool li, .bool lt]] w
  fun e w' => e = .returned (.bool (flyB we se ce ic st lw ls lc li lt)) ∧ Below w.heap.size w w' := by
 unfold flyB
 by_cases h1 : we ≤ lw
 ·by_cases h2 : ls ≤ se
  ·by_cases h3 : lc ≤ ce
   ·cases ic <;> cases st <;> cases li <;> cases lt
    all_goals
     go_enter Tryz.func98, Tryz.ntmps98
     go_wp2
     go_ret
     exact ⟨ret_bool (by simp [h1, h2, h3]), (by repeat' (first | exact Below.refl _ _ | assumption | refine Below.drew ?_ | refine bdn ?_ _ | refine bal ?_ _ | refine Below.setCell ?_ (by first | (simp; done) | omega | (simp; omega)) _))⟩
   ·have h3' : ce < lc := by omega
    go_enter Tryz.func98, Tryz.ntmps98
    go_wp2
    go_ret
    exact ⟨ret_bool (by rw [show decide (lc ≤ ce) = false from decide_eq_false (by omega)]; simp), (by repeat' (first | exact Below.refl _ _ | assumption | refine Below.drew ?_ | refine bdn ?_ _ | refine bal ?_ _ | refine Below.setCell ?_ (by first | (simp; done) | omega | (simp; omega)) _))⟩
  ·have h2' : se < ls := by omega
   go_enter Tryz.func98, Tryz.ntmps98
   go_wp2
   go_ret
   exact ⟨ret_bool (by rw [show decide (ls ≤ se) = false from decide_eq_false (by omega)]; simp), (by repeat' (first | exact Below.refl _ _ | assumption | refine Below.drew ?_ | refine bdn ?_ _ | refine bal ?_ _ | refine Below.setCell ?_ (by first | (simp; done) | omega | (simp; omega)) _))⟩
 ·have h1' : lw < we := by omega
  go_enter Tryz.func98, Tryz.ntmps98
  go_wp2
  go_ret
  exact ⟨ret_bool (by rw [show decide (we ≤ lw) = false from decide_eq_false (by omega)]; simp), (by repeat' (first | exact Below.refl _ _ | assumption | refine Below.drew ?_ | refine bdn ?_ _ | refine bal ?_ _ | refine Below.setCell ?_ (by first | (simp; done) | omega | (simp; omega)) _))⟩
theorem worst_c (x : Sk) (w : World) : Calls Tryz.prog 99 #[.agg #[.int .i64 x.a0, .int .i64 x.a1, .int .i64 x.a2, .int .i64 x.a3, .int .i64 x.a4, .int .i64 x.a5, .bool x.i, .bool x.s]] w
  fun e w' => e = .returned (.agg #[.int .i64 x.a1, .int .i64 x.a2, .int .i64 x.a4, .bool x.i, .bool x.s]) ∧ Below w.heap.size w w' := by
 obtain ⟨a0, a1, a2, a3, a4, a5, xi, xs⟩ := x
 go_enter Tryz.func99, Tryz.ntmps99
 go_wp2
 exact bodyPost_ret (res_c rfl _ _ _ 5 rfl (Blk.newA _ _ _ (by simp)) Tryz.rowWe rfl) rfl ⟨rfl, (by repeat' (first | exact Below.refl _ _ | assumption | refine Below.drew ?_ | refine bdn ?_ _ | refine bal ?_ _ | refine Below.setCell ?_ (by first | (simp; done) | omega | (simp; omega)) _))⟩
theorem Tryz.rowWhere : RowTy Tryz.prog 149 3 := ⟨by kernel_rfl, by kernel_rfl⟩
theorem wat_c (p t : Int) (w : World) : Calls Tryz.prog 96 #[.int .i64 p, .int .i64 t] w fun e w' => e = .returned (.agg #[.int .i64 p, .int .i64 t, .int .i64 t]) ∧ Below w.heap.size w w' := by
 go_enter Tryz.func96, Tryz.ntmps96
 go_wp2
 exact bodyPost_ret (res_c rfl _ _ _ 3 rfl (Blk.new _ _ _) Tryz.rowWhere rfl) rfl ⟨rfl, (by repeat' (first | exact Below.refl _ _ | assumption | refine Below.drew ?_ | refine bdn ?_ _ | refine bal ?_ _ | refine Below.setCell ?_ (by first | (simp; done) | omega | (simp; omega)) _))⟩
end Go.Proofs.YtlabfpjlckdmfaaGreat

namespace Go.Proofs.YtlabfpjlckdmfaaGreat
open Go Go.RowKit Go.Proofs
set_option maxRecDepth 100000
set_option maxHeartbeats 8000000
theorem mul64_c (n : Nat) (h1 : 1 ≤ n) (h2 : n ≤ 8) (w : World) :
  Calls Tryz.prog 113 #[.int .u64 1, .int .u64 n] w fun e w' => e = .returned (.tuple #[.int .u64 0, .int .u64 n]) ∧ w' = w := by
 obtain rfl | rfl | rfl | rfl | rfl | rfl | rfl | rfl : n = 1 ∨ n = 2 ∨ n = 3 ∨ n = 4 ∨ n = 5 ∨ n = 6 ∨ n = 7 ∨ n = 8 := by omega
 all_goals
  go_enter Tryz.func113, Tryz.ntmps113
  go_wp2_with (fail)
  go_ret2
  exact ⟨by kernel_rfl, rfl⟩
theorem mul_c (n : Nat) (h1 : 1 ≤ n) (h2 : n ≤ 8) (w : World) :
  Calls Tryz.prog 100 #[.int .u64 1, .int .u64 n] w fun e w' => e = .returned (.tuple #[.int .u64 0, .int .u64 n]) ∧ w' = w := by
 go_enter Tryz.func100, Tryz.ntmps100
 go_wp2_with (first | (refine (mul64_c n h1 h2 _).mono ?_; rintro e w1 ⟨rfl, rfl⟩))
 go_ret2
 exact ⟨rfl, rfl⟩
theorem Tryz.inUx : Tryz.prog.underlying 35 = some (.slice 3) := by kernel_rfl
theorem Tryz.inIx : (Tryz.prog.info? 3).map (fun i => (i.zero, i.size, i.bytes)) = some (some (.int .i64 0), 1, 8) := by kernel_rfl
theorem blk_of_owns {w : World} {base g n : Nat} {T : TypeId} {xs : List Value} (h : w.ownsRow base T 1 (.slice (some ⟨g, 0, none⟩) n n) n xs) : Blk w g T xs.toArray := by
 obtain ⟨h0, h⟩ := h
 rcases h with ⟨h, -⟩ | ⟨g', cap, cur, hv, h1, h2, h3, h4, h5, h6⟩
 ·cases h
 ·simp only [Value.slice.injEq, Option.some.injEq, Addr.mk.injEq, and_true] at hv
  obtain ⟨rfl, -, rfl⟩ := hv
  have : cur = xs.toArray := by
   rw [← h6, List.take_of_length_le (by simp [h5])]
  rw [← this]
  exact h2
theorem wpl_mki {ops : Array Oper} {rest : List Oper} {o : Oper} {a : Act} {w : World} {Q : Exit → Act → World → Prop} (hgd : o.guard = none) (l c : Operand) (n : Nat) (hn : n ≤ 1000) (ho : o.op = .makeSlice 35 l c) (hl : a.eval l = .int .i64 n) (hc : a.eval c = .int .i64 n)
  (h : ∀ w', Below w.heap.size w w' → w.heap.size < w'.heap.size → Blk w' w.heap.size 3 (List.replicate n (Value.int .i64 0)).toArray → wpList Tryz.prog ops Q rest (a.put o.dst (.slice (some ⟨w.heap.size, 0, none⟩) n n)) w') : wpList Tryz.prog ops Q (o :: rest) a w := by
 have hI := Tryz.inIx
 cases hi : Tryz.prog.info? 3 with
 | none => rw [hi] at hI; cases hI
 | some i =>
  rw [hi] at hI
  simp only [Option.map_some, Option.some.injEq, Prod.mk.injEq] at hI
  obtain ⟨i1, i2, i3⟩ := hI
  refine wpList_make_full w hgd l c 35 ho w.heap.size 3 i (.int .i64 0) 1 Tryz.inUx hi i1 i2 .i64 .i64 n n n hl hc rfl rfl (by rw [i3]; omega) (by unfold maxLen; omega) (Nat.le_refl _) (fun w' h1 h2 => ?_)
  have e : (madeCells (Value.cells (.int .i64 0)) (n * 1)).toList = List.replicate n (Value.int .i64 0) := by
   unfold madeCells
   rw [Array.toList_map, Array.toList_range, Nat.mul_one]
   apply List.ext_getElem?
   intro t
   rw [List.getElem?_map, List.getElem?_replicate]
   by_cases ht : t < n
   ·rw [List.getElem?_range ht, if_pos ht]
    show some ((#[Value.int .i64 0])[t % 1]!) = _
    rw [Nat.mod_one]
    rfl
   ·rw [if_neg ht, List.getElem?_eq_none (by simpa using ht)]; rfl
  rw [e] at h1
  have hb := blk_of_owns h1
  exact h w' (below_of_none h2) hb.lt hb
theorem wpl_copyI {ops : Array Oper} {rest : List Oper} {o : Oper} {a : Act} {w : World} {Q : Exit → Act → World → Prop} (hgd : o.guard = none) (d s : Operand) (ho : o.op = .call { callee := .builtin .copy, args := #[d, s], argTypes := #[35, 35] })
  (g off dl dc : Nat) (hd : a.eval d = .slice (some ⟨g, off, none⟩) dl dc) (p q0 sl sc : Nat) (hs : a.eval s = .slice (some ⟨p, q0, none⟩) sl sc) (cur : Array Value) (hg : Blk w g 3 cur)
  (cs : List Value) (hn : cs.length = Nat.min sl dl) (hsrc : ∀ j v, cs[j]? = some v → w.cell? ⟨p, q0 + j, none⟩ = some v) (hfit : off + cs.length ≤ cur.size) (h1 : ∀ v ∈ cs, v.oneCell' = true)
  (h : ∀ w', Hid (w' = w.setRow g (cur.toList.take off ++ cs ++ cur.toList.drop (off + cs.length)).toArray) → wpList Tryz.prog ops Q rest (a.put o.dst (goInt cs.length)) w') : wpList Tryz.prog ops Q (o :: rest) a w := by
 refine wpList_plain hgd fun K' hK' => ?_
 have hI := Tryz.inIx
 have hrun := run_copy_row (P := Tryz.prog) w 35 35 o.type 3 g off dl dc ⟨p, q0, none⟩ sl sc cur 3 cs Tryz.inUx (by
  cases hi : Tryz.prog.info? 3 with
  | none => rw [hi] at hI; cases hI
  | some i => rw [hi] at hI; simp only [Option.map_some, Option.some.injEq, Prod.mk.injEq] at hI ⊢; exact hI.2.1) hg hn (fun j v q => by
   have hadd : (⟨p, q0, none⟩ : Addr).add j = ⟨p, q0 + j, none⟩ := by unfold Addr.add; split <;> simp_all
   rw [hadd]; exact hsrc j v q) hfit h1
 unfold Oper.wp
 simp [execOp, ho, resolve, invoke, builtin, hd, hs, hrun, Result.andThen]
 refine hK' _ _ (h _ ?_)
 rw [List.append_assoc]
 exact hI9 rfl
def repL (n k : Nat) (x : Int) : List Value := List.replicate k (.int .i64 x) ++ List.replicate (n - k) (.int .i64 0)
theorem repL_copy (n k m : Nat) (x : Int) (h : k + m ≤ n) (hk : m ≤ k) : (repL n k x).take k ++ List.replicate m (.int .i64 x) ++ (repL n k x).drop (k + m) = repL n (k + m) x := by
 unfold repL
 rw [List.take_left' (by simp), List.append_assoc]
 rw [← List.replicate_append_replicate, List.append_assoc]
 congr 2
 rw [List.drop_append, List.length_replicate, show k + m - k = m by omega, List.drop_eq_nil_of_le (by simp), List.nil_append, List.drop_replicate]
 congr 1
 omega
theorem mulZ_c (n : Nat) (h1 : 1 ≤ n) (h2 : n ≤ 8) (w : World) :
  Calls Tryz.prog 100 #[.int .u64 1, .int .u64 (n : Int)] w fun e w' => e = .returned (.tuple #[.int .u64 0, .int .u64 (n : Int)]) ∧ w' = w := mul_c n h1 h2 w
theorem below_row' {B g : Nat} {w0 w : World} (hb : Below B w0 w) (hBg : B ≤ g) (cs : Array Value) : Below B w0 (w.setRow g cs) :=
 ⟨hb.os, hb.tape, hb.output, by rw [show (w.setRow g cs).heap.size = w.heap.size by simp [World.setRow]]; exact hb.size, fun k hk => (setRow_other w g k cs (by omega)).trans (hb.block k hk)⟩
theorem yields_mv {P : Program} {ops : Array Oper} {o : Oper} {a : Act} (hg : o.guard = none) (x : Operand) (ho : o.op = .move x) (v : Value) (hx : a.eval x = v) : Yields P ops o v a := by
 refine .inl ⟨by simp [Region.wanted, hg], fun w => ?_⟩
 simp only [execOp, ho, hx]
 simp [Sem.run_pure]
def rpR (g n m : Nat) : Nat → Value → World → Prop
 | 0, v, _ => v = .int .i64 (m : Int)
 | 1, v, _ => v = .slice (some ⟨g, 0, none⟩) n n
 | 2, v, _ => v = .int .i64 (m : Int)
 | 3, v, _ => v = .slice (some ⟨g, m, none⟩) (n - m) (n - m)
 | 4, v, _ => v = .slice (some ⟨g, 0, none⟩) n n
 | 5, v, _ => v = .int .i64 (m : Int)
 | 6, v, _ => v = .slice (some ⟨g, 0, none⟩) m n
 | _, _, _ => True
theorem rpR_below {g n m : Nat} (k : Nat) (v : Value) (w w' : World) (hb : Below w.heap.size w w') (h : rpR g n m k v w) : rpR g n m k v w' := by
 unfold rpR at *
 split at h <;> first | exact h
theorem rep_c (x : Int) (n gx : Nat) (w : World) (h : Blk w gx 3 #[.int .i64 x]) (h1 : 1 ≤ n) (h2 : n ≤ 8) :
  Calls Tryz.prog 82 #[.slice (some ⟨gx, 0, none⟩) 1 1, .int .i64 n] w fun e w' => ∃ g, e = .returned (.slice (some ⟨g, 0, none⟩) n n) ∧ Below w.heap.size w w' ∧ w.heap.size ≤ g ∧ Blk w' g 3 (List.replicate n (.int .i64 x)).toArray := by
 have hn0 : ¬ (n : Int) < 0 := by omega
 have hw1 : IntKind.u64.wrap (n : Int) = (n : Int) := by unfold IntKind.wrap; simp [IntKind.bits, IntKind.signed]; omega
 have HX := hI9 h
 clear h
 go_enter Tryz.func82, Tryz.ntmps82
 go_wp2_with (first | (refine (mulZ_c n h1 h2 _).mono ?_; rintro e w_0 ⟨rfl, rfl⟩) | (refine wpl_mki rfl _ _ n (by omega) rfl rfl rfl ?_))
 intro w2 hb2 hs2 hB2
 have HX2 := hI9 (HX.out.below hb2)
 have HB := hI9 hb2
 obtain ⟨gN, hg⟩ : ∃ q, w_0.heap.size = q := ⟨_, rfl⟩
 have HLE := hI9 hg
 rw [hg] at hs2 hB2 ⊢
 have HBN := hI9 (show Below gN w_0 w2 from hg ▸ hb2)
 have hgx : gx < gN := by have := HX.out.lt; omega
 have HG := hI9 (show Blk w2 gN 3 (repL n 0 x).toArray from by simpa [repL] using hB2)
 clear hB2 hb2 hw1 hn0 hg
 go_wp2_with (refine wpl_copyI rfl _ _ rfl gN 0 n n rfl gx 0 1 1 rfl _ HG.out [.int .i64 x] ?c1 ?c2 ?c3 ?c4 ?_)
 case c1 => show 1 = min 1 n; omega
 case c2 =>
  intro j v hj
  rcases j with _ | j
  ·simp only [List.getElem?_cons_zero, Option.some.injEq] at hj
   subst hj
   exact HX2.out.cell 0
  ·simp at hj
 case c3 => simp [repL]; omega
 case c4 =>
  intro v hv
  rw [List.mem_singleton.1 hv]; rfl
 intro w3 hw3
 have HG1 := hI9 (show Blk w3 gN 3 (repL n 1 x).toArray from by
  rw [hw3.out]
  refine Eq.trans (setRow_heap w2 gN _ _ _ _ HG.out) ?_
  congr 2
  simp [repL])
 have HB1 := hI9 (show Below gN w_0 w3 from by rw [hw3.out]; exact below_row' HBN.out (Nat.le_refl _) _)
 clear hw3
 clear HX2 HB HBN HG hs2
 go_wp2_with (fail)
 go_loopg [8] n (fun gy v wr => ∃ k : Nat, v = .int .i64 k ∧ 1 ≤ k ∧ k ≤ n ∧ n - k ≤ gy ∧ Hid (Below gN w_0 wr) ∧ Hid (Blk wr gN 3 (repL n k x).toArray))
 case atStart => exact ⟨1, rfl, by omega, by omega, by omega, HB1, HG1⟩
 case round =>
  clear HB1 HG1
  obtain ⟨k, rfl, k1, k2, hgy, HB1, HG1⟩ := hrel
  by_cases hlt : k < n
  ·have hltz : (k : Int) < (n : Int) := by omega
   go_wp2_with (fail)
   refine wp_region_specL 7 [0] (rpR gN n k) (fun i => false) (by kernel_rfl) (by kernel_rfl) (by decide) rpR_below ?hop1 ?htail1
   case hop1 =>
    simp only [List.take_succ_cons, List.take_zero, allOps]
    refine ⟨?_, ?_, ?_, ?_, ?_, ?_, ?_, trivial⟩
    all_goals intro u A w1 hA hb hd
    all_goals simp only [putAll, dstOf, gtA, gtS, gtZ, Option.bind_some, Option.bind, Act.put, List.setIfInBounds_toArray, List.set_cons_succ, List.set_cons_zero] at hA; subst hA
    all_goals have HB1 := hI9 hb
    ·clear hb hd
     refine OpOk.late rfl ?_
     (refine ⟨_, yields_mv rfl _ rfl _ rfl, ?_⟩; rfl)
    ·refine OpOk.now rfl ?_
     clear hb hd
     go_wp2
     exact ⟨_, rfl, Below.refl _ _, rfl, fun h => absurd h (by decide)⟩
    ·refine OpOk.now rfl ?_
     clear hb hd
     go_wp2
     exact ⟨_, rfl, Below.refl _ _, rfl, fun h => absurd h (by decide)⟩
    ·refine OpOk.now rfl ?_
     have d1 : u 1 = _ := hd 1 (by omega) (by kernel_rfl)
     have d2 : u 2 = _ := hd 2 (by omega) (by kernel_rfl)
     clear hb hd
     rw [d1, d2]
     clear d1 d2
     go_wp2
     exact ⟨_, rfl, Below.refl _ _, rfl, fun h => absurd h (by decide)⟩
    ·refine OpOk.now rfl ?_
     clear hb hd
     go_wp2
     exact ⟨_, rfl, Below.refl _ _, rfl, fun h => absurd h (by decide)⟩
    ·refine OpOk.now rfl ?_
     clear hb hd
     go_wp2
     exact ⟨_, rfl, Below.refl _ _, rfl, fun h => absurd h (by decide)⟩
    ·refine OpOk.now rfl ?_
     have d4 : u 4 = _ := hd 4 (by omega) (by kernel_rfl)
     have d5 : u 5 = _ := hd 5 (by omega) (by kernel_rfl)
     clear hb hd
     rw [d4, d5]
     clear d4 d5
     go_wp2
     exact ⟨_, rfl, Below.refl _ _, rfl, fun h => absurd h (by decide)⟩
   case htail1 =>
    intro u A w1 hA hb hd hf
    simp only [putAll, dstOf, gtA, gtS, gtZ, Option.bind_some, Option.bind, Act.put, List.setIfInBounds_toArray, List.set_cons_succ, List.set_cons_zero] at hA; subst hA
    have e0 : u 0 = _ := hd 0 (by omega)
    have e1 : u 1 = _ := hd 1 (by omega)
    have e2 : u 2 = _ := hd 2 (by omega)
    have e3 : u 3 = _ := hd 3 (by omega)
    have e4 : u 4 = _ := hd 4 (by omega)
    have e5 : u 5 = _ := hd 5 (by omega)
    have e6 : u 6 = _ := hd 6 (by omega)
    first | rw [e0, e1, e2, e3, e4, e5, e6] | simp only [e0, e1, e2, e3, e4, e5, e6]
    clear e0 e1 e2 e3 e4 e5 e6
    clear hd hf
    have HG2 := hI9 (HG1.out.below hb)
    have hlt2 := HG1.out.lt
    have HB2 := hI9 (HB1.out.trans (hb.mono (Nat.le_of_lt hlt2)))
    clear HB1 HG1
    refine wpl_copyI rfl _ _ rfl gN k (n - k) (n - k) rfl gN 0 k n rfl _ HG2.out (List.replicate (min k (n - k)) (.int .i64 x)) ?d1 ?d2 ?d3 ?d4 ?_
    case d1 => simp
    case d2 =>
     intro j v hj
     rw [List.getElem?_replicate] at hj
     split at hj
     ·rename_i hjk
      simp only [Option.some.injEq] at hj
      subst hj
      have := HG2.out.cell (0 + j)
      rw [this]
      simp only [repL, List.getElem?_toArray, Nat.zero_add]
      rw [List.getElem?_append_left (by simp; omega), List.getElem?_replicate, if_pos (by omega)]
     ·cases hj
    case d3 => simp [repL]; omega
    case d4 =>
     intro v hv
     rw [List.eq_of_mem_replicate hv]; rfl
    intro w3 hw3
    have HG3 := hI9 (show Blk w3 gN 3 (repL n (k + min k (n - k)) x).toArray from by
     rw [hw3.out]
     refine Eq.trans (setRow_heap w1 gN _ _ _ _ HG2.out) ?_
     rw [List.length_replicate, repL_copy n k _ x (by omega) (by omega)])
    have HB3 := hI9 (show Below gN w_0 w3 from by rw [hw3.out]; exact below_row' HB2.out (Nat.le_refl _) _)
    clear hw3 HG2 HB2
    have hk3 : (k : Int) + ((List.replicate (min k (n - k)) (Value.int .i64 x)).length : Int) = ((k + min k (n - k) : Nat) : Int) := by simp
    go_wp2_with (fail)
    dsimp only [NoPanic]
    go_wp2_with (fail)
    go_roundg (n - (k + min k (n - k)))
    case measure => omega
    case rel => exact ⟨k + min k (n - k), by first | rfl | go_num | (congr 1; simp; omega), by omega, by omega, Nat.le_refl _, HB3, HG3⟩
  ·obtain rfl : n = k := by omega
   go_wp2_with (fail)
   go_ret
   exact ⟨_, rfl, by rw [HLE.out]; exact HB1.out, by rw [HLE.out]; exact Nat.le_refl _, by simpa [repL] using HG1.out⟩
end Go.Proofs.YtlabfpjlckdmfaaGreat

namespace Go.Proofs.YtlabfpjlckdmfaaGreat
open Go Go.RowKit Go.Proofs Go.ChangeShapes Go.WideShapes Go.ChangeAt Go.Deep
set_option maxRecDepth 100000
set_option maxHeartbeats 4000000
theorem Tryz.undInt : Tryz.prog.underlying 3 = some (.int .i64) := by kernel_rfl
section
variable {H : Type} {enc : TypeId × Value → H} {W : World} {sp : Nat → Bool} {held : Bool}
theorem wf_I64 {n : Int} (h : (Lit.int .i64 n).wf = true) : I64 n := by
 exact bounds_i64 h
end
end Go.Proofs.YtlabfpjlckdmfaaGreat
namespace Go.Proofs.YtlabfpjlckdmfaaGreat
open Go Go.RowKit Go.Proofs Go.ChangeShapes Go.WideShapes Go.ChangeAt Go.Deep
set_option maxRecDepth 100000
set_option maxHeartbeats 4000000
def fieldAt (d : Option TypeDesc) (i : Nat) : Option (TypeId × Nat) := match d with | some (.struct fs) => fs[i]?.map (fun f => (f.type, f.offset)) | _ => none
theorem fieldAt_struct {P : Program} {T : TypeId} {i : Nat} {r : TypeId × Nat} (h : fieldAt (P.underlying T) i = some r) : ∃ fs, P.underlying T = some (.struct fs) := by
 unfold fieldAt at h; split at h
 ·rename_i fs e; exact ⟨fs, e⟩
 ·exact absurd h (by simp)
section
variable {H : Type} {enc : TypeId × Value → H} {W : World} {sp : Nat → Bool} {held : Bool}
theorem trod_field {P : Program} {fuel : Nat} {T t : TypeId} {o k i : Nat} {cs : List Value} {x : DataW H × List MemPlace} (hf : fieldAt (P.underlying T) i = some (t, o)) (hk : P.cellsOf t = k)
  (h : DataW.trod enc P W 0 sp held fuel T cs = some x) : ∃ m y, DataW.trod enc P W 0 sp held m t ((cs.drop o).take k) = some y := by
 obtain ⟨fs, hu⟩ := fieldAt_struct hf
 obtain ⟨xs, m, -, -, -, hl, hg⟩ := DataW.trod_struct hu h
 rw [hu] at hf
 simp only [fieldAt, Option.map_eq_some_iff, Prod.mk.injEq] at hf
 obtain ⟨f, hfi, e1, e2⟩ := hf
 have := hg i f hfi
 rw [e1, e2, hk] at this
 have hlt : i < xs.length := by rw [hl]; exact (Array.getElem?_eq_some_iff.1 hfi).1
 exact ⟨m, xs[i], by rw [this, List.getElem?_eq_getElem hlt]⟩
theorem take1 {n : Nat} {l : List Value} (h : l.length = n + 1) : ∃ c l', l = c :: l' ∧ l'.length = n := by
 cases l with
 | nil => simp at h
 | cons c l' => exact ⟨c, l', rfl, by simpa using h⟩
end
end Go.Proofs.YtlabfpjlckdmfaaGreat
namespace Go.Proofs.YtlabfpjlckdmfaaGreat
open Go Go.RowKit Go.Proofs Go.ChangeShapes Go.WideShapes Go.ChangeAt
theorem Tryz.laidOut' : laidOutB Tryz.prog = true := by kernel_rfl
section
variable {H : Type} {enc : TypeId × Value → H} {P : Program}
theorem post_kept {f : Func} {s : ChangeSpec} {apart fresh handsOn again : Bool} {W W' : World} {args : Array Value} {v : Value} {ds gs : List (DataW H)} {before pa pv : List MemPlace}
  (hW : DataW.Whole enc P f.params.toList s.vars apart W args.toList ds gs before) (hb : Below W.heap.size W W')
  (hres : ∀ (b : Nat) (sp : Nat → Bool) (hd : Bool), DataW.TrodAll enc P W' b sp hd f.resultTypes.toList (v.resultList f.resultTypes.size) (s.fn H (ds ++ gs)).results [])
  (hargs : ∀ sp : Nat → Bool, (∀ p ∈ before, sp p.block = true) → DataW.TrodAll enc P W' 0 sp true f.params.toList args.toList (s.fn H (ds ++ gs)).args pa)
  (hvars : ∀ sp : Nat → Bool, (∀ p ∈ before, sp p.block = true) → DataW.TrodVars enc P W' sp s.vars (s.fn H (ds ++ gs)).vars pv)
  (hps : before = pa ++ pv)
  (hok : ∀ (j : Nat) (t : TypeId) (r : Value), f.resultTypes[j]? = some t → (v.resultList f.resultTypes.size)[j]? = some r → Value.okWide P W' .any 0 t r) :
  s.post enc P f apart fresh handsOn again W args v W' := by
 have old := fun p (hp : p ∈ before) => hW.lt p hp
 have mark : ∀ p ∈ before, (fun b => decide (b < W.heap.size)) p.block = true := fun p hp => decide_eq_true (old p hp)
 obtain ⟨-, -, -, -, -, hz, hn⟩ := id hW
 subst hps
 refine ⟨ds, gs, pa ++ pv, [], pa, pv, hW, hres _ _ _, hargs _ mark, hvars _ mark, World.keptBut_mono (fun p hp => ⟨hp, Or.inr (List.mem_append.1 hp)⟩) (hb.frame (· ∈ pa ++ pv)), fun _ => ⟨hok, _, _, ([] ++ pa) ++ pv, ⟨[] ++ pa, pv, trodAll_append (hargs _ (fun _ _ => rfl)) (hres _ _ _), hvars _ (fun _ _ => rfl), rfl, fun b off hp => ?_, fun ha => by simpa using hn ha⟩, fun p hp _ => by simpa using hp⟩⟩
 have hin : MemPlace.cell b off ∈ pa ++ pv := by simpa using hp
 exact (hb.frozen (p := ⟨b, off, none⟩) (old _ hin)).trans (hz b off hin)
end
end Go.Proofs.YtlabfpjlckdmfaaGreat

namespace Go.Proofs.YtlabfpjlckdmfaaGreat
open Go Go.RowKit Go.Proofs Go.ChangeShapes Go.WideShapes Go.ChangeAt Go.Deep
set_option maxRecDepth 100000
set_option maxHeartbeats 4000000
section
variable {H : Type} {enc : TypeId × Value → H} {W : World} {sp : Nat → Bool} {held : Bool}
theorem int_trod {fuel : Nat} {c : Value} {x : DataW H × List MemPlace} (h : DataW.trod enc Tryz.prog W 0 sp held fuel 3 [c] = some x) : ∃ n, c = .int .i64 n ∧ I64 n := by
 obtain ⟨n, e, -, w⟩ := DataW.trod_int Tryz.undInt h
 exact ⟨n, by simpa using e, wf_I64 w⟩
end
end Go.Proofs.YtlabfpjlckdmfaaGreat
