/- Texts joined: JAI. -/
import Derived.Test.YtlambeiafdpkgaaGreatJAH
import Derived.Test.YtlambeiafdpkgaaGreatSpJ
import Derived.Test.YtlambeiafdpkgaaGreatJAB
import Derived.Test.YtlambeiafdpkgaaGreatProg
import Derived.Shelf.Sort.Plain
import Derived.Shelf.Slices.In.SortNone
set_option linter.all false
namespace Go.Proofs.YtlambeiafdpkgaaGreat
open Go Go.RowKit Go.Proofs
structure Sk where
 a0 : Int
 a1 : Int
 a2 : Int
 a3 : Int
 a4 : Int
 a5 : Int
 i : Bool
 s : Bool
def Sk.ok (x : Sk) : Prop := vspan x.a0 x.a1 = true ∧ vspan x.a2 x.a3 = true ∧ vspan x.a4 x.a5 = true
def Sk.cells (x : Sk) : Array Value := #[.int .i64 x.a0, .int .i64 x.a1, .int .i64 x.a2, .int .i64 x.a3, .int .i64 x.a4, .int .i64 x.a5, .bool x.i, .bool x.s]
def Sk.cut (x b : Sk) : Sk := ⟨cuL x.a0 x.a1 b.a0 b.a1, cuH x.a0 x.a1 b.a0 b.a1, cuL x.a2 x.a3 b.a2 b.a3, cuH x.a2 x.a3 b.a2 b.a3, cuL x.a4 x.a5 b.a4 b.a5, cuH x.a4 x.a5 b.a4 b.a5, x.i, x.s⟩
def Sk.odd (x b : Sk) : Bool := skF x.a0 x.a1 x.a2 x.a3 x.a4 x.a5 b.a0 b.a1 b.a2 b.a3 b.a4 b.a5
structure MetD where
 places : Int
 any : Sk
 mw : Int
 ms : Int
 mc : Int
 n : Nat
 D : Nat → Nat → Int
 B : Nat → Nat → Bool
 m : Nat
 E : Nat → Nat → Int
 C : Nat → Nat → Bool
def fcV (D : Nat → Nat → Int) (B : Nat → Nat → Bool) (i j : Nat) : Value := if j < 10 then .int .i64 (D i j) else .bool (B i j)
def siV (E : Nat → Nat → Int) (C : Nat → Nat → Bool) (i j : Nat) : Value := if j < 5 then .int .i64 (E i j) else .bool (C i j)
def MetD.fc (M : MetD) (i : Nat) : Sk := ⟨M.D i 4, M.D i 5, M.D i 6, M.D i 7, M.D i 8, M.D i 9, M.B i 10, M.B i 11⟩
def MetD.covP (M : MetD) (p t : Int) (i : Nat) : Bool := decide (M.D i 0 = p) && inB t (M.D i 1) (M.D i 2 - 1)
def MetD.cov (M : MetD) (p t : Int) (k : Nat) : List Nat := (List.range k).filter (M.covP p t)
def MetD.ordF (M : MetD) (p t : Int) : List Nat := stab (fun i => M.D i 3) (M.cov p t M.n)
def MetD.stepF (M : MetD) (x : Sk) (i : Nat) : Sk := { x.cut (M.fc i) with i := x.i && M.B i 10, s := x.s && M.B i 11 }
def MetD.skyF (M : MetD) (l : List Nat) : Sk := l.foldl M.stepF M.any
def MetD.oddF (M : MetD) : Sk → List Nat → List Nat
 | _, [] => []
 | x, i :: l => if x.odd (M.fc i) then i :: M.oddF (M.stepF x i) l else M.oddF (M.stepF x i) l
def MetD.senP (M : MetD) (p t : Int) (i : Nat) : Bool := decide (M.E i 0 = p) && decide (M.E i 1 ≤ t)
def MetD.sen (M : MetD) (p t : Int) (k : Nat) : List Nat := (List.range k).filter (M.senP p t)
def MetD.ordS (M : MetD) (p t : Int) : List Nat := stab (fun i => M.E i 1) (M.sen p t M.m)
def MetD.si (M : MetD) (t : Int) (i : Nat) : Sk := ⟨neL (M.E i 2) ((t - M.E i 1) * M.mw) 300, neH (M.E i 2) ((t - M.E i 1) * M.mw) 300, neL (M.E i 3) ((t - M.E i 1) * M.ms) 20000, neH (M.E i 3) ((t - M.E i 1) * M.ms) 20000,
 neL (M.E i 4) ((t - M.E i 1) * M.mc) 20000, neH (M.E i 4) ((t - M.E i 1) * M.mc) 20000, false, false⟩
def MetD.stepS (M : MetD) (t : Int) (x : Sk) (i : Nat) : Sk := if t - M.E i 1 = 0 then { x.cut (M.si t i) with i := M.C i 5, s := M.C i 6 } else x.cut (M.si t i)
def MetD.may (M : MetD) (p t : Int) : Sk := (M.ordS p t).foldl (M.stepS t) (M.skyF (M.ordF p t))
def MetD.odd (M : MetD) (p t : Int) : List Nat := M.oddF M.any (M.ordF p t)
def Sk.inr (x : Sk) : Bool := insB x.a0 x.a1 300 && (insB x.a2 x.a3 20000 && insB x.a4 x.a5 20000)
structure MetD.Ok (M : MetD) : Prop where
 places : 1 ≤ M.places ∧ M.places ≤ 8
 any : M.any.inr = true
 mw : 0 ≤ M.mw ∧ M.mw ≤ 20000
 ms : 0 ≤ M.ms ∧ M.ms ≤ 20000
 mc : 0 ≤ M.mc ∧ M.mc ≤ 20000
 n : M.n ≤ 40
 m : M.m ≤ 20
 fp : ∀ i, i < M.n → 0 ≤ M.D i 0 ∧ M.D i 0 ≤ M.places - 1
 ff : ∀ i, i < M.n → 0 ≤ M.D i 1 ∧ M.D i 1 ≤ 2000
 ft : ∀ i, i < M.n → 0 ≤ M.D i 2 ∧ M.D i 2 ≤ 2000
 fi : ∀ i, i < M.n → 0 ≤ M.D i 3 ∧ M.D i 3 ≤ 2000
 fl : ∀ i, i < M.n → M.D i 1 < M.D i 2
 fs : ∀ i, i < M.n → (M.fc i).inr = true
 sp : ∀ i, i < M.m → 0 ≤ M.E i 0 ∧ M.E i 0 ≤ M.places - 1
 sa : ∀ i, i < M.m → 0 ≤ M.E i 1 ∧ M.E i 1 ≤ 2000
 sw : ∀ i, i < M.m → 0 ≤ M.E i 2 ∧ M.E i 2 ≤ 300
 ss : ∀ i, i < M.m → 0 ≤ M.E i 3 ∧ M.E i 3 ≤ 20000
 sc : ∀ i, i < M.m → 0 ≤ M.E i 4 ∧ M.E i 4 ≤ 20000
theorem insB_iff {lo hi m : Int} : insB lo hi m = true ↔ vspan lo hi = true ∧ 0 ≤ lo ∧ lo ≤ m ∧ hi ≤ m := by
 unfold insB; simp only [Bool.and_eq_true, decide_eq_true_eq, inB_iff]
 exact ⟨fun ⟨a, ⟨b, c⟩, d⟩ => ⟨a, b, c, d⟩, fun ⟨a, b, c, d⟩ => ⟨a, ⟨b, c⟩, d⟩⟩
theorem Sk.inr_ok {x : Sk} (h : x.inr = true) : x.ok := by
 unfold Sk.inr at h
 simp only [Bool.and_eq_true] at h
 exact ⟨(insB_iff.1 h.1).1, (insB_iff.1 h.2.1).1, (insB_iff.1 h.2.2).1⟩
theorem cu_ok {al ah bl bh m : Int} (ha : insB al ah m = true) (hb : insB bl bh m = true) : insB (cuL al ah bl bh) (cuH al ah bl bh) m = true := by
 rw [insB_iff, vspan_iff'] at *
 unfold cuL cuH
 split <;> omega
theorem Sk.cut_inr {x b : Sk} (h : x.inr = true) (hb : b.inr = true) : (x.cut b).inr = true := by
 unfold Sk.inr at *
 simp only [Bool.and_eq_true] at *
 exact ⟨cu_ok h.1 hb.1, cu_ok h.2.1 hb.2.1, cu_ok h.2.2 hb.2.2⟩
theorem ne_ok {n d m : Int} (h0 : 0 ≤ n) (h1 : n ≤ m) (h2 : 0 ≤ d) (h3 : m ≤ 1000000) : insB (neL n d m) (neH n d m) m = true := by
 rw [insB_iff, vspan_iff']
 unfold neL neH
 omega
theorem MetD.Ok.stepF {M : MetD} (h : M.Ok) {x : Sk} (hx : x.inr = true) {i : Nat} (hi : i < M.n) : (M.stepF x i).inr = true := by
 have := Sk.cut_inr hx (h.fs i hi)
 exact this
theorem MetD.Ok.si {M : MetD} (h : M.Ok) {t : Int} {i : Nat} (hi : i < M.m) (ht : M.E i 1 ≤ t) : (M.si t i).inr = true := by
 have a := h.sw i hi
 have b := h.ss i hi
 have c := h.sc i hi
 have d : 0 ≤ t - M.E i 1 := by omega
 have e1 := Int.mul_nonneg d h.mw.1
 have e2 := Int.mul_nonneg d h.ms.1
 have e3 := Int.mul_nonneg d h.mc.1
 unfold Sk.inr MetD.si
 simp only [Bool.and_eq_true]
 exact ⟨ne_ok a.1 a.2 e1 (by omega), ne_ok b.1 b.2 e2 (by omega), ne_ok c.1 c.2 e3 (by omega)⟩
theorem MetD.Ok.stepS {M : MetD} (h : M.Ok) {t : Int} {x : Sk} (hx : x.inr = true) {i : Nat} (hi : i < M.m) (ht : M.E i 1 ≤ t) : (M.stepS t x i).inr = true := by
 have := Sk.cut_inr hx (h.si hi ht)
 unfold MetD.stepS
 split
 ·exact this
 ·exact this
theorem stab_mem {key : Nat → Int} {l : List Nat} {x : Nat} : x ∈ stab key l ↔ x ∈ l := by unfold stab; exact List.mem_mergeSort
theorem MetD.cov_lt {M : MetD} {p t : Int} {k i : Nat} (h : i ∈ M.cov p t k) : i < k := by
 unfold MetD.cov at h; exact List.mem_range.1 (List.mem_filter.1 h).1
theorem MetD.sen_lt {M : MetD} {p t : Int} {k i : Nat} (h : i ∈ M.sen p t k) : i < k ∧ M.E i 1 ≤ t := by
 unfold MetD.sen at h
 have h2 := (List.mem_filter.1 h).2
 unfold MetD.senP at h2
 simp only [Bool.and_eq_true, decide_eq_true_eq] at h2
 exact ⟨List.mem_range.1 (List.mem_filter.1 h).1, h2.2⟩
theorem MetD.cov_succ (M : MetD) (p t : Int) (k : Nat) : M.cov p t (k + 1) = M.cov p t k ++ (if M.covP p t k then [k] else []) := by
 unfold MetD.cov; rw [List.range_succ, List.filter_append]; simp [List.filter]; cases M.covP p t k <;> rfl
theorem MetD.sen_succ (M : MetD) (p t : Int) (k : Nat) : M.sen p t (k + 1) = M.sen p t k ++ (if M.senP p t k then [k] else []) := by
 unfold MetD.sen; rw [List.range_succ, List.filter_append]; simp [List.filter]; cases M.senP p t k <;> rfl
theorem MetD.cov_len (M : MetD) (p t : Int) (k : Nat) : (M.cov p t k).length ≤ k := by
 unfold MetD.cov; exact Nat.le_trans (List.length_filter_le _ _) (by simp)
theorem MetD.sen_len (M : MetD) (p t : Int) (k : Nat) : (M.sen p t k).length ≤ k := by
 unfold MetD.sen; exact Nat.le_trans (List.length_filter_le _ _) (by simp)
theorem MetD.cov_inc (M : MetD) (p t : Int) (k : Nat) : (M.cov p t k).Pairwise (· < ·) := List.Pairwise.filter _ List.pairwise_lt_range
theorem MetD.sen_inc (M : MetD) (p t : Int) (k : Nat) : (M.sen p t k).Pairwise (· < ·) := List.Pairwise.filter _ List.pairwise_lt_range
end Go.Proofs.YtlambeiafdpkgaaGreat

namespace Go.Proofs.YtlambeiafdpkgaaGreat
open Go Go.RowKit Go.Proofs
set_option maxRecDepth 100000
set_option maxHeartbeats 4000000
theorem sky_c (x : Sk) (w : World) : Calls Tryz.prog 139 #[.agg #[.int .i64 x.a0, .int .i64 x.a1, .int .i64 x.a2, .int .i64 x.a3, .int .i64 x.a4, .int .i64 x.a5, .bool x.i, .bool x.s]] w fun e w' => e = .returned (.bool x.inr) ∧ Below w.heap.size w w' := by
 obtain ⟨a0, a1, a2, a3, a4, a5, xi, xs⟩ := x
 have h1 := fun w1 => inside_c a0 a1 300 w1
 have h2 := fun w1 => inside_c a2 a3 20000 w1
 have h3 := fun w1 => inside_c a4 a5 20000 w1
 show Calls _ _ _ _ fun e w' => e = .returned (.bool (insB a0 a1 300 && (insB a2 a3 20000 && insB a4 a5 20000))) ∧ Below w.heap.size w w'
 dsimp only
 generalize insB a0 a1 300 = B1 at *
 generalize insB a2 a3 20000 = B2 at *
 generalize insB a4 a5 20000 = B3 at *
 have H1 := hI9 h1
 have H2 := hI9 h2
 have H3 := hI9 h3
 clear h1 h2 h3
 cases B1 <;> cases B2 <;> cases B3
 all_goals
  go_enter Tryz.func139, Tryz.ntmps139
  go_wp2_with (fail)
  have _x := frm1 w #[.int .i64 a0, .int .i64 a1, .int .i64 a2, .int .i64 a3, .int .i64 a4, .int .i64 a5, .bool xi, .bool xs] 30
  have HX := hI9 _x.1
  have HB := hI9 _x.2.1
  have zW := _x.2.2
  clear _x
  generalize World.alloc w _ = W at *
  have zHX := HX.out.lt
  have cHX0 := HX.out.cell 0
  have cHX1 := HX.out.cell 1
  go_wp2_with (first | (go_at_call 168; (with_reducible refine (H1.out _).mono ?_); rintro e w1 ⟨rfl, hb1⟩; have nHX := hI9 (HX.out.below hb1); have nHB := hI9 (bthen HB.out hb1); have zz1 := hb1.size; clear HX HB hb1; have HX := nHX; have HB := nHB; clear nHX nHB; (try clear zHX); have zHX := HX.out.lt; (try clear cHX2); have cHX2 := HX.out.cell 2; (try clear cHX3); have cHX3 := HX.out.cell 3) | (go_at_call 168; (with_reducible refine (H2.out _).mono ?_); rintro e w1 ⟨rfl, hb1⟩; have nHX := hI9 (HX.out.below hb1); have nHB := hI9 (bthen HB.out hb1); have zz1 := hb1.size; clear HX HB hb1; have HX := nHX; have HB := nHB; clear nHX nHB; (try clear zHX); have zHX := HX.out.lt; (try clear cHX4); have cHX4 := HX.out.cell 4; (try clear cHX5); have cHX5 := HX.out.cell 5) | (go_at_call 168; (with_reducible refine (H3.out _).mono ?_); rintro e w1 ⟨rfl, hb1⟩; have nHX := hI9 (HX.out.below hb1); have nHB := hI9 (bthen HB.out hb1); have zz1 := hb1.size; clear HX HB hb1; have HX := nHX; have HB := nHB; clear nHX nHB))
  go_ret
  exact ⟨rfl, HB.out⟩
def flyB (we se ce : Int) (ic st : Bool) (lw ls lc : Int) (li lt : Bool) : Bool := decide (we ≤ lw) && (decide (ls ≤ se) && (decide (lc ≤ ce) && ((!ic || li) && (!st || lt))))
theorem flyable_c (we se ce : Int) (ic st : Bool) (lw ls lc : Int) (li lt : Bool) (w : World) : Calls Tryz.prog 69 #[.agg #[.int .i64 we, .int .i64 se, .int .i64 ce, .bool ic, .bool st], .agg #[.int .i64 lw, .int .i64 ls, .int .i64 lc, .bool li, .bool lt]] w
  fun e w' => e = .returned (.bool (flyB we se ce ic st lw ls lc li lt)) ∧ Below w.heap.size w w' := by
 unfold flyB
 by_cases h1 : we ≤ lw
 ·by_cases h2 : ls ≤ se
  ·by_cases h3 : lc ≤ ce
   ·cases ic <;> cases st <;> cases li <;> cases lt
    all_goals
     go_enter Tryz.func69, Tryz.ntmps69
     go_wp2
     go_ret
     exact ⟨ret_bool (by simp [h1, h2, h3]), (by repeat' (first | exact Below.refl _ _ | assumption | refine Below.drew ?_ | refine bdn ?_ _ | refine bal ?_ _ | refine Below.setCell ?_ (by first | (simp; done) | omega | (simp; omega)) _))⟩
   ·have h3' : ce < lc := by omega
    go_enter Tryz.func69, Tryz.ntmps69
    go_wp2
    go_ret
    exact ⟨ret_bool (by rw [show decide (lc ≤ ce) = false from decide_eq_false (by omega)]; simp), (by repeat' (first | exact Below.refl _ _ | assumption | refine Below.drew ?_ | refine bdn ?_ _ | refine bal ?_ _ | refine Below.setCell ?_ (by first | (simp; done) | omega | (simp; omega)) _))⟩
  ·have h2' : se < ls := by omega
   go_enter Tryz.func69, Tryz.ntmps69
   go_wp2
   go_ret
   exact ⟨ret_bool (by rw [show decide (ls ≤ se) = false from decide_eq_false (by omega)]; simp), (by repeat' (first | exact Below.refl _ _ | assumption | refine Below.drew ?_ | refine bdn ?_ _ | refine bal ?_ _ | refine Below.setCell ?_ (by first | (simp; done) | omega | (simp; omega)) _))⟩
 ·have h1' : lw < we := by omega
  go_enter Tryz.func69, Tryz.ntmps69
  go_wp2
  go_ret
  exact ⟨ret_bool (by rw [show decide (we ≤ lw) = false from decide_eq_false (by omega)]; simp), (by repeat' (first | exact Below.refl _ _ | assumption | refine Below.drew ?_ | refine bdn ?_ _ | refine bal ?_ _ | refine Below.setCell ?_ (by first | (simp; done) | omega | (simp; omega)) _))⟩
theorem worst_c (x : Sk) (w : World) : Calls Tryz.prog 70 #[.agg #[.int .i64 x.a0, .int .i64 x.a1, .int .i64 x.a2, .int .i64 x.a3, .int .i64 x.a4, .int .i64 x.a5, .bool x.i, .bool x.s]] w
  fun e w' => e = .returned (.agg #[.int .i64 x.a1, .int .i64 x.a2, .int .i64 x.a4, .bool x.i, .bool x.s]) ∧ Below w.heap.size w w' := by
 obtain ⟨a0, a1, a2, a3, a4, a5, xi, xs⟩ := x
 go_enter Tryz.func70, Tryz.ntmps70
 go_wp2
 exact bodyPost_ret (res_c rfl _ _ _ 5 rfl (Blk.newA _ _ _ (by simp)) Tryz.rowWe rfl) rfl ⟨rfl, (by repeat' (first | exact Below.refl _ _ | assumption | refine Below.drew ?_ | refine bdn ?_ _ | refine bal ?_ _ | refine Below.setCell ?_ (by first | (simp; done) | omega | (simp; omega)) _))⟩
theorem Tryz.rowWhere : RowTy Tryz.prog 150 3 := ⟨by kernel_rfl, by kernel_rfl⟩
theorem wat_c (p t : Int) (w : World) : Calls Tryz.prog 72 #[.int .i64 p, .int .i64 t] w fun e w' => e = .returned (.agg #[.int .i64 p, .int .i64 t, .int .i64 t]) ∧ Below w.heap.size w w' := by
 go_enter Tryz.func72, Tryz.ntmps72
 go_wp2
 exact bodyPost_ret (res_c rfl _ _ _ 3 rfl (Blk.new _ _ _) Tryz.rowWhere rfl) rfl ⟨rfl, (by repeat' (first | exact Below.refl _ _ | assumption | refine Below.drew ?_ | refine bdn ?_ _ | refine bal ?_ _ | refine Below.setCell ?_ (by first | (simp; done) | omega | (simp; omega)) _))⟩
end Go.Proofs.YtlambeiafdpkgaaGreat

namespace Go.Proofs.YtlambeiafdpkgaaGreat
open Go Go.RowKit Go.Proofs
abbrev Tab := Nat → Nat → Int
def stpT (t : Tab) (a b : Nat) (x : Int) : Tab := fun i j => if i = a ∧ j = b then (if t a b < 0 ∨ x < t a b then x else t a b) else t i j
def lgT (S : Tab) : Nat → Tab
 | 0 => fun _ _ => -1
 | k + 1 => stpT (stpT (lgT S k) (S k 0).toNat (S k 1).toNat (S k 2)) (S k 1).toNat (S k 0).toNat (S k 2)
def dgK (t : Tab) (m : Nat) : Tab := fun i j => if i = j ∧ i < m then 0 else t i j
def flS (t : Tab) (y a b : Nat) : Tab := if 0 ≤ t a y ∧ 0 ≤ t y b then stpT t a b (t a y + t y b) else t
def flB (y a : Nat) : Nat → Tab → Tab
 | 0, t => t
 | b + 1, t => flS (flB y a b t) y a b
def flA (n y : Nat) : Nat → Tab → Tab
 | 0, t => t
 | a + 1, t => flB y a n (flA n y a t)
def flO (n : Nat) : Nat → Tab → Tab
 | 0, t => t
 | y + 1, t => flA n y n (flO n y t)
def timT (S : Tab) (l n : Nat) : Tab := flO n n (dgK (lgT S l) n)
def TabIn (n : Nat) (B : Int) (t : Tab) : Prop := (∀ i, i < n → ∀ j, j < n → -1 ≤ t i j ∧ t i j ≤ B) ∧ ∀ i, i < n → t i i = 0
def TabRd (n : Nat) (B : Int) (y : Nat) (t0 t : Tab) : Prop := TabIn n (B + B) t ∧ ∀ i, i < n → t i y = t0 i y ∧ t y i = t0 y i
theorem TabRd.step {n y : Nat} {B : Int} {t0 t : Tab} (h0 : TabIn n B t0) (hB : 0 ≤ B) (hy : y < n) (h : TabRd n B y t0 t) {a b : Nat} (ha : a < n) (hb : b < n) : TabRd n B y t0 (flS t y a b) ∧ (0 ≤ t a y ∧ 0 ≤ t y b → 0 ≤ t a y + t y b ∧ t a y + t y b ≤ B + B) := by
 obtain ⟨⟨h1, h2⟩, h3⟩ := h
 have e1 := (h3 a ha).1
 have e2 := (h3 b hb).2
 have b1 := h0.1 a ha y hy
 have b2 := h0.1 y hy b hb
 have hyy := h2 y hy
 refine ⟨?_, fun _ => by omega⟩
 unfold flS
 by_cases hc : 0 ≤ t a y ∧ 0 ≤ t y b
 case neg => rw [if_neg hc]; exact ⟨⟨h1, h2⟩, h3⟩
 rw [if_pos hc]
 have hz : ∀ i j, ¬ (i = a ∧ j = b) → stpT t a b (t a y + t y b) i j = t i j := fun i j q => if_neg q
 have hs : stpT t a b (t a y + t y b) a b = if t a b < 0 ∨ t a y + t y b < t a b then t a y + t y b else t a b := if_pos ⟨rfl, rfl⟩
 have ha0 := h2 a ha
 refine ⟨⟨fun i hi j hj => ?_, fun i hi => ?_⟩, fun i hi => ⟨?_, ?_⟩⟩
 ·by_cases q : i = a ∧ j = b
  ·rw [q.1, q.2, hs]
   have := h1 a ha b hb
   split <;> omega
  ·rw [hz i j q]; exact h1 i hi j hj
 ·by_cases q : i = a ∧ i = b
  ·rw [q.1, show stpT t a b (t a y + t y b) a a = stpT t a b (t a y + t y b) a b by rw [← q.2, q.1], hs]
   have : t a b = 0 := by rw [← q.2, q.1]; exact ha0
   rw [this, if_neg (by omega)]
  ·rw [hz i i q]; exact h2 i hi
 ·by_cases q : i = a ∧ y = b
  ·obtain ⟨rfl, rfl⟩ := q
   rw [hs, if_neg (by omega)]
   exact e1
  ·rw [hz i y q]; exact (h3 i hi).1
 ·by_cases q : y = a ∧ i = b
  ·obtain ⟨rfl, rfl⟩ := q
   rw [hs, if_neg (by omega)]
   exact e2
  ·rw [hz y i q]; exact (h3 i hi).2
theorem TabRd.rowB {n y : Nat} {B : Int} {t0 t : Tab} (h0 : TabIn n B t0) (hB : 0 ≤ B) (hy : y < n) (h : TabRd n B y t0 t) {a : Nat} (ha : a < n) : ∀ b, b ≤ n → TabRd n B y t0 (flB y a b t)
 | 0, _ => h
 | b + 1, hb => (TabRd.step h0 hB hy (TabRd.rowB h0 hB hy h ha b (by omega)) ha (by omega)).1
theorem TabRd.rowA {n y : Nat} {B : Int} {t0 : Tab} (h0 : TabIn n B t0) (hB : 0 ≤ B) (hy : y < n) : ∀ a, a ≤ n → TabRd n B y t0 (flA n y a t0)
 | 0, _ => ⟨⟨fun i hi j hj => by have := h0.1 i hi j hj; show -1 ≤ t0 i j ∧ t0 i j ≤ B + B; omega, h0.2⟩, fun _ _ => ⟨rfl, rfl⟩⟩
 | a + 1, ha => TabRd.rowB h0 hB hy (TabRd.rowA h0 hB hy a (by omega)) (by omega) n (Nat.le_refl _)
theorem TabIn.flO {n : Nat} {B : Int} {t : Tab} (h : TabIn n B t) (hB : 0 ≤ B) : ∀ y, y ≤ n → TabIn n (B * 2 ^ y) (flO n y t)
 | 0, _ => by
  show TabIn n (B * 2 ^ 0) t
  simpa using h
 | y + 1, hy => by
  have ih := TabIn.flO h hB y (by omega)
  have hB' : 0 ≤ B * 2 ^ y := Int.mul_nonneg hB (Int.pow_nonneg (by omega))
  have := (TabRd.rowA (y := y) ih hB' (by omega) n (Nat.le_refl _)).1
  rw [show B * 2 ^ (y + 1) = B * 2 ^ y + B * 2 ^ y by rw [Int.pow_succ, ← Int.mul_assoc]; omega]
  exact this
structure NetOk (n : Nat) (S : Tab) (l : Nat) : Prop where
 a : ∀ k, k < l → 0 ≤ S k 0 ∧ S k 0 < n
 b : ∀ k, k < l → 0 ≤ S k 1 ∧ S k 1 < n
 ne : ∀ k, k < l → S k 0 ≠ S k 1
 t : ∀ k, k < l → 1 ≤ S k 2 ∧ S k 2 ≤ 200
theorem stpT_in {t : Tab} {a b : Nat} {x : Int} (hx : 1 ≤ x ∧ x ≤ 200) (h : ∀ i j, t i j = -1 ∨ (1 ≤ t i j ∧ t i j ≤ 200)) (i j : Nat) : stpT t a b x i j = -1 ∨ (1 ≤ stpT t a b x i j ∧ stpT t a b x i j ≤ 200) := by
 unfold stpT
 split
 ·split
  ·omega
  ·exact h a b
 ·exact h i j
theorem lgT_in {n l : Nat} {S : Tab} (h : NetOk n S l) : ∀ k, k ≤ l → ∀ i j, lgT S k i j = -1 ∨ (1 ≤ lgT S k i j ∧ lgT S k i j ≤ 200)
 | 0, _, _, _ => Or.inl rfl
 | k + 1, hk, i, j => stpT_in (h.t k (by omega)) (stpT_in (h.t k (by omega)) (lgT_in h k (by omega))) i j
theorem dgK_in {n l : Nat} {S : Tab} (h : NetOk n S l) : TabIn n 200 (dgK (lgT S l) n) := by
 refine ⟨fun i hi j hj => ?_, fun i hi => if_pos ⟨rfl, hi⟩⟩
 unfold dgK
 split
 ·omega
 ·have := lgT_in h l (Nat.le_refl _) i j; omega
theorem dgK_zero (t : Tab) : dgK t 0 = t := by
 funext i j; unfold dgK; rw [if_neg (by omega)]
theorem dgK_succ (t : Tab) (m : Nat) : (fun i j => if i = m ∧ j = m then 0 else dgK t m i j) = dgK t (m + 1) := by
 funext i j
 unfold dgK
 by_cases e : i = m ∧ j = m
 ·rw [if_pos e, if_pos (by omega)]
 ·rw [if_neg e]
  by_cases e2 : i = j ∧ i < m
  ·rw [if_pos e2, if_pos (by omega)]
  ·rw [if_neg e2, if_neg (by omega)]
theorem flO_step {n : Nat} {t : Tab} (h : TabIn n 200 t) (hn : n ≤ 8) {y a b : Nat} (hy : y < n) (ha : a < n) (hb : b < n) :
  (-1 ≤ flB y a b (flA n y a (flO n y t)) a y ∧ flB y a b (flA n y a (flO n y t)) a y ≤ 51200) ∧ -1 ≤ flB y a b (flA n y a (flO n y t)) y b ∧ flB y a b (flA n y a (flO n y t)) y b ≤ 51200 := by
 have h1 := TabIn.flO h (by omega) y (by omega)
 have hp : (2 : Int) ^ y ≤ 2 ^ 7 := by
  have : y ≤ 7 := by omega
  have h7 : ∀ m : Nat, m ≤ 7 → (2 : Int) ^ m ≤ 2 ^ 7 := by decide
  exact h7 y this
 have hB : (0 : Int) ≤ 200 * 2 ^ y := Int.mul_nonneg (by omega) (Int.pow_nonneg (by omega))
 have h2 := TabRd.rowB h1 hB hy (TabRd.rowA h1 hB hy a (by omega)) ha b (by omega)
 have e1 := h2.1.1 a ha y hy
 have e2 := h2.1.1 y hy b hb
 have : (2 : Int) ^ 7 = 128 := by decide
 omega
theorem timT_in {n l : Nat} {S : Tab} (h : NetOk n S l) (hn : n ≤ 8) : TabIn n 51200 (timT S l n) := by
 have h1 := TabIn.flO (dgK_in h) (by omega) n (Nat.le_refl _)
 have h7 : ∀ m : Nat, m ≤ 8 → (200 : Int) * 2 ^ m ≤ 51200 := by decide
 have := h7 n hn
 unfold timT
 exact ⟨fun i hi j hj => by have := h1.1 i hi j hj; omega, h1.2⟩
structure Sq (w : World) (T : TypeId) (lo hi g : Nat) (r : Nat → Nat) (n : Nat) (t : Tab) : Prop where
 gl : lo ≤ g ∧ g < hi ∧ hi ≤ w.heap.size
 rl : ∀ i, i < n → lo ≤ r i ∧ r i < hi ∧ r i ≠ g
 d : ∀ i, i < n → ∀ j, j < n → r i = r j → i = j
 o : ∀ i, i < n → ∃ c, n ≤ c ∧ c ≤ 9223372036854775807 ∧ w.cell? ⟨g, i, none⟩ = some (.slice (some ⟨r i, 0, none⟩) n c)
 b : ∀ i, i < n → ∃ cs, Blk w (r i) T cs ∧ ∀ j, j < n → cs[j]? = some (.int .i64 (t i j))
theorem cell_heap {w w' : World} {g : Nat} (h : w'.heap[g]? = w.heap[g]?) (i : Nat) : w'.cell? ⟨g, i, none⟩ = w.cell? ⟨g, i, none⟩ := by
 simp only [World.cell?, h]
theorem Sq.frame {w w' : World} {T : TypeId} {lo hi g n : Nat} {r : Nat → Nat} {t : Tab} (h : Sq w T lo hi g r n t) (hs : w.heap.size ≤ w'.heap.size) (hb : ∀ b, lo ≤ b → b < hi → w'.heap[b]? = w.heap[b]?) : Sq w' T lo hi g r n t :=
 ⟨⟨h.gl.1, h.gl.2.1, Nat.le_trans h.gl.2.2 hs⟩, h.rl, h.d, fun i hi => (h.o i hi).imp fun c q => ⟨q.1, q.2.1, (cell_heap (hb g h.gl.1 h.gl.2.1) i).trans q.2.2⟩, fun i hi => (h.b i hi).imp fun cs q => ⟨(hb (r i) (h.rl i hi).1 (h.rl i hi).2.1).trans q.1, q.2⟩⟩
theorem Sq.below {w w' : World} {T : TypeId} {lo hi g n : Nat} {r : Nat → Nat} {t : Tab} (h : Sq w T lo hi g r n t) (hb : Below w.heap.size w w') : Sq w' T lo hi g r n t :=
 h.frame hb.size fun b _ h2 => hb.block b (Nat.lt_of_lt_of_le h2 h.gl.2.2)
theorem Sq.alloc {w : World} {T : TypeId} {lo hi g n : Nat} {r : Nat → Nat} {t : Tab} (h : Sq w T lo hi g r n t) (o : Obj) : Sq (w.alloc o) T lo hi g r n t := h.below (bal (Below.refl _ _) o)
theorem Sq.far {w : World} {T : TypeId} {lo hi g n : Nat} {r : Nat → Nat} {t : Tab} (h : Sq w T lo hi g r n t) {k i : Nat} (hk : k < lo ∨ hi ≤ k) (u : Value) : Sq (w.setCell ⟨k, i, none⟩ u) T lo hi g r n t :=
 h.frame (by simp) fun b h1 h2 => Below.heap_setCell w ⟨k, i, none⟩ u b (by show b ≠ k; omega)
theorem Sq.set_ {w : World} {T : TypeId} {lo hi g n : Nat} {r : Nat → Nat} {t : Tab} (h : Sq w T lo hi g r n t) {a b : Nat} (ha : a < n) (x : Int) : Sq (w.setCell ⟨r a, b, none⟩ (.int .i64 x)) T lo hi g r n (fun i j => if i = a ∧ j = b then x else t i j) := by
 refine ⟨⟨h.gl.1, h.gl.2.1, by simpa using h.gl.2.2⟩, h.rl, h.d, fun i hi => ?_, fun i hi => ?_⟩
 ·obtain ⟨c, q1, q2, q3⟩ := h.o i hi
  exact ⟨c, q1, q2, (cell_heap (Below.heap_setCell w ⟨r a, b, none⟩ _ g (by show g ≠ r a; exact Ne.symm (h.rl a ha).2.2)) i).trans q3⟩
 ·obtain ⟨cs, q1, q2⟩ := h.b i hi
  by_cases e : i = a
  ·subst e
   refine ⟨_, q1.set_ b (.int .i64 x), fun j hj => ?_⟩
   rw [Array.getElem?_setIfInBounds]
   by_cases e : b = j
   ·subst e
    have := (Array.getElem?_eq_some_iff.1 (q2 b hj)).1
    rw [if_pos rfl, if_pos this, if_pos ⟨rfl, rfl⟩]
   ·rw [if_neg e, q2 j hj, if_neg (fun q => e q.2.symm)]
  ·refine ⟨cs, q1.far' (i := b) (f := r a) (fun q => e (h.d i hi a ha q)) (.int .i64 x), fun j hj => ?_⟩
   rw [q2 j hj, if_neg (fun q => e q.1)]
theorem Sq.cell {w : World} {T : TypeId} {lo hi g n : Nat} {r : Nat → Nat} {t : Tab} (h : Sq w T lo hi g r n t) {a b : Nat} (ha : a < n) (hb : b < n) : w.cell? ⟨r a, b, none⟩ = some (.int .i64 (t a b)) := by
 obtain ⟨cs, q1, q2⟩ := h.b a ha
 rw [q1.cell b]
 exact q2 b hb
theorem Sq.fr {w : World} {T : TypeId} {lo hi g n : Nat} {r : Nat → Nat} {t : Tab} (h : Sq w T lo hi g r n t) {a : Nat} (ha : a < n) (b : Nat) : w.frozen? ⟨r a, b, none⟩ = false := by
 obtain ⟨cs, q1, q2⟩ := h.b a ha
 exact q1.frozen b
def shW (w : World) (ra b : Nat) (t x : Int) : World := if t < 0 ∨ x < t then w.setCell ⟨ra, b, none⟩ (.int .i64 x) else w
theorem Sq.sh {w : World} {T : TypeId} {lo hi g n : Nat} {r : Nat → Nat} {t : Tab} (h : Sq w T lo hi g r n t) {a b : Nat} (ha : a < n) (x : Int) : Sq (shW w (r a) b (t a b) x) T lo hi g r n (stpT t a b x) := by
 unfold shW
 by_cases e : t a b < 0 ∨ x < t a b
 ·rw [if_pos e]
  have := h.set_ (b := b) ha x
  rw [show (fun i j => if i = a ∧ j = b then x else t i j) = stpT t a b x by funext i j; unfold stpT; rw [if_pos e]] at this
  exact this
 ·rw [if_neg e]
  rw [show stpT t a b x = t by
   funext i j; unfold stpT; rw [if_neg e]
   by_cases q : i = a ∧ j = b
   ·rw [if_pos q, q.1, q.2]
   ·rw [if_neg q]]
  exact h
theorem shW_size (w : World) (ra b : Nat) (t x : Int) : (shW w ra b t x).heap.size = w.heap.size := by unfold shW; split <;> simp
theorem shW_heap (w : World) (ra b k : Nat) (t x : Int) (hk : k ≠ ra) : (shW w ra b t x).heap[k]? = w.heap[k]? := by
 unfold shW; split
 ·exact Below.heap_setCell w ⟨ra, b, none⟩ _ k hk
 ·rfl
theorem Below.sh {B : Nat} {w w' : World} (h : Below B w w') {ra : Nat} (hr : B ≤ ra) (b : Nat) (t x : Int) : Below B w (shW w' ra b t x) := by
 unfold shW; split
 ·exact bset h hr _
 ·exact h
theorem Blk.sh {w : World} {k : Nat} {T : TypeId} {cs : Array Value} (h : Blk w k T cs) {ra : Nat} (hr : k ≠ ra) (b : Nat) (t x : Int) : Blk (shW w ra b t x) k T cs := (shW_heap w ra b k t x hr).trans h
theorem Sq.shFar {w : World} {T : TypeId} {lo hi g n : Nat} {r : Nat → Nat} {t : Tab} (h : Sq w T lo hi g r n t) {ra : Nat} (hr : ra < lo ∨ hi ≤ ra) (b : Nat) (s x : Int) : Sq (shW w ra b s x) T lo hi g r n t :=
 h.frame (by rw [shW_size]; exact Nat.le_refl _) fun k h1 h2 => shW_heap w ra b k s x (by omega)
end Go.Proofs.YtlambeiafdpkgaaGreat

namespace Go.Proofs.YtlambeiafdpkgaaGreat
open Go Go.Shelf Go.RowKit Go.Proofs
def Tryz.laysSort_ren : Go.Shelf.Ren := ⟨fun | 189 => 117 | 125 => 162 | 257 => 161 | 128 => 188 | 129 => 189 | 294 => 179 | 295 => 180 | 296 => 181 | 297 => 182 | 298 => 183 | 299 => 184 | 216 => 185 | 300 => 186 | 301 => 187 | 328 => 194 | 329 => 195 | 330 => 196 | 331 => 197 | 332 => 198 | 215 => 128 | 343 => 203 | n => n, fun | 28 => 35 | 3 => 3 | 46 => 233 | 0 => 0 | 51 => 258 | 53 => 260 | 4 => 4 | 183 => 251 | 182 => 250 | 131 => 255 | 5 => 5 | 9 => 9 | 218 => 264 | 222 => 268 | 228 => 274 | 229 => 275 | n => n, fun | n => n⟩
theorem Tryz.laysSort : Go.Proofs.Lays.n189 Tryz.prog Tryz.laysSort_ren := {
 mixed := by kernel_rfl
 f125 := Tryz.func162.trans (congrArg some (by kernel_rfl))
 f128 := Tryz.func188.trans (congrArg some (by kernel_rfl))
 f129 := Tryz.func189.trans (congrArg some (by kernel_rfl))
 f189 := Tryz.func117.trans (congrArg some (by kernel_rfl))
 f215 := Tryz.func128.trans (congrArg some (by kernel_rfl))
 f216 := Tryz.func185.trans (congrArg some (by kernel_rfl))
 f257 := Tryz.func161.trans (congrArg some (by kernel_rfl))
 f294 := Tryz.func179.trans (congrArg some (by kernel_rfl))
 f295 := Tryz.func180.trans (congrArg some (by kernel_rfl))
 f296 := Tryz.func181.trans (congrArg some (by kernel_rfl))
 f297 := Tryz.func182.trans (congrArg some (by kernel_rfl))
 f298 := Tryz.func183.trans (congrArg some (by kernel_rfl))
 f299 := Tryz.func184.trans (congrArg some (by kernel_rfl))
 f300 := Tryz.func186.trans (congrArg some (by kernel_rfl))
 f301 := Tryz.func187.trans (congrArg some (by kernel_rfl))
 f328 := Tryz.func194.trans (congrArg some (by kernel_rfl))
 f329 := Tryz.func195.trans (congrArg some (by kernel_rfl))
 f330 := Tryz.func196.trans (congrArg some (by kernel_rfl))
 f331 := Tryz.func197.trans (congrArg some (by kernel_rfl))
 f332 := Tryz.func198.trans (congrArg some (by kernel_rfl))
 f343 := Tryz.func203.trans (congrArg some (by kernel_rfl))
 t0 := Tryz.underlying0
 a0 := Tryz.isAgg0
 z0 := Tryz.sizeOf0
 v0 := Tryz.zeroValue0
 t3 := Tryz.underlying3
 a3 := Tryz.isAgg3
 z3 := Tryz.sizeOf3
 v3 := Tryz.zeroValue3
 t4 := Tryz.underlying4
 a4 := Tryz.isAgg4
 z4 := Tryz.sizeOf4
 v4 := Tryz.zeroValue4
 t5 := Tryz.underlying5
 a5 := Tryz.isAgg5
 z5 := Tryz.sizeOf5
 v5 := Tryz.zeroValue5
 t9 := Tryz.underlying9
 a9 := Tryz.isAgg9
 z9 := Tryz.sizeOf9
 v9 := Tryz.zeroValue9
 t28 := Tryz.underlying35
 a28 := Tryz.isAgg35
 z28 := Tryz.sizeOf35
 v28 := Tryz.zeroValue35
 t46 := Tryz.underlying233
 a46 := Tryz.isAgg233
 z46 := Tryz.sizeOf233
 v46 := Tryz.zeroValue233
 t51 := Tryz.underlying258
 a51 := Tryz.isAgg258
 z51 := Tryz.sizeOf258
 v51 := Tryz.zeroValue258
 t53 := Tryz.underlying260
 a53 := Tryz.isAgg260
 z53 := Tryz.sizeOf260
 v53 := Tryz.zeroValue260
 t131 := Tryz.underlying255
 a131 := Tryz.isAgg255
 z131 := Tryz.sizeOf255
 v131 := Tryz.zeroValue255
 t182 := Tryz.underlying250
 a182 := Tryz.isAgg250
 z182 := Tryz.sizeOf250
 v182 := Tryz.zeroValue250
 t183 := Tryz.underlying251
 a183 := Tryz.isAgg251
 z183 := Tryz.sizeOf251
 v183 := Tryz.zeroValue251
 t218 := Tryz.underlying264
 a218 := Tryz.isAgg264
 z218 := Tryz.sizeOf264
 v218 := Tryz.zeroValue264
 t222 := Tryz.underlying268
 a222 := Tryz.isAgg268
 z222 := Tryz.sizeOf268
 v222 := Tryz.zeroValue268
 t228 := Tryz.underlying274
 a228 := Tryz.isAgg274
 z228 := Tryz.sizeOf274
 v228 := Tryz.zeroValue274
 t229 := Tryz.underlying275
 a229 := Tryz.isAgg275
 z229 := Tryz.sizeOf275
 v229 := Tryz.zeroValue275 }
theorem sortI_c (blk off cap : Nat) (zs : List Int) (w : World) (hH : Sort.Holds (Value.int .i64) w blk off zs.toArray) (hblk : blk < w.heap.size) (hsz : zs.length < 4611686018427387904) :
  Calls Tryz.prog 117 #[.slice (some ⟨blk, off, none⟩) zs.length cap] w fun e w' =>
   e = .returned (.tuple #[]) ∧ ∃ n os, w' = Sort.grow (Sort.putRow (Value.int .i64) (Sort.ahead w n) blk off (zs.mergeSort fun x y => decide (x ≤ y)).toArray) os :=
 Any.slices_Sort_int Tryz.laysSort blk off cap zs w hH hblk hsz
theorem sortI_none_c (p : Option Addr) (cap : Nat) (w : World) : Calls Tryz.prog 117 #[.slice p 0 cap] w fun e w' => e = .returned (.tuple #[]) ∧ w' = w :=
 Any.slices_Sort_int_none Tryz.laysSort p cap w
open Go.Lib Go.Sort in
theorem sortOdd_c (base : Nat) (v : Value) (xs : List Nat) (w : World) (hown : w.ownsRow base 3 1 v xs.length (xs.map encN)) (hnil : v = .slice none 0 0 ↔ xs = []) (hlt : ∀ x ∈ xs, x < 1000000) (h40 : xs.length ≤ 40) :
  Calls Tryz.prog 117 #[v] w fun e w' => e = .returned (.tuple #[]) ∧ w.grownBy w' v.ownBlock ∧ Ints w' v ((xs.mergeSort (fun x y => decide (castI x ≤ castI y))).map castI) := by
 by_cases he : xs = []
 ·subst he
  obtain rfl := hnil.2 rfl
  refine (sortI_none_c none 0 w).mono ?_
  rintro _ _ ⟨rfl, rfl⟩
  refine ⟨rfl, ⟨rfl, rfl, rfl, Nat.le_refl _, fun _ _ _ => rfl⟩, ⟨none, 0, ?_, ?_, by omega, fun x hx => ?_, fun h => ?_⟩⟩
  ·simp
  ·simp
  ·simp at hx
  ·simp at h
 ·have hvne : v ≠ .slice none 0 0 := fun e => he (hnil.1 e)
  have e0 : xs.map encN = (xs.map castI).map (Value.int .i64) := by rw [List.map_map]; rfl
  rw [e0] at hown
  obtain ⟨b, cap, rfl, hb1, hb2, hb3, hb4, hb5, hH⟩ := holds_of_ownsRow (enc := Value.int .i64) hown hvne
  have hl : (xs.map castI).length = xs.length := List.length_map _
  have hs := sortI_c b 0 cap (xs.map castI) w hH hb2 (by rw [hl]; omega)
  rw [hl] at hs
  refine hs.mono ?_
  rintro _ w' ⟨rfl, n, os, hw⟩
  have hS : SW (Value.int .i64) w b 0 ((xs.map castI).mergeSort fun x y => decide (x ≤ y)).toArray w' := ⟨n, os, hw⟩
  have em : (xs.mergeSort (fun x y => decide (castI x ≤ castI y))).map castI = (xs.map castI).mergeSort (fun x y => decide (x ≤ y)) := List.map_mergeSort (fun a _ c _ => rfl)
  rw [em]
  have hz : ((xs.map castI).mergeSort fun x y => decide (x ≤ y)).toArray.size = (xs.map castI).toArray.size := by simp
  have hH2 := hS.holds hb2 hH hz
  refine ⟨rfl, sw_grown hS, some ⟨b, 0, none⟩, cap, ?_, ?_, ?_, fun x hx => ?_, fun h => ⟨b, 0, rfl, hS.lt hb2, fun k hk => ?_⟩⟩
  ·simp
  ·simp; omega
  ·unfold maxLen at hb4; omega
  ·rw [List.mem_mergeSort, List.mem_map] at hx
   obtain ⟨a, ha, rfl⟩ := hx
   have := hlt a ha
   unfold I64 castI
   omega
  ·have hk2 : k < ((xs.map castI).mergeSort fun x y => decide (x ≤ y)).toArray.size := by simpa using hk
   rw [(hH2 k hk2).1]
   show some _ = some (Value.int .i64 (nth _ k))
   rw [nth_getElem _ _ (by simpa using hk)]
   have hk3 : k < xs.length := by simpa using hk
   simp [hk3]
end Go.Proofs.YtlambeiafdpkgaaGreat
