/- Texts joined: JAH. -/
import Derived.Test.YtlabfpjlckdmfaaGreatJAG
import Derived.Test.YtlabfpjlckdmfaaGreatJAF
import Derived.Maps.AppendAt
set_option linter.all false
namespace Go.Proofs.YtlabfpjlckdmfaaGreat
open Go Go.RowKit Go.Proofs
structure Sk where
 a0 : Int
 a1 : Int
 a2 : Int
 a3 : Int
 a4 : Int
 a5 : Int
 i : Bool
 s : Bool
def Sk.ok (x : Sk) : Prop := vspan x.a0 x.a1 = true ∧ vspan x.a2 x.a3 = true ∧ vspan x.a4 x.a5 = true
def Sk.cells (x : Sk) : Array Value := #[.int .i64 x.a0, .int .i64 x.a1, .int .i64 x.a2, .int .i64 x.a3, .int .i64 x.a4, .int .i64 x.a5, .bool x.i, .bool x.s]
def Sk.cut (x b : Sk) : Sk := ⟨cuL x.a0 x.a1 b.a0 b.a1, cuH x.a0 x.a1 b.a0 b.a1, cuL x.a2 x.a3 b.a2 b.a3, cuH x.a2 x.a3 b.a2 b.a3, cuL x.a4 x.a5 b.a4 b.a5, cuH x.a4 x.a5 b.a4 b.a5, x.i, x.s⟩
def Sk.odd (x b : Sk) : Bool := skF x.a0 x.a1 x.a2 x.a3 x.a4 x.a5 b.a0 b.a1 b.a2 b.a3 b.a4 b.a5
structure MetD where
 places : Int
 any : Sk
 mw : Int
 ms : Int
 mc : Int
 n : Nat
 D : Nat → Nat → Int
 B : Nat → Nat → Bool
 m : Nat
 E : Nat → Nat → Int
 C : Nat → Nat → Bool
def fcV (D : Nat → Nat → Int) (B : Nat → Nat → Bool) (i j : Nat) : Value := if j < 10 then .int .i64 (D i j) else .bool (B i j)
def siV (E : Nat → Nat → Int) (C : Nat → Nat → Bool) (i j : Nat) : Value := if j < 5 then .int .i64 (E i j) else .bool (C i j)
def MetD.fc (M : MetD) (i : Nat) : Sk := ⟨M.D i 4, M.D i 5, M.D i 6, M.D i 7, M.D i 8, M.D i 9, M.B i 10, M.B i 11⟩
def MetD.covP (M : MetD) (p t : Int) (i : Nat) : Bool := decide (M.D i 0 = p) && inB t (M.D i 1) (M.D i 2 - 1)
def MetD.cov (M : MetD) (p t : Int) (k : Nat) : List Nat := (List.range k).filter (M.covP p t)
def MetD.ordF (M : MetD) (p t : Int) : List Nat := stab (fun i => M.D i 3) (M.cov p t M.n)
def MetD.stepF (M : MetD) (x : Sk) (i : Nat) : Sk := { x.cut (M.fc i) with i := x.i && M.B i 10, s := x.s && M.B i 11 }
def MetD.skyF (M : MetD) (l : List Nat) : Sk := l.foldl M.stepF M.any
def MetD.oddF (M : MetD) : Sk → List Nat → List Nat
 | _, [] => []
 | x, i :: l => if x.odd (M.fc i) then i :: M.oddF (M.stepF x i) l else M.oddF (M.stepF x i) l
def MetD.senP (M : MetD) (p t : Int) (i : Nat) : Bool := decide (M.E i 0 = p) && decide (M.E i 1 ≤ t)
def MetD.sen (M : MetD) (p t : Int) (k : Nat) : List Nat := (List.range k).filter (M.senP p t)
def MetD.ordS (M : MetD) (p t : Int) : List Nat := stab (fun i => M.E i 1) (M.sen p t M.m)
def MetD.si (M : MetD) (t : Int) (i : Nat) : Sk := ⟨neL (M.E i 2) ((t - M.E i 1) * M.mw) 300, neH (M.E i 2) ((t - M.E i 1) * M.mw) 300, neL (M.E i 3) ((t - M.E i 1) * M.ms) 20000, neH (M.E i 3) ((t - M.E i 1) * M.ms) 20000,
 neL (M.E i 4) ((t - M.E i 1) * M.mc) 20000, neH (M.E i 4) ((t - M.E i 1) * M.mc) 20000, false, false⟩
def MetD.stepS (M : MetD) (t : Int) (x : Sk) (i : Nat) : Sk := if t - M.E i 1 = 0 then { x.cut (M.si t i) with i := M.C i 5, s := M.C i 6 } else x.cut (M.si t i)
def MetD.may (M : MetD) (p t : Int) : Sk := (M.ordS p t).foldl (M.stepS t) (M.skyF (M.ordF p t))
def MetD.odd (M : MetD) (p t : Int) : List Nat := M.oddF M.any (M.ordF p t)
def Sk.inr (x : Sk) : Bool := insB x.a0 x.a1 300 && (insB x.a2 x.a3 20000 && insB x.a4 x.a5 20000)
structure MetD.Ok (M : MetD) : Prop where
 places : 1 ≤ M.places ∧ M.places ≤ 8
 any : M.any.inr = true
 mw : 0 ≤ M.mw ∧ M.mw ≤ 20000
 ms : 0 ≤ M.ms ∧ M.ms ≤ 20000
 mc : 0 ≤ M.mc ∧ M.mc ≤ 20000
 n : M.n ≤ 40
 m : M.m ≤ 20
 fp : ∀ i, i < M.n → 0 ≤ M.D i 0 ∧ M.D i 0 ≤ M.places - 1
 ff : ∀ i, i < M.n → 0 ≤ M.D i 1 ∧ M.D i 1 ≤ 2000
 ft : ∀ i, i < M.n → 0 ≤ M.D i 2 ∧ M.D i 2 ≤ 2000
 fi : ∀ i, i < M.n → 0 ≤ M.D i 3 ∧ M.D i 3 ≤ 2000
 fl : ∀ i, i < M.n → M.D i 1 < M.D i 2
 fs : ∀ i, i < M.n → (M.fc i).inr = true
 sp : ∀ i, i < M.m → 0 ≤ M.E i 0 ∧ M.E i 0 ≤ M.places - 1
 sa : ∀ i, i < M.m → 0 ≤ M.E i 1 ∧ M.E i 1 ≤ 2000
 sw : ∀ i, i < M.m → 0 ≤ M.E i 2 ∧ M.E i 2 ≤ 300
 ss : ∀ i, i < M.m → 0 ≤ M.E i 3 ∧ M.E i 3 ≤ 20000
 sc : ∀ i, i < M.m → 0 ≤ M.E i 4 ∧ M.E i 4 ≤ 20000
theorem insB_iff {lo hi m : Int} : insB lo hi m = true ↔ vspan lo hi = true ∧ 0 ≤ lo ∧ lo ≤ m ∧ hi ≤ m := by
 unfold insB; simp only [Bool.and_eq_true, decide_eq_true_eq, inB_iff]
 exact ⟨fun ⟨a, ⟨b, c⟩, d⟩ => ⟨a, b, c, d⟩, fun ⟨a, b, c, d⟩ => ⟨a, ⟨b, c⟩, d⟩⟩
theorem Sk.inr_ok {x : Sk} (h : x.inr = true) : x.ok := by
 unfold Sk.inr at h
 simp only [Bool.and_eq_true] at h
 exact ⟨(insB_iff.1 h.1).1, (insB_iff.1 h.2.1).1, (insB_iff.1 h.2.2).1⟩
theorem cu_ok {al ah bl bh m : Int} (ha : insB al ah m = true) (hb : insB bl bh m = true) : insB (cuL al ah bl bh) (cuH al ah bl bh) m = true := by
 rw [insB_iff, vspan_iff'] at *
 unfold cuL cuH
 split <;> omega
theorem Sk.cut_inr {x b : Sk} (h : x.inr = true) (hb : b.inr = true) : (x.cut b).inr = true := by
 unfold Sk.inr at *
 simp only [Bool.and_eq_true] at *
 exact ⟨cu_ok h.1 hb.1, cu_ok h.2.1 hb.2.1, cu_ok h.2.2 hb.2.2⟩
theorem ne_ok {n d m : Int} (h0 : 0 ≤ n) (h1 : n ≤ m) (h2 : 0 ≤ d) (h3 : m ≤ 1000000) : insB (neL n d m) (neH n d m) m = true := by
 rw [insB_iff, vspan_iff']
 unfold neL neH
 omega
theorem MetD.Ok.stepF {M : MetD} (h : M.Ok) {x : Sk} (hx : x.inr = true) {i : Nat} (hi : i < M.n) : (M.stepF x i).inr = true := by
 have := Sk.cut_inr hx (h.fs i hi)
 exact this
theorem MetD.Ok.si {M : MetD} (h : M.Ok) {t : Int} {i : Nat} (hi : i < M.m) (ht : M.E i 1 ≤ t) : (M.si t i).inr = true := by
 have a := h.sw i hi
 have b := h.ss i hi
 have c := h.sc i hi
 have d : 0 ≤ t - M.E i 1 := by omega
 have e1 := Int.mul_nonneg d h.mw.1
 have e2 := Int.mul_nonneg d h.ms.1
 have e3 := Int.mul_nonneg d h.mc.1
 unfold Sk.inr MetD.si
 simp only [Bool.and_eq_true]
 exact ⟨ne_ok a.1 a.2 e1 (by omega), ne_ok b.1 b.2 e2 (by omega), ne_ok c.1 c.2 e3 (by omega)⟩
theorem MetD.Ok.stepS {M : MetD} (h : M.Ok) {t : Int} {x : Sk} (hx : x.inr = true) {i : Nat} (hi : i < M.m) (ht : M.E i 1 ≤ t) : (M.stepS t x i).inr = true := by
 have := Sk.cut_inr hx (h.si hi ht)
 unfold MetD.stepS
 split
 ·exact this
 ·exact this
theorem stab_mem {key : Nat → Int} {l : List Nat} {x : Nat} : x ∈ stab key l ↔ x ∈ l := by unfold stab; exact List.mem_mergeSort
theorem MetD.cov_lt {M : MetD} {p t : Int} {k i : Nat} (h : i ∈ M.cov p t k) : i < k := by
 unfold MetD.cov at h; exact List.mem_range.1 (List.mem_filter.1 h).1
theorem MetD.sen_lt {M : MetD} {p t : Int} {k i : Nat} (h : i ∈ M.sen p t k) : i < k ∧ M.E i 1 ≤ t := by
 unfold MetD.sen at h
 have h2 := (List.mem_filter.1 h).2
 unfold MetD.senP at h2
 simp only [Bool.and_eq_true, decide_eq_true_eq] at h2
 exact ⟨List.mem_range.1 (List.mem_filter.1 h).1, h2.2⟩
theorem MetD.cov_succ (M : MetD) (p t : Int) (k : Nat) : M.cov p t (k + 1) = M.cov p t k ++ (if M.covP p t k then [k] else []) := by
 unfold MetD.cov; rw [List.range_succ, List.filter_append]; simp [List.filter]; cases M.covP p t k <;> rfl
theorem MetD.sen_succ (M : MetD) (p t : Int) (k : Nat) : M.sen p t (k + 1) = M.sen p t k ++ (if M.senP p t k then [k] else []) := by
 unfold MetD.sen; rw [List.range_succ, List.filter_append]; simp [List.filter]; cases M.senP p t k <;> rfl
theorem MetD.cov_len (M : MetD) (p t : Int) (k : Nat) : (M.cov p t k).length ≤ k := by
 unfold MetD.cov; exact Nat.le_trans (List.length_filter_le _ _) (by simp)
theorem MetD.sen_len (M : MetD) (p t : Int) (k : Nat) : (M.sen p t k).length ≤ k := by
 unfold MetD.sen; exact Nat.le_trans (List.length_filter_le _ _) (by simp)
theorem MetD.cov_inc (M : MetD) (p t : Int) (k : Nat) : (M.cov p t k).Pairwise (· < ·) := List.Pairwise.filter _ List.pairwise_lt_range
theorem MetD.sen_inc (M : MetD) (p t : Int) (k : Nat) : (M.sen p t k).Pairwise (· < ·) := List.Pairwise.filter _ List.pairwise_lt_range
end Go.Proofs.YtlabfpjlckdmfaaGreat

namespace Go.Proofs.YtlabfpjlckdmfaaGreat
open Go Go.RowKit Go.Proofs
set_option maxRecDepth 100000
set_option maxHeartbeats 4000000
theorem sky_c (x : Sk) (w : World) : Calls Tryz.prog 72 #[.agg #[.int .i64 x.a0, .int .i64 x.a1, .int .i64 x.a2, .int .i64 x.a3, .int .i64 x.a4, .int .i64 x.a5, .bool x.i, .bool x.s]] w fun e w' => e = .returned (.bool x.inr) ∧ Below w.heap.size w w' := by
 obtain ⟨a0, a1, a2, a3, a4, a5, xi, xs⟩ := x
 have h1 := fun w1 => inside_c a0 a1 300 w1
 have h2 := fun w1 => inside_c a2 a3 20000 w1
 have h3 := fun w1 => inside_c a4 a5 20000 w1
 show Calls _ _ _ _ fun e w' => e = .returned (.bool (insB a0 a1 300 && (insB a2 a3 20000 && insB a4 a5 20000))) ∧ Below w.heap.size w w'
 dsimp only
 generalize insB a0 a1 300 = B1 at *
 generalize insB a2 a3 20000 = B2 at *
 generalize insB a4 a5 20000 = B3 at *
 have H1 := hI9 h1
 have H2 := hI9 h2
 have H3 := hI9 h3
 clear h1 h2 h3
 cases B1 <;> cases B2 <;> cases B3
 all_goals
  go_enter Tryz.func72, Tryz.ntmps72
  go_wp2_with (fail)
  have _x := frm1 w #[.int .i64 a0, .int .i64 a1, .int .i64 a2, .int .i64 a3, .int .i64 a4, .int .i64 a5, .bool xi, .bool xs] 25
  have HX := hI9 _x.1
  have HB := hI9 _x.2.1
  have zW := _x.2.2
  clear _x
  generalize World.alloc w _ = W at *
  have zHX := HX.out.lt
  have cHX0 := HX.out.cell 0
  have cHX1 := HX.out.cell 1
  go_wp2_with (first | (go_at_call 89; (with_reducible refine (H1.out _).mono ?_); rintro e w1 ⟨rfl, hb1⟩; have nHX := hI9 (HX.out.below hb1); have nHB := hI9 (bthen HB.out hb1); have zz1 := hb1.size; clear HX HB hb1; have HX := nHX; have HB := nHB; clear nHX nHB; (try clear zHX); have zHX := HX.out.lt; (try clear cHX2); have cHX2 := HX.out.cell 2; (try clear cHX3); have cHX3 := HX.out.cell 3) | (go_at_call 89; (with_reducible refine (H2.out _).mono ?_); rintro e w1 ⟨rfl, hb1⟩; have nHX := hI9 (HX.out.below hb1); have nHB := hI9 (bthen HB.out hb1); have zz1 := hb1.size; clear HX HB hb1; have HX := nHX; have HB := nHB; clear nHX nHB; (try clear zHX); have zHX := HX.out.lt; (try clear cHX4); have cHX4 := HX.out.cell 4; (try clear cHX5); have cHX5 := HX.out.cell 5) | (go_at_call 89; (with_reducible refine (H3.out _).mono ?_); rintro e w1 ⟨rfl, hb1⟩; have nHX := hI9 (HX.out.below hb1); have nHB := hI9 (bthen HB.out hb1); have zz1 := hb1.size; clear HX HB hb1; have HX := nHX; have HB := nHB; clear nHX nHB))
  go_ret
  exact ⟨rfl, HB.out⟩
def flyB (we se ce : Int) (ic st : Bool) (lw ls lc : Int) (li lt : Bool) : Bool := decide (we ≤ lw) && (decide (ls ≤ se) && (decide (lc ≤ ce) && ((!ic || li) && (!st || lt))))
theorem flyable_c (we se ce : Int) (ic st : Bool) (lw ls lc : Int) (li lt : Bool) (w : World) : Calls Tryz.prog 98 #[.agg #[.int .i64 we, .int .i64 se, .int .i64 ce, .bool ic, .bool st], .agg #[.int .i64 lw, .int .i64 ls, .int .i64 lc, .bool li, .bool lt]] w
  fun e w' => e = .returned (.bool (flyB we se ce ic st lw ls lc li lt)) ∧ Below w.heap.size w w' := by
 unfold flyB
 by_cases h1 : we ≤ lw
 ·by_cases h2 : ls ≤ se
  ·by_cases h3 : lc ≤ ce
   ·cases ic <;> cases st <;> cases li <;> cases lt
    all_goals
     go_enter Tryz.func98, Tryz.ntmps98
     go_wp2
     go_ret
     exact ⟨ret_bool (by simp [h1, h2, h3]), (by repeat' (first | exact Below.refl _ _ | assumption | refine Below.drew ?_ | refine bdn ?_ _ | refine bal ?_ _ | refine Below.setCell ?_ (by first | (simp; done) | omega | (simp; omega)) _))⟩
   ·have h3' : ce < lc := by omega
    go_enter Tryz.func98, Tryz.ntmps98
    go_wp2
    go_ret
    exact ⟨ret_bool (by rw [show decide (lc ≤ ce) = false from decide_eq_false (by omega)]; simp), (by repeat' (first | exact Below.refl _ _ | assumption | refine Below.drew ?_ | refine bdn ?_ _ | refine bal ?_ _ | refine Below.setCell ?_ (by first | (simp; done) | omega | (simp; omega)) _))⟩
  ·have h2' : se < ls := by omega
   go_enter Tryz.func98, Tryz.ntmps98
   go_wp2
   go_ret
   exact ⟨ret_bool (by rw [show decide (ls ≤ se) = false from decide_eq_false (by omega)]; simp), (by repeat' (first | exact Below.refl _ _ | assumption | refine Below.drew ?_ | refine bdn ?_ _ | refine bal ?_ _ | refine Below.setCell ?_ (by first | (simp; done) | omega | (simp; omega)) _))⟩
 ·have h1' : lw < we := by omega
  go_enter Tryz.func98, Tryz.ntmps98
  go_wp2
  go_ret
  exact ⟨ret_bool (by rw [show decide (we ≤ lw) = false from decide_eq_false (by omega)]; simp), (by repeat' (first | exact Below.refl _ _ | assumption | refine Below.drew ?_ | refine bdn ?_ _ | refine bal ?_ _ | refine Below.setCell ?_ (by first | (simp; done) | omega | (simp; omega)) _))⟩
theorem worst_c (x : Sk) (w : World) : Calls Tryz.prog 99 #[.agg #[.int .i64 x.a0, .int .i64 x.a1, .int .i64 x.a2, .int .i64 x.a3, .int .i64 x.a4, .int .i64 x.a5, .bool x.i, .bool x.s]] w
  fun e w' => e = .returned (.agg #[.int .i64 x.a1, .int .i64 x.a2, .int .i64 x.a4, .bool x.i, .bool x.s]) ∧ Below w.heap.size w w' := by
 obtain ⟨a0, a1, a2, a3, a4, a5, xi, xs⟩ := x
 go_enter Tryz.func99, Tryz.ntmps99
 go_wp2
 exact bodyPost_ret (res_c rfl _ _ _ 5 rfl (Blk.newA _ _ _ (by simp)) Tryz.rowWe rfl) rfl ⟨rfl, (by repeat' (first | exact Below.refl _ _ | assumption | refine Below.drew ?_ | refine bdn ?_ _ | refine bal ?_ _ | refine Below.setCell ?_ (by first | (simp; done) | omega | (simp; omega)) _))⟩
theorem Tryz.rowWhere : RowTy Tryz.prog 149 3 := ⟨by kernel_rfl, by kernel_rfl⟩
theorem wat_c (p t : Int) (w : World) : Calls Tryz.prog 96 #[.int .i64 p, .int .i64 t] w fun e w' => e = .returned (.agg #[.int .i64 p, .int .i64 t, .int .i64 t]) ∧ Below w.heap.size w w' := by
 go_enter Tryz.func96, Tryz.ntmps96
 go_wp2
 exact bodyPost_ret (res_c rfl _ _ _ 3 rfl (Blk.new _ _ _) Tryz.rowWhere rfl) rfl ⟨rfl, (by repeat' (first | exact Below.refl _ _ | assumption | refine Below.drew ?_ | refine bdn ?_ _ | refine bal ?_ _ | refine Below.setCell ?_ (by first | (simp; done) | omega | (simp; omega)) _))⟩
end Go.Proofs.YtlabfpjlckdmfaaGreat

namespace Go.Proofs.YtlabfpjlckdmfaaGreat
open Go Go.RowKit Go.Proofs
set_option maxRecDepth 100000
set_option maxHeartbeats 8000000
theorem short_c {lo hi g n c : Nat} {r : Nat → Nat} {t : Tab} {a b : Nat} {x : Int} {w : World} (h : Sq w 3 lo hi g r n t) (ha : a < n) (hb : b < n) :
  Calls Tryz.prog 52 #[.slice (some ⟨g, 0, none⟩) n c, .int .i64 a, .int .i64 b, .int .i64 x] w fun e w' => e = .returned (.tuple #[]) ∧ w' = shW w (r a) b (t a b) x := by
 obtain ⟨cr, -, -, co⟩ := h.o a ha
 have cc := h.cell ha hb
 have fr := h.fr ha b
 have haz : (a : Int) < (n : Int) := by omega
 have hbz : (b : Int) < (n : Int) := by omega
 unfold shW
 generalize t a b = y at *
 clear h
 by_cases h1 : y < 0
 ·rw [if_pos (Or.inl h1)]
  go_enter Tryz.func52, Tryz.ntmps52
  go_wp2_with (fail)
  go_end0
  exact ⟨rfl, rfl⟩
 ·by_cases h2 : x < y
  ·rw [if_pos (Or.inr h2)]
   go_enter Tryz.func52, Tryz.ntmps52
   go_wp2_with (fail)
   go_end0
   exact ⟨rfl, rfl⟩
  ·rw [if_neg (fun q => q.elim h1 h2)]
   go_enter Tryz.func52, Tryz.ntmps52
   go_wp2_with (fail)
   go_end0
   exact ⟨rfl, rfl⟩
theorem ownLt {w : World} {base : Nat} {e : TypeId} {size : Nat} {v : Value} {n : Nat} {xs : List Value} (h : w.ownsRow base e size v n xs) {b : Nat} (hb : some b = v.ownBlock) : base ≤ b ∧ b < w.heap.size := by
 rcases h.2 with ⟨rfl, -⟩ | ⟨g, cap, cur, rfl, h2, h3, -⟩
 ·cases hb
 ·have : b = g := by simpa [Value.ownBlock] using hb
  subst this
  exact ⟨h2, (Array.getElem?_eq_some_iff.1 h3).1⟩
theorem Blk.grew {W W' : World} {n : Nat} {t : TypeId} {cs : Array Value} {o : Option Nat} (h : Blk W n t cs) (hg : W.grownBy W' o) (hne : some n ≠ o) : Blk W' n t cs :=
 (hg.block n h.lt hne).trans h
theorem belowGrew {w w' : World} {base : Nat} {o : Option Nat} (h : w.grownBy w' o) (hb : base ≤ w.heap.size) (ho : ∀ b, some b = o → base ≤ b) : Below base w w' :=
 ⟨h.os, h.tape, h.output, h.size, fun k hk => h.block k (by omega) (fun e => by have := ho k e; omega)⟩
theorem Tryz.sqU : Tryz.prog.underlying 41 = some (.slice 35) := by kernel_rfl
theorem Tryz.sqI : (Tryz.prog.info? 35).map (fun i => (i.zero, i.size, i.bytes)) = some (some (.slice none 0 0), 1, 24) := by kernel_rfl
theorem wpl_appS {ops : Array Oper} {rest : List Oper} {o : Oper} {a : Act} {w : World} {Q : Exit → Act → World → Prop} (hgd : o.guard = none) (s x : Operand)
  (ho : o.op = .call { callee := .builtin .append, args := #[s, x], argTypes := #[41, 41] }) (base : Nat) (v : Value) (n : Nat) (xs : List Value) (hs : a.eval s = v) (hown : w.ownsRow base 35 1 v n xs)
  (g : Nat) (y : Value) (hx : a.eval x = .slice (some ⟨g, 0, none⟩) 1 1) (hc : w.cell? ⟨g, 0, none⟩ = some y) (hy : y.oneCell' = true) (h40 : n ≤ 1000) (hbase : base ≤ w.heap.size)
  (h : ∀ v' w', Hid (w'.ownsRow base 35 1 v' (n + 1) (xs ++ [y])) → Hid (w.grownBy w' v.ownBlock) → Hid (v'.ownBlock = v.ownBlock ∨ v'.ownBlock = some w.heap.size) → wpList Tryz.prog ops Q rest (a.put o.dst v') w') : wpList Tryz.prog ops Q (o :: rest) a w := by
 have hI := Tryz.sqI
 cases hi : Tryz.prog.info? 35 with
 | none => rw [hi] at hI; cases hI
 | some i =>
  rw [hi] at hI
  simp only [Option.map_some, Option.some.injEq, Prod.mk.injEq] at hI
  refine wpList_append_own_at w hgd s x 41 ho base 35 i (.slice none 0 0) 1 24 Tryz.sqU hi hI.1 hI.2.1 hI.2.2 rfl (by decide) v n xs hs hown ⟨g, 0, none⟩ 1 1 [y] hx rfl ?_ ?_ (by unfold maxLen; omega) (by omega) hbase ?_
  ·intro j u hj
   match j, hj with
   | 0, hj =>
    have : u = y := by simpa using hj.symm
    subst this
    exact hc
  ·intro u hu
   have : u = y := by simpa using hu
   subst this
   exact hy
  ·intro v' w' h1 h2 h3 h4
   exact h v' w' (hI9 h1) (hI9 h2) (hI9 h4)
structure SqB (w0 w : World) (v : Value) (i n : Nat) (x : Int) (r : Nat → Nat) : Prop where
 b : Below w0.heap.size w0 w
 o : w.ownsRow w0.heap.size 35 1 v i ((List.range i).map fun k => .slice (some ⟨r k, 0, none⟩) n n)
 rk : ∀ k, k < i → w0.heap.size ≤ r k ∧ Blk w (r k) 3 (List.replicate n (.int .i64 x)).toArray ∧ some (r k) ≠ v.ownBlock
 d : ∀ j, j < i → ∀ k, k < i → r j = r k → j = k
theorem SqB.below {w0 w w' : World} {v : Value} {i n : Nat} {x : Int} {r : Nat → Nat} (h : SqB w0 w v i n x r) (hb : Below w.heap.size w w') : SqB w0 w' v i n x r :=
 ⟨bthen h.b hb, ownsRow_below h.o hb, fun k hk => ⟨(h.rk k hk).1, (h.rk k hk).2.1.below hb, (h.rk k hk).2.2⟩, h.d⟩
theorem SqB.step {w0 w w1 w2 : World} {v v' : Value} {i n g : Nat} {x : Int} {r : Nat → Nat} (h : SqB w0 w v i n x r) (hb : Below w.heap.size w w1) (hg : w.heap.size ≤ g) (hB : Blk w1 g 3 (List.replicate n (.int .i64 x)).toArray)
  (ho : w2.ownsRow w0.heap.size 35 1 v' (i + 1) ((List.range i).map (fun k => .slice (some ⟨r k, 0, none⟩) n n) ++ [.slice (some ⟨g, 0, none⟩) n n])) (hgr : w1.grownBy w2 v.ownBlock) (hv : v'.ownBlock = v.ownBlock ∨ v'.ownBlock = some w1.heap.size) :
  SqB w0 w2 v' (i + 1) n x (fun k => if k = i then g else r k) := by
 have hlt := hB.lt
 have h1 := h.below hb
 have hvo : ∀ b, some b = v.ownBlock → w0.heap.size ≤ b ∧ b < w.heap.size := fun b q => ownLt h.o q
 have hbs := h.b.size
 refine ⟨h1.b.trans (belowGrew hgr h1.b.size (fun b q => (hvo b q).1)), ?_, fun k hk => ?_, fun j hj k hk e => ?_⟩
 ·have e : (List.range (i + 1)).map (fun k => Value.slice (some ⟨(if k = i then g else r k), 0, none⟩) n n) = (List.range i).map (fun k => .slice (some ⟨r k, 0, none⟩) n n) ++ [.slice (some ⟨g, 0, none⟩) n n] := by
   rw [List.range_succ, List.map_append]
   congr 1
   ·refine List.map_congr_left fun k hk => ?_
    rw [if_neg (by have := List.mem_range.1 hk; omega)]
   ·simp
  rw [e]; exact ho
 ·show w0.heap.size ≤ (if k = i then g else r k) ∧ Blk w2 (if k = i then g else r k) 3 _ ∧ some (if k = i then g else r k) ≠ v'.ownBlock
  by_cases e : k = i
  ·rw [if_pos e]
   have hne : some g ≠ v.ownBlock := fun q => by have := (hvo g q).2; omega
   refine ⟨by omega, hB.grew hgr hne, fun q => ?_⟩
   rcases hv with hv | hv
   ·exact hne (q.trans hv)
   ·rw [hv] at q; have := Option.some.inj q; omega
  ·rw [if_neg e]
   obtain ⟨q1, q2, q3⟩ := h1.rk k (by omega)
   refine ⟨q1, q2.grew hgr q3, fun q => ?_⟩
   rcases hv with hv | hv
   ·exact q3 (q.trans hv)
   ·rw [hv] at q; have := Option.some.inj q; have := q2.lt; omega
 ·have hold : ∀ k, k < i → r k < w.heap.size := fun k hk => (h.rk k hk).2.1.lt
  by_cases e1 : j = i
  ·by_cases e2 : k = i
   ·omega
   ·rw [if_pos e1, if_neg e2] at e; have := hold k (by omega); omega
  ·by_cases e2 : k = i
   ·rw [if_neg e1, if_pos e2] at e; have := hold j (by omega); omega
   ·rw [if_neg e1, if_neg e2] at e; exact h.d j (by omega) k (by omega) e
theorem SqB.sq {w0 w : World} {v : Value} {n : Nat} {x : Int} {r : Nat → Nat} (h : SqB w0 w v n n x r) (hn : 1 ≤ n) : ∃ g c, v = .slice (some ⟨g, 0, none⟩) n c ∧ n ≤ c ∧ c ≤ 9223372036854775807 ∧ Sq w 3 w0.heap.size w.heap.size g r n (fun _ _ => x) := by
 have ho := h.o
 rcases ho.2 with ⟨rfl, hz⟩ | ⟨g, cap, cur, rfl, h1, h2, h3, h4, h5, h6⟩
 ·omega
 ·refine ⟨g, cap, rfl, h3, by unfold maxLen at h4; omega, ⟨⟨h1, (Array.getElem?_eq_some_iff.1 h2).1, Nat.le_refl _⟩, fun i hi => ⟨(h.rk i hi).1, (h.rk i hi).2.1.lt, fun e => (h.rk i hi).2.2 (by rw [e]; rfl)⟩, h.d, fun i hi => ?_, fun i hi => ?_⟩⟩
  ·refine ⟨n, Nat.le_refl _, by unfold maxLen at h4; omega, ?_⟩
   have := ho.cellAt (g := g) i (by omega)
   rw [this]
   simp [hi]
  ·refine ⟨_, (h.rk i hi).2.1, fun j hj => ?_⟩
   simp [hj]
theorem square_c (n : Nat) (x : Int) (h1 : 1 ≤ n) (h2 : n ≤ 8) (w : World) :
  Calls Tryz.prog 51 #[.int .i64 n, .int .i64 x] w fun e w' => ∃ g r c, e = .returned (.slice (some ⟨g, 0, none⟩) n c) ∧ Below w.heap.size w w' ∧ n ≤ c ∧ c ≤ 9223372036854775807 ∧ Sq w' 3 w.heap.size w'.heap.size g r n (fun _ _ => x) := by
 go_enter Tryz.func51, Tryz.ntmps51
 go_wp2_with (fail)
 go_loopg [4, 6] n (fun gy v k wr => ∃ (i : Nat) (r : Nat → Nat), k = .int .i64 i ∧ i ≤ n ∧ n - i ≤ gy ∧ Hid (SqB w wr v i n x r))
 case atStart => exact ⟨0, fun _ => 0, rfl, by omega, by omega, hI9 ⟨Below.refl _ _, World.ownsRow_nil _ _ _ _, fun k hk => by omega, fun j hj => by omega⟩⟩
 case round =>
  obtain ⟨i, r, rfl, hi, hgy, HS⟩ := hrel
  by_cases hlt : i < n
  ·have hltz : (i : Int) < (n : Int) := by omega
   go_wp2_with (fail)
   refine (rep_c x n wr.heap.size _ (Blk.new _ _ _) h1 h2).mono ?_
   rintro e w2 ⟨g, rfl, hb2, hg2, hB2⟩
   have hgw : wr.heap.size ≤ g := by have := World.size_alloc wr (.cells #[.int .i64 x] 3); omega
   have HB := hI9 (bthen (bal (Below.refl wr.heap.size wr) (.cells #[.int .i64 x] 3)) hb2)
   have HG := hI9 hB2
   clear hb2 hg2 hB2
   go_wp2_with (at_builtin; refine wpl_appS rfl _ _ rfl w.heap.size _ i _ rfl (ownsRow_below (HS.out.below HB.out).o (bal (Below.refl _ _) _)) w2.heap.size (.slice (some ⟨g, 0, none⟩) n n) rfl ?c1 rfl (by omega) ?c2 ?_)
   case c1 => exact (Blk.new _ _ _).cell 0
   case c2 => have := (HS.out.below HB.out).b.size; simp; omega
   intro v' w3 ho hgr hv
   have HS3 := hI9 (HS.out.step (bthen HB.out (bal (Below.refl _ _) _)) hgw (HG.out.alloc _) ho.out hgr.out (by rw [World.size_alloc]; exact hv.out))
   clear HS ho hgr hv HB HG
   go_wp2_with (fail)
   go_roundg (n - (i + 1))
   case measure => omega
   case rel => exact ⟨i + 1, _, by first | rfl | go_num | (congr 1; omega), by omega, Nat.le_refl _, HS3⟩
  ·obtain rfl : n = i := by omega
   obtain ⟨g, c, rfl, e2, e3, e4⟩ := HS.out.sq h1
   have HE := hI9 e4
   clear e4
   go_wp2_with (fail)
   go_ret
   exact ⟨g, r, c, rfl, HS.out.b, e2, e3, HE.out⟩
end Go.Proofs.YtlabfpjlckdmfaaGreat

namespace Go.Proofs.YtlabfpjlckdmfaaGreat
open Go Go.RowKit Go.Proofs
set_option maxRecDepth 100000
def LgsAt (w : World) (A : Option Addr) (n : Nat) (S : Nat → Nat → Int) : Prop :=
 0 < n → ∃ b off, A = some ⟨b, off, none⟩ ∧ b < w.heap.size ∧ ∀ k, k < n → w.cell? ⟨b, off + k * 3, none⟩ = some (.int .i64 (S k 0)) ∧ w.cell? ⟨b, off + k * 3 + 1, none⟩ = some (.int .i64 (S k 1)) ∧ w.cell? ⟨b, off + k * 3 + 2, none⟩ = some (.int .i64 (S k 2))
set_option maxHeartbeats 400000 in
theorem ixLg_c (A : Option Addr) (n c : Nat) (S : Nat → Nat → Int) (g : Nat) (lb : Array Value) (p : Nat → Bool) (w : World) (hn : n ≤ 9223372036854775807)
  (eg : ∀ args w, (callFunc g args).run Tryz.prog w = .ok (.enter g args) w)
  (hA : LgsAt w A n S) (hp : PredB Tryz.prog g lb n (fun i => .agg #[.int .i64 (S i 0), .int .i64 (S i 1), .int .i64 (S i 2)]) p w) :
  Calls Tryz.prog 81 #[.slice A n c, .func (.func g) #[] lb] w fun e w' => e = .returned (.int .i64 (firstIx p n)) ∧ Below w.heap.size w w' := by
 go_enter Tryz.func81, Tryz.ntmps81
 go_wp2
 go_loopw [5, 8] (fun _ s8 wr => ∃ k : Nat, k ≤ n ∧ s8 = .int .i64 k ∧ Hid (Below w.heap.size w wr) ∧ Hid (∀ j, j < k → p j = false)) (fun _ i _ => n - (intOf i).toNat)
 case atStart => exact ⟨0, by omega, rfl, Below.refl _ _, fun j hj => absurd hj (by omega)⟩
 case round =>
  obtain ⟨k, hk, rfl, hB, hF⟩ := hrel
  by_cases hlt : k < n
  ·obtain ⟨b, off, rfl, hb, hc⟩ := hA (by omega)
   have h0 := (hB.out.cell (p := ⟨b, off + k * 3, none⟩) hb).trans (hc k hlt).1
   have h1 := (hB.out.cell (p := ⟨b, off + k * 3 + 1, none⟩) hb).trans (hc k hlt).2.1
   have h2 := (hB.out.cell (p := ⟨b, off + k * 3 + 2, none⟩) hb).trans (hc k hlt).2.2
   have hcall := hp wr k hlt hB.out
   clear hc hA hp
   cases hq : p k with
   | true =>
    rw [hq] at hcall
    have HQ := hI9 hq
    clear hq
    go_wp2_with (go_at_fn g; refine hcall.mono ?_; rintro e w1 ⟨rfl, hb1⟩)
    go_ret
    exact ⟨ret_int (firstIx_hit p n k hlt HQ.out hF.out).symm, hB.out.trans (hb1.mono hB.out.size)⟩
   | false =>
    rw [hq] at hcall
    have HQ := hI9 hq
    clear hq
    go_wp2_with (go_at_fn g; refine hcall.mono ?_; rintro e w1 ⟨rfl, hb1⟩)
    go_roundw
    case rel => exact ⟨k + 1, by omega, by go_num, hB.out.trans (hb1.mono hB.out.size), fun j hj => by
     by_cases e : j = k
     ·subst e; exact HQ.out
     ·exact hF.out j (by omega)⟩
    case measure => simp [intOf]; omega
  ·obtain rfl : k = n := by omega
   clear hA hp
   go_wp2
   go_ret
   exact ⟨ret_int (firstIx_miss p k hF.out).symm, hB.out⟩
theorem cfLg_c (A : Option Addr) (n c : Nat) (S : Nat → Nat → Int) (g : Nat) (lb : Array Value) (p : Nat → Bool) (w : World) (hn : n ≤ 9223372036854775807)
  (eg : ∀ args w, (callFunc g args).run Tryz.prog w = .ok (.enter g args) w)
  (hA : LgsAt w A n S) (hp : PredB Tryz.prog g lb n (fun i => .agg #[.int .i64 (S i 0), .int .i64 (S i 1), .int .i64 (S i 2)]) p w) :
  Calls Tryz.prog 49 #[.slice A n c, .func (.func g) #[] lb] w fun e w' => e = .returned (.bool ((List.range n).any p)) ∧ Below w.heap.size w w' := by
 rw [← firstIx_nonneg p n]
 go_enter Tryz.func49, Tryz.ntmps49
 go_wp2_with (go_at_call 81; refine (ixLg_c _ _ _ _ _ _ _ _ hn eg hA hp).mono ?_; rintro e w1 ⟨rfl, hb1⟩)
 go_ret
 exact ⟨rfl, hb1⟩
def nV (S : Nat → Nat → Int) (i j : Nat) : Value := .int .i64 (S i j)
theorem LgsAt.of {w : World} {A : Option Addr} {n : Nat} {S : Nat → Nat → Int} (h : RecsAt w A n 3 (nV S)) : LgsAt w A n S := by
 intro hn
 obtain ⟨b, off, hA, hb, hc⟩ := h hn
 exact ⟨b, off, hA, hb, fun k hk => ⟨hc k hk 0 (by omega), hc k hk 1 (by omega), hc k hk 2 (by omega)⟩⟩
set_option maxHeartbeats 4000000
theorem rwithin_c (n lo hi : Int) (w : World) :
  Calls Tryz.prog 28 #[.int .i64 n, .int .i64 lo, .int .i64 hi] w fun e w' => e = .returned (.bool (inB n lo hi)) ∧ w = w' := by
 by_cases h : lo ≤ n
 ·go_enter Tryz.func28, Tryz.ntmps28
  go_wp2
  go_ret
  exact ⟨ret_bool (by simp [inB, h]), rfl⟩
 ·have h2 : n < lo := by omega
  go_enter Tryz.func28, Tryz.ntmps28
  go_wp2
  go_ret
  exact ⟨ret_bool (by simp [inB]; omega), rfl⟩
theorem Tryz.entRP : ∀ args w, (callFunc 48 args).run Tryz.prog w = .ok (.enter 48 args) w := enters_of Tryz.func48 (by kernel_rfl) rfl
theorem Tryz.entRL : ∀ args w, (callFunc 50 args).run Tryz.prog w = .ok (.enter 50 args) w := enters_of Tryz.func50 (by kernel_rfl) rfl
theorem Tryz.entRS : ∀ args w, (callFunc 52 args).run Tryz.prog w = .ok (.enter 52 args) w := enters_of Tryz.func52 (by kernel_rfl) rfl
theorem rplace_c (gm : Nat) (n pl : Int) (w : World) (h : w.cell? ⟨gm, 0, none⟩ = some (.int .i64 pl)) (h1 : 1 ≤ pl) (h2 : pl ≤ 8) :
  Calls Tryz.prog 48 #[.int .i64 n, .pointer (some ⟨gm, 0, none⟩)] w fun e w' => e = .returned (.bool (inB n 0 (pl - 1))) ∧ w = w' := by
 go_enter Tryz.func48, Tryz.ntmps48
 go_wp2_with (first | (go_at_call 28; (with_reducible refine (rwithin_c _ _ _ _).mono ?_); rintro e w1 ⟨rfl, rfl⟩))
 go_ret
 exact ⟨rfl, rfl⟩
def lgBad (pl a b t : Int) : Bool := !inB a 0 (pl - 1) || (!inB b 0 (pl - 1) || (decide (a = b) || !inB t 1 200))
theorem rleg_c (c1 gc : Nat) (pl a b t : Int) (w : World) (h0 : w.cell? ⟨c1, 0, none⟩ = some (.func (.func 48) #[] #[.pointer (some ⟨gc, 0, none⟩)]))
  (h2 : w.cell? ⟨gc, 0, none⟩ = some (.int .i64 pl)) (hp1 : 1 ≤ pl) (hp2 : pl ≤ 8) :
  Calls Tryz.prog 50 #[.agg #[.int .i64 a, .int .i64 b, .int .i64 t], .pointer (some ⟨c1, 0, none⟩)] w
  fun e w' => e = .returned (.bool (lgBad pl a b t)) ∧ Below w.heap.size w w' := by
 have HC := hI9 (And.intro (fun w1 (h : Below w.heap.size w w1) => (h.cell (p := ⟨c1, 0, none⟩) (blk_lt h0)).trans h0) (fun w1 (h : Below w.heap.size w w1) => (h.cell (p := ⟨gc, 0, none⟩) (blk_lt h2)).trans h2))
 have eP := Tryz.entRP
 clear h0 h2
 unfold lgBad
 cases b0 : inB a 0 (pl - 1)
 ·skip
  have k0 := HC.out.1 (w.alloc (.cells #[.int .i64 a, .int .i64 b, .int .i64 t] 45)) (bal (Below.refl _ _) _)
  have k1 := HC.out.2 (w.alloc (.cells #[.int .i64 a, .int .i64 b, .int .i64 t] 45)) (bal (Below.refl _ _) _)
  go_enter Tryz.func50, Tryz.ntmps50
  go_wp2_with (first | (go_at_fn 48; refine (rplace_c gc _ pl _ k1 hp1 hp2).mono ?_; rintro e w' ⟨rfl, rfl⟩) | (go_at_call 28; (with_reducible refine (rwithin_c _ _ _ _).mono ?_); rintro e w1 ⟨rfl, rfl⟩))
  go_ret
  exact ⟨ret_bool (by simp [b0]), (by repeat' (first | exact Below.refl _ _ | assumption | refine Below.drew ?_ | refine bdn ?_ _ | refine bal ?_ _ | refine Below.setCell ?_ (by first | (simp; done) | omega | (simp; omega)) _))⟩
 ·skip
  cases b1 : inB b 0 (pl - 1)
  ·skip
   have k0 := HC.out.1 (w.alloc (.cells #[.int .i64 a, .int .i64 b, .int .i64 t] 45)) (bal (Below.refl _ _) _)
   have k1 := HC.out.2 (w.alloc (.cells #[.int .i64 a, .int .i64 b, .int .i64 t] 45)) (bal (Below.refl _ _) _)
   go_enter Tryz.func50, Tryz.ntmps50
   go_wp2_with (first | (go_at_fn 48; refine (rplace_c gc _ pl _ k1 hp1 hp2).mono ?_; rintro e w' ⟨rfl, rfl⟩) | (go_at_call 28; (with_reducible refine (rwithin_c _ _ _ _).mono ?_); rintro e w1 ⟨rfl, rfl⟩))
   go_ret
   exact ⟨ret_bool (by simp [b0, b1]), (by repeat' (first | exact Below.refl _ _ | assumption | refine Below.drew ?_ | refine bdn ?_ _ | refine bal ?_ _ | refine Below.setCell ?_ (by first | (simp; done) | omega | (simp; omega)) _))⟩
  ·skip
   by_cases b2 : a = b
   ·subst b2
    have b2d : decide (a = a) = true := decide_eq_true rfl
    clear b1
    have k0 := HC.out.1 (w.alloc (.cells #[.int .i64 a, .int .i64 a, .int .i64 t] 45)) (bal (Below.refl _ _) _)
    have k1 := HC.out.2 (w.alloc (.cells #[.int .i64 a, .int .i64 a, .int .i64 t] 45)) (bal (Below.refl _ _) _)
    go_enter Tryz.func50, Tryz.ntmps50
    go_wp2_with (first | (go_at_fn 48; refine (rplace_c gc _ pl _ k1 hp1 hp2).mono ?_; rintro e w' ⟨rfl, rfl⟩) | (go_at_call 28; (with_reducible refine (rwithin_c _ _ _ _).mono ?_); rintro e w1 ⟨rfl, rfl⟩))
    go_ret
    exact ⟨ret_bool (by simp [b0, b2d]), (by repeat' (first | exact Below.refl _ _ | assumption | refine Below.drew ?_ | refine bdn ?_ _ | refine bal ?_ _ | refine Below.setCell ?_ (by first | (simp; done) | omega | (simp; omega)) _))⟩
   ·have b2d : decide (a = b) = false := decide_eq_false b2
    have b2z : (a == b) = false := by simpa using b2
    cases b3 : inB t 1 200
    ·skip
     have k0 := HC.out.1 (w.alloc (.cells #[.int .i64 a, .int .i64 b, .int .i64 t] 45)) (bal (Below.refl _ _) _)
     have k1 := HC.out.2 (w.alloc (.cells #[.int .i64 a, .int .i64 b, .int .i64 t] 45)) (bal (Below.refl _ _) _)
     go_enter Tryz.func50, Tryz.ntmps50
     go_wp2_with (first | (go_at_fn 48; refine (rplace_c gc _ pl _ k1 hp1 hp2).mono ?_; rintro e w' ⟨rfl, rfl⟩) | (go_at_call 28; (with_reducible refine (rwithin_c _ _ _ _).mono ?_); rintro e w1 ⟨rfl, rfl⟩))
     go_ret
     exact ⟨ret_bool (by simp [b0, b1, b2d, b3]), (by repeat' (first | exact Below.refl _ _ | assumption | refine Below.drew ?_ | refine bdn ?_ _ | refine bal ?_ _ | refine Below.setCell ?_ (by first | (simp; done) | omega | (simp; omega)) _))⟩
    ·skip
     have k0 := HC.out.1 (w.alloc (.cells #[.int .i64 a, .int .i64 b, .int .i64 t] 45)) (bal (Below.refl _ _) _)
     have k1 := HC.out.2 (w.alloc (.cells #[.int .i64 a, .int .i64 b, .int .i64 t] 45)) (bal (Below.refl _ _) _)
     go_enter Tryz.func50, Tryz.ntmps50
     go_wp2_with (first | (go_at_fn 48; refine (rplace_c gc _ pl _ k1 hp1 hp2).mono ?_; rintro e w' ⟨rfl, rfl⟩) | (go_at_call 28; (with_reducible refine (rwithin_c _ _ _ _).mono ?_); rintro e w1 ⟨rfl, rfl⟩))
     go_ret
     exact ⟨ret_bool (by simp [b0, b1, b2d, b3]), (by repeat' (first | exact Below.refl _ _ | assumption | refine Below.drew ?_ | refine bdn ?_ _ | refine bal ?_ _ | refine Below.setCell ?_ (by first | (simp; done) | omega | (simp; omega)) _))⟩
end Go.Proofs.YtlabfpjlckdmfaaGreat
