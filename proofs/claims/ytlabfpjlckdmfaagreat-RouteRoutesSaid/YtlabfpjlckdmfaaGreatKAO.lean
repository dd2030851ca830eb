/- Texts joined: KAO. -/
import Derived.Test.YtlabfpjlckdmfaaGreatKAA
import Derived.Test.YtlabfpjlckdmfaaGreatKAN
import Derived.Great.CaseRows
import Derived.Deep.WholeRow
import Derived.OpenShut
import Derived.Test.YtlabfpjlckdmfaaGreatKAL
set_option linter.all false
namespace Go.Proofs.YtlabfpjlckdmfaaGreat
open Go Go.RowKit Go.Proofs
set_option maxRecDepth 100000
set_option maxHeartbeats 8000000
theorem rw_from_c (n lo hi : Int) (w : World) : Calls Tryz.prog 39 #[.int .i64 n, .int .i64 lo, .int .i64 hi] w fun e w' => e = .returned (.bool (inB n lo hi)) ∧ w = w' := by
 unfold inB
 by_cases h1 : lo ≤ n <;> by_cases h2 : n ≤ hi
 all_goals
  go_enter Tryz.func39, Tryz.ntmps39
  go_wp2
  go_ret
  exact ⟨by simp [h1, h2], rfl⟩
theorem insB_rng {lo hi m : Int} : insB lo hi m = (vspan lo hi && (decide (0 ≤ lo) && decide (hi ≤ m))) := by
 rw [Bool.eq_iff_iff, insB_iff]
 simp only [Bool.and_eq_true, decide_eq_true_eq]
 rw [vspan_iff']
 omega
theorem rw_ranged_c (lo hi m : Int) (w : World) : Calls Tryz.prog 61 #[.agg #[.int .i64 lo, .int .i64 hi], .int .i64 m] w fun e w' => e = .returned (.bool (insB lo hi m)) ∧ Below w.heap.size w w' := by
 rw [insB_rng]
 have HV := hI9 (fun w1 => rf_Valid_c lo hi w1)
 generalize vspan lo hi = V at *
 cases V
 ·go_enter Tryz.func61, Tryz.ntmps61
  go_wp2_with (fail)
  have _x := frm1 w #[.int .i64 lo, .int .i64 hi] 23
  have HX := hI9 _x.1
  have HB := hI9 _x.2.1
  have zW := _x.2.2
  clear _x
  generalize World.alloc w _ = W at *
  go_wp2_with (first | (go_at_call 87; (with_reducible refine (HV.out _).mono ?_); rintro e w1 ⟨rfl, hb1⟩; have nHX := hI9 (HX.out.below hb1); have nHB := hI9 (bthen HB.out hb1); have zz1 := hb1.size; clear HX HB hb1; have HX := nHX; have HB := nHB; clear nHX nHB; (try clear zHX); have zHX := HX.out.lt; (try clear cHX0); have cHX0 := HX.out.cell 0; (try clear cHX1); have cHX1 := HX.out.cell 1))
  go_ret
  exact ⟨rfl, HB.out⟩
 ·by_cases h1 : 0 ≤ lo <;> by_cases h2 : hi ≤ m
  all_goals
   go_enter Tryz.func61, Tryz.ntmps61
   go_wp2_with (fail)
   have _x := frm1 w #[.int .i64 lo, .int .i64 hi] 23
   have HX := hI9 _x.1
   have HB := hI9 _x.2.1
   have zW := _x.2.2
   clear _x
   generalize World.alloc w _ = W at *
   go_wp2_with (first | (go_at_call 87; (with_reducible refine (HV.out _).mono ?_); rintro e w1 ⟨rfl, hb1⟩; have nHX := hI9 (HX.out.below hb1); have nHB := hI9 (bthen HB.out hb1); have zz1 := hb1.size; clear HX HB hb1; have HX := nHX; have HB := nHB; clear nHX nHB; (try clear zHX); have zHX := HX.out.lt; (try clear cHX0); have cHX0 := HX.out.cell 0; (try clear cHX1); have cHX1 := HX.out.cell 1))
   go_ret
   exact ⟨by simp [h1, h2], HB.out⟩
theorem rw_ValidSky_c (x : Sk) (w : World) : Calls Tryz.prog 40 #[.agg #[.int .i64 x.a0, .int .i64 x.a1, .int .i64 x.a2, .int .i64 x.a3, .int .i64 x.a4, .int .i64 x.a5, .bool x.i, .bool x.s]] w fun e w' => e = .returned (.bool x.inr) ∧ Below w.heap.size w w' := by
 obtain ⟨a0, a1, a2, a3, a4, a5, xi, xs⟩ := x
 have h1 := fun w1 => rw_ranged_c a0 a1 300 w1
 have h2 := fun w1 => rw_ranged_c a2 a3 20000 w1
 have h3 := fun w1 => rw_ranged_c a4 a5 20000 w1
 show Calls _ _ _ _ fun e w' => e = .returned (.bool (insB a0 a1 300 && (insB a2 a3 20000 && insB a4 a5 20000))) ∧ Below w.heap.size w w'
 dsimp only
 generalize insB a0 a1 300 = B1 at *
 generalize insB a2 a3 20000 = B2 at *
 generalize insB a4 a5 20000 = B3 at *
 have H1 := hI9 h1
 have H2 := hI9 h2
 have H3 := hI9 h3
 clear h1 h2 h3
 cases B1 <;> cases B2
 all_goals
  go_enter Tryz.func40, Tryz.ntmps40
  go_wp2_with (fail)
  have _x := frm1 w #[.int .i64 a0, .int .i64 a1, .int .i64 a2, .int .i64 a3, .int .i64 a4, .int .i64 a5, .bool xi, .bool xs] 25
  have HX := hI9 _x.1
  have HB := hI9 _x.2.1
  have zW := _x.2.2
  clear _x
  generalize World.alloc w _ = W at *
  have zHX := HX.out.lt
  have cHX0 := HX.out.cell 0
  have cHX1 := HX.out.cell 1
  go_wp2_with (first | (go_at_call 61; (with_reducible refine (H1.out _).mono ?_); rintro e w1 ⟨rfl, hb1⟩; have nHX := hI9 (HX.out.below hb1); have nHB := hI9 (bthen HB.out hb1); have zz1 := hb1.size; clear HX HB hb1; have HX := nHX; have HB := nHB; clear nHX nHB; (try clear zHX); have zHX := HX.out.lt; (try clear cHX2); have cHX2 := HX.out.cell 2; (try clear cHX3); have cHX3 := HX.out.cell 3) | (go_at_call 61; (with_reducible refine (H2.out _).mono ?_); rintro e w1 ⟨rfl, hb1⟩; have nHX := hI9 (HX.out.below hb1); have nHB := hI9 (bthen HB.out hb1); have zz1 := hb1.size; clear HX HB hb1; have HX := nHX; have HB := nHB; clear nHX nHB; (try clear zHX); have zHX := HX.out.lt; (try clear cHX4); have cHX4 := HX.out.cell 4; (try clear cHX5); have cHX5 := HX.out.cell 5) | (go_at_call 61; (with_reducible refine (H3.out _).mono ?_); rintro e w1 ⟨rfl, hb1⟩; have nHX := hI9 (HX.out.below hb1); have nHB := hI9 (bthen HB.out hb1); have zz1 := hb1.size; clear HX HB hb1; have HX := nHX; have HB := nHB; clear nHX nHB))
  go_ret
  exact ⟨rfl, HB.out⟩
def wvB (a b c : Int) : Bool := inB a 0 300 && (inB b 0 20000 && inB c 0 20000)
theorem rw_ValidWeather_c (a b c : Int) (i s : Bool) (w : World) : Calls Tryz.prog 41 #[.agg #[.int .i64 a, .int .i64 b, .int .i64 c, .bool i, .bool s]] w fun e w' => e = .returned (.bool (wvB a b c)) ∧ Below w.heap.size w w' := by
 unfold wvB
 cases h1 : inB a 0 300 <;> cases h2 : inB b 0 20000
 all_goals
  go_enter Tryz.func41, Tryz.ntmps41
  go_wp2_with (first | (go_at_call 39; (with_reducible refine (rw_from_c _ _ _ _).mono ?_); rintro e w1 ⟨rfl, rfl⟩))
  go_ret
  exact ⟨rfl, (by repeat' (first | exact Below.refl _ _ | assumption | refine Below.drew ?_ | refine bdn ?_ _ | refine bal ?_ _ | refine Below.setCell ?_ (by first | (simp; done) | omega | (simp; omega)) _))⟩
theorem rw_Flyable_c (we se ce : Int) (ic st : Bool) (lw ls lc : Int) (li lt : Bool) (w : World) : Calls Tryz.prog 116 #[.agg #[.int .i64 we, .int .i64 se, .int .i64 ce, .bool ic, .bool st], .agg #[.int .i64 lw, .int .i64 ls, .int .i64 lc, .bool li, .bool lt]] w
  fun e w' => e = .returned (.bool (flyB we se ce ic st lw ls lc li lt)) ∧ Below w.heap.size w w' := by
 unfold flyB
 by_cases h1 : we ≤ lw
 ·by_cases h2 : ls ≤ se
  ·by_cases h3 : lc ≤ ce
   ·cases ic <;> cases st <;> cases li <;> cases lt
    all_goals
     go_enter Tryz.func116, Tryz.ntmps116
     go_wp2
     go_ret
     exact ⟨ret_bool (by simp [h1, h2, h3]), (by repeat' (first | exact Below.refl _ _ | assumption | refine Below.drew ?_ | refine bdn ?_ _ | refine bal ?_ _ | refine Below.setCell ?_ (by first | (simp; done) | omega | (simp; omega)) _))⟩
   ·have h3' : ce < lc := by omega
    go_enter Tryz.func116, Tryz.ntmps116
    go_wp2
    go_ret
    exact ⟨ret_bool (by rw [show decide (lc ≤ ce) = false from decide_eq_false (by omega)]; simp), (by repeat' (first | exact Below.refl _ _ | assumption | refine Below.drew ?_ | refine bdn ?_ _ | refine bal ?_ _ | refine Below.setCell ?_ (by first | (simp; done) | omega | (simp; omega)) _))⟩
  ·have h2' : se < ls := by omega
   go_enter Tryz.func116, Tryz.ntmps116
   go_wp2
   go_ret
   exact ⟨ret_bool (by rw [show decide (ls ≤ se) = false from decide_eq_false (by omega)]; simp), (by repeat' (first | exact Below.refl _ _ | assumption | refine Below.drew ?_ | refine bdn ?_ _ | refine bal ?_ _ | refine Below.setCell ?_ (by first | (simp; done) | omega | (simp; omega)) _))⟩
 ·have h1' : lw < we := by omega
  go_enter Tryz.func116, Tryz.ntmps116
  go_wp2
  go_ret
  exact ⟨ret_bool (by rw [show decide (we ≤ lw) = false from decide_eq_false (by omega)]; simp), (by repeat' (first | exact Below.refl _ _ | assumption | refine Below.drew ?_ | refine bdn ?_ _ | refine bal ?_ _ | refine Below.setCell ?_ (by first | (simp; done) | omega | (simp; omega)) _))⟩
end Go.Proofs.YtlabfpjlckdmfaaGreat

namespace Go.Proofs.YtlabfpjlckdmfaaGreat
open Go Go.RowKit Go.Proofs
set_option maxRecDepth 100000
def spC (l : List (Int × Int)) : List Value := l.flatMap fun p => [.int .i64 p.1, .int .i64 p.2]
theorem owns_set {w : World} {base g c i : Nat} {e : TypeId} {size : Nat} {n : Nat} {xs : List Value} (h : w.ownsRow base e size (.slice (some ⟨g, 0, none⟩) n c) n xs) (hi : i < n * size) (u : Value) :
  (w.setCell ⟨g, i, none⟩ u).ownsRow base e size (.slice (some ⟨g, 0, none⟩) n c) n (xs.set i u) := by
 obtain ⟨h1, h2⟩ := h
 refine ⟨by rw [List.length_set]; exact h1, ?_⟩
 rcases h2 with ⟨h2, -⟩ | ⟨g', cap, cur, hv, hb, hh, r1, r2, r3, r4⟩
 ·cases h2
 ·simp only [Value.slice.injEq, Option.some.injEq, Addr.mk.injEq, and_true] at hv
  obtain ⟨rfl, -, rfl⟩ := hv
  refine .inr ⟨g, c, cur.setIfInBounds i u, rfl, hb, (show Blk _ g e _ from (show Blk w g e cur from hh).set_ i u), r1, r2, by simpa using r3, ?_⟩
  rw [Array.toList_setIfInBounds, List.take_set, r4]
end Go.Proofs.YtlabfpjlckdmfaaGreat

namespace Go.Proofs.YtlabfpjlckdmfaaGreat
open Go Go.RowKit Go.Proofs
set_option maxRecDepth 100000
set_option maxHeartbeats 4000000
end Go.Proofs.YtlabfpjlckdmfaaGreat

namespace Go.Proofs.YtlabfpjlckdmfaaGreat
open Go Go.RowKit Go.Proofs
set_option maxRecDepth 100000
set_option maxHeartbeats 8000000
structure WiK (M : MetD) (vF vS : Value) (lw ls lc : Int) (li lt : Bool) (w : World) (l : List (Int × Int)) (v : Value) (wr : World) : Prop where
 k : FiK M vF vS lw ls lc li lt w wr
 o : wr.ownsRow (w.heap.size + 2) 23 2 v l.length (spC l)
 n : v = .slice none 0 0 ↔ l = []
 z : w.heap.size + 2 ≤ wr.heap.size
theorem WiK.grow {M : MetD} {vF vS : Value} {lw ls lc : Int} {li lt : Bool} {w wr w2 : World} {l : List (Int × Int)} {v : Value} (h : WiK M vF vS lw ls lc li lt w l v wr) (hb : Below wr.heap.size wr w2) : WiK M vF vS lw ls lc li lt w l v w2 :=
 ⟨h.k.grow hb, ownsRow_below h.o hb, h.n, Nat.le_trans h.z hb.size⟩
theorem FiK.under {M : MetD} {vF vS : Value} {lw ls lc : Int} {li lt : Bool} {w wr w2 : World} (h : FiK M vF vS lw ls lc li lt w wr) (hb : Below (w.heap.size + 2) wr w2) : FiK M vF vS lw ls lc li lt w w2 :=
 ⟨h.b.trans (hb.mono (by omega)), h.m.under hb (by omega), h.l.under hb (by omega)⟩
theorem WiK.take {M : MetD} {vF vS : Value} {lw ls lc : Int} {li lt : Bool} {w wr w2 : World} {l : List (Int × Int)} {v v' : Value} {p : Int × Int} (h : WiK M vF vS lw ls lc li lt w l v wr) (h1 : w2.ownsRow (w.heap.size + 2) 23 2 v' (l ++ [p]).length (spC (l ++ [p])))
  (h2 : wr.grownBy w2 v.ownBlock) (h3 : v' ≠ .slice none 0 0) : WiK M vF vS lw ls lc li lt w (l ++ [p]) v' w2 :=
 ⟨h.k.under (below_grown h2 h.z (fun b hb => owns_base h.o hb)), h1, by simp [h3], Nat.le_trans h.z h2.size⟩
end Go.Proofs.YtlabfpjlckdmfaaGreat

namespace Go.Proofs.YtlabfpjlckdmfaaGreat
open Go Go.RowKit Go.Proofs
set_option maxRecDepth 100000
set_option maxHeartbeats 8000000
end Go.Proofs.YtlabfpjlckdmfaaGreat

namespace Go.Proofs.YtlabfpjlckdmfaaGreat
open Go Go.RowKit Go.Proofs
theorem stab_nil (key : Nat → Int) : stab key [] = [] := by simp [stab]
end Go.Proofs.YtlabfpjlckdmfaaGreat

namespace Go.Proofs.YtlabfpjlckdmfaaGreat
open Go Go.RowKit Go.Proofs
set_option maxRecDepth 100000
set_option maxHeartbeats 8000000
end Go.Proofs.YtlabfpjlckdmfaaGreat

namespace Go.Proofs.YtlabfpjlckdmfaaGreat
open Go Go.RowKit Go.Proofs
set_option maxRecDepth 100000
set_option maxHeartbeats 8000000
end Go.Proofs.YtlabfpjlckdmfaaGreat

namespace Go.Proofs.YtlabfpjlckdmfaaGreat
open Go Go.RowKit Go.Proofs
theorem keyLe_trans (key : Nat → Int) (a b c : Nat) (h1 : (!keyLt key (fun i => (i : Int)) b a) = true) (h2 : (!keyLt key (fun i => (i : Int)) c b) = true) : (!keyLt key (fun i => (i : Int)) c a) = true := by
 unfold keyLt at *
 simp only [Bool.not_eq_true', Bool.or_eq_false_iff, Bool.and_eq_false_iff, decide_eq_false_iff_not] at *
 omega
theorem keyLe_total (key : Nat → Int) (a b : Nat) : ((!keyLt key (fun i => (i : Int)) b a) || (!keyLt key (fun i => (i : Int)) a b)) = true := by
 unfold keyLt
 simp only [Bool.or_eq_true, Bool.not_eq_true', Bool.or_eq_false_iff, Bool.and_eq_false_iff, decide_eq_false_iff_not]
 omega
theorem stab_pair (key : Nat → Int) (l : List Nat) : (stab key l).Pairwise fun a b => (!keyLt key (fun i => (i : Int)) b a) = true := by
 unfold stab
 exact List.pairwise_mergeSort (keyLe_trans key) (keyLe_total key) l
section
variable {M : MetD} {n : Nat} (hb : M.bad = false) (hn : n < M.m) (hmax : ∀ i, i < M.m → M.E i 0 = M.E n 0 → M.E i 1 < M.E n 1 ∨ (M.E i 1 = M.E n 1 ∧ i ≤ n))
include hb hn
include hmax
end
end Go.Proofs.YtlabfpjlckdmfaaGreat

namespace Go.Proofs.YtlabfpjlckdmfaaGreat
open Go Go.RowKit Go.Proofs
theorem key2_anti {key : Nat → Int} {a b : Nat} (h1 : (!keyLt key (fun i => (i : Int)) b a) = true) (h2 : (!keyLt key (fun i => (i : Int)) a b) = true) : a = b := by
 unfold keyLt at *
 simp only [Bool.not_eq_true', Bool.or_eq_false_iff, Bool.and_eq_false_iff, decide_eq_false_iff_not] at *
 omega
theorem stab2_perm (key : Nat → Int) (l : List Nat) : (stab key l).Perm l := by unfold stab; exact List.mergeSort_perm _ _
theorem stab2_unique {key : Nat → Int} {l l' : List Nat} (hp : l'.Perm l) (hs : l'.Pairwise fun a b => (!keyLt key (fun i => (i : Int)) b a) = true) : stab key l = l' :=
 List.Perm.eq_of_pairwise (le := fun a b => (!keyLt key (fun i => (i : Int)) b a) = true) (fun a b _ _ h1 h2 => key2_anti h1 h2) (stab_pair key l) hs ((stab2_perm key l).trans hp.symm)
theorem keyLe_iff {key : Nat → Int} {a b : Nat} : (!keyLt key (fun i => (i : Int)) b a) = true ↔ key a < key b ∨ (key a = key b ∧ a ≤ b) := by
 unfold keyLt
 simp only [Bool.not_eq_true', Bool.or_eq_false_iff, Bool.and_eq_false_iff, decide_eq_false_iff_not]
 omega
theorem ins_done {key : Nat → Int} {l a b : List Nat} {i : Nat} (hs : stab key l = a ++ b) (hl : ∀ j ∈ l, j < i) (hb : ∀ y ∈ b, key i < key y) (ha : a = [] ∨ ∃ a' y, a = a' ++ [y] ∧ key y ≤ key i) : stab key (l ++ [i]) = a ++ i :: b := by
 have hp := stab_pair key l
 rw [hs] at hp
 have hmem : ∀ j ∈ a ++ b, j < i := fun j hj => hl j (by rw [← hs] at hj; exact stab_mem.1 hj)
 obtain ⟨p1, p2, p3⟩ := List.pairwise_append.1 hp
 have hle : ∀ y ∈ a, key y ≤ key i := by
  intro y hy
  rcases ha with rfl | ⟨a', z, rfl, hz⟩
  ·cases hy
  ·rcases List.mem_append.1 hy with h | h
   ·have := keyLe_iff.1 ((List.pairwise_append.1 p1).2.2 y h z (List.mem_singleton.2 rfl))
    omega
   ·rw [List.mem_singleton.1 h]; exact hz
 refine stab2_unique ?_ ?_
 ·refine List.perm_middle.trans ?_
  have h1 : (a ++ b).Perm l := by rw [← hs]; exact stab2_perm key l
  exact (h1.cons i).trans (List.perm_append_singleton i l).symm
 ·rw [List.pairwise_append]
  refine ⟨p1, List.pairwise_cons.2 ⟨fun y hy => keyLe_iff.2 (Or.inl (hb y hy)), p2⟩, fun y hy z hz => ?_⟩
  rcases List.mem_cons.1 hz with rfl | h
  ·have h1 := hle y hy
   have h2 := hmem y (List.mem_append_left _ hy)
   exact keyLe_iff.2 (by omega)
  ·exact p3 y hy z h
structure Ins (key : Nat → Int) (s : List Nat) (i : Nat) (a b : List Nat) : Prop where
 s : s = a ++ b
 b : ∀ y ∈ b, key i < key y
theorem Ins.start (key : Nat → Int) (s : List Nat) (i : Nat) : Ins key s i s [] := ⟨by simp, fun y hy => by cases hy⟩
theorem Ins.step {key : Nat → Int} {s a b : List Nat} {i y : Nat} (h : Ins key s i (a ++ [y]) b) (hy : key i < key y) : Ins key s i a (y :: b) :=
 ⟨by rw [h.s]; simp, fun z hz => by rcases List.mem_cons.1 hz with rfl | h2; exact hy; exact h.b z h2⟩
end Go.Proofs.YtlabfpjlckdmfaaGreat

namespace Go.Proofs.YtlabfpjlckdmfaaGreat
open Go Go.RowKit Go.Proofs Go.ChangeShapes Go.WideShapes Go.ChangeAt Go.Deep
set_option maxRecDepth 100000
set_option maxHeartbeats 4000000
section
variable {H : Type} {enc : TypeId × Value → H} {W : World} {sp : Nat → Bool} {held : Bool}
theorem legs_trod {fuel : Nat} {c : Value} {x : DataW H × List MemPlace} (ht : DataW.trod enc Tryz.prog W 0 sp held fuel 32 [c] = some x) :
  ∃ (A : Option Addr) (n cp : Nat) (S : Nat → Nat → Int), c = .slice A n cp ∧ n ≤ cp ∧ cp ≤ 9223372036854775807 ∧ RecsAt W A n 3 (nV S) := by
 obtain ⟨A, n, cp, D, B, rfl, h1, h2, h3, h4, -⟩ := slice_kinds (e := 45) (n := 3) (fun _ => true) (by kernel_rfl) (by kernel_rfl) (Nat.succ_pos _) ht (by kernel_rfl)
 exact ⟨A, n, cp, D, rfl, h1, h2, h4⟩
theorem route_trod {fuel : Nat} {c : Value} {x : DataW H × List MemPlace} (ht : DataW.trod enc Tryz.prog W 0 sp held fuel 35 [c] = some x) :
  ∃ (n : Nat) (R : Nat → Int), SlI W c n R := by
 obtain ⟨A, n, cp, D, B, rfl, h1, h2, h3, h4, -⟩ := slice_kinds (e := 3) (n := 1) (fun _ => true) (by kernel_rfl) (by kernel_rfl) (Nat.succ_pos _) ht (by kernel_rfl)
 refine ⟨n, fun i => D i 0, A, cp, rfl, h1, h2, fun hp => ?_⟩
 obtain ⟨b, off, e1, e2, e3⟩ := h4 hp
 refine ⟨b, off, e1, e2, fun i hi j hj => ?_⟩
 rw [e3 i hi j hj]
 obtain rfl : j = 0 := by omega
 rfl
theorem plan_trod {r : Reach} {b0 : Nat} {v : Value} {d : DataW H} {ps : List MemPlace} (hval : Value.okWide Tryz.prog W r b0 34 v) (hd : DataW.Trod enc Tryz.prog W 0 sp held 34 v d ps) :
  ∃ (M : MetD) (vF vS : Value) (lw ls lc : Int) (li lb : Bool) (A : Option Addr) (n c : Nat) (S : Tab), v = .agg #[.int .i64 M.places, .int .i64 M.any.a0, .int .i64 M.any.a1, .int .i64 M.any.a2, .int .i64 M.any.a3, .int .i64 M.any.a4, .int .i64 M.any.a5, .bool M.any.i, .bool M.any.s, .int .i64 M.mw, .int .i64 M.ms, .int .i64 M.mc, vF, vS, .int .i64 lw, .int .i64 ls, .int .i64 lc, .bool li, .bool lb, .slice A n c] ∧ MetAt W vF vS M ∧ n ≤ c ∧ c ≤ 9223372036854775807 ∧ RecsAt W A n 3 (nV S) := by
 obtain ⟨cs, rfl, hl, fuel, x, ht⟩ := struct_trod (q := (29, 0)) (n := 20) (by kernel_rfl) (by kernel_rfl) hval hd
 have hl' : cs.length = Tryz.prog.cellsOf 34 := hl.trans (by kernel_rfl)
 obtain ⟨n0, e0, -⟩ := leaf_int hl' ht 0 (by kernel_rfl)
 obtain ⟨n1, e1, -⟩ := leaf_int hl' ht 1 (by kernel_rfl)
 obtain ⟨n2, e2, -⟩ := leaf_int hl' ht 2 (by kernel_rfl)
 obtain ⟨n3, e3, -⟩ := leaf_int hl' ht 3 (by kernel_rfl)
 obtain ⟨n4, e4, -⟩ := leaf_int hl' ht 4 (by kernel_rfl)
 obtain ⟨n5, e5, -⟩ := leaf_int hl' ht 5 (by kernel_rfl)
 obtain ⟨n6, e6, -⟩ := leaf_int hl' ht 6 (by kernel_rfl)
 obtain ⟨b7, e7⟩ := leaf_bool hl' ht 7 (by kernel_rfl)
 obtain ⟨b8, e8⟩ := leaf_bool hl' ht 8 (by kernel_rfl)
 obtain ⟨n9, e9, -⟩ := leaf_int hl' ht 9 (by kernel_rfl)
 obtain ⟨n10, e10, -⟩ := leaf_int hl' ht 10 (by kernel_rfl)
 obtain ⟨n11, e11, -⟩ := leaf_int hl' ht 11 (by kernel_rfl)
 obtain ⟨m12, y12, h12⟩ := trod_leaf (t := 26) 9 _ 12 fuel cs x (by kernel_rfl) hl' ht
 obtain ⟨A12, l12, c12, X12, B12, e12, p12, q12, r12⟩ := fcs_trod h12
 obtain ⟨m13, y13, h13⟩ := trod_leaf (t := 27) 9 _ 13 fuel cs x (by kernel_rfl) hl' ht
 obtain ⟨A13, l13, c13, X13, B13, e13, p13, q13, r13⟩ := sis_trod h13
 obtain ⟨n14, e14, -⟩ := leaf_int hl' ht 14 (by kernel_rfl)
 obtain ⟨n15, e15, -⟩ := leaf_int hl' ht 15 (by kernel_rfl)
 obtain ⟨n16, e16, -⟩ := leaf_int hl' ht 16 (by kernel_rfl)
 obtain ⟨b17, e17⟩ := leaf_bool hl' ht 17 (by kernel_rfl)
 obtain ⟨b18, e18⟩ := leaf_bool hl' ht 18 (by kernel_rfl)
 obtain ⟨m19, y19, h19⟩ := trod_leaf (t := 32) 9 _ 19 fuel cs x (by kernel_rfl) hl' ht
 obtain ⟨A19, l19, c19, X19, e19, p19, q19, r19⟩ := legs_trod h19
 refine ⟨⟨n0, ⟨n1, n2, n3, n4, n5, n6, b7, b8⟩, n9, n10, n11, l12, X12, B12, l13, X13, B13⟩, .slice A12 l12 c12, .slice A13 l13 c13, n14, n15, n16, b17, b18, A19, l19, c19, X19, ?_, ⟨⟨_, _, rfl, p12, q12, r12⟩, ⟨_, _, rfl, p13, q13, r13⟩⟩, p19, q19, r19⟩
 rw [list_cells hl]
 simp only [show List.range 20 = [0, 1, 2, 3, 4, 5, 6, 7, 8, 9, 10, 11, 12, 13, 14, 15, 16, 17, 18, 19] from rfl, List.map_cons, List.map_nil, e0, e1, e2, e3, e4, e5, e6, e7, e8, e9, e10, e11, e12, e13, e14, e15, e16, e17, e18, e19]
theorem flight_trod {r : Reach} {b0 : Nat} {v : Value} {d : DataW H} {ps : List MemPlace} (hval : Value.okWide Tryz.prog W r b0 37 v) (hd : DataW.Trod enc Tryz.prog W 0 sp held 37 v d ps) :
  ∃ (F : FliD) (vR : Value), v = .agg #[vR, .int .i64 F.dep, .int .i64 F.fuel, .int .i64 F.burn, .int .i64 F.res] ∧ SlI W vR F.m F.R ∧ I64 F.dep ∧ I64 F.fuel ∧ I64 F.burn ∧ I64 F.res := by
 obtain ⟨cs, rfl, hl, fuel, x, ht⟩ := struct_trod (q := (35, 0)) (n := 5) (by kernel_rfl) (by kernel_rfl) hval hd
 have hl' : cs.length = Tryz.prog.cellsOf 37 := hl.trans (by kernel_rfl)
 obtain ⟨m0, y0, h0⟩ := trod_leaf (t := 35) 9 _ 0 fuel cs x (by kernel_rfl) hl' ht
 obtain ⟨l0, X0, hR⟩ := route_trod h0
 obtain ⟨n1, e1, w1⟩ := leaf_int hl' ht 1 (by kernel_rfl)
 obtain ⟨n2, e2, w2⟩ := leaf_int hl' ht 2 (by kernel_rfl)
 obtain ⟨n3, e3, w3⟩ := leaf_int hl' ht 3 (by kernel_rfl)
 obtain ⟨n4, e4, w4⟩ := leaf_int hl' ht 4 (by kernel_rfl)
 refine ⟨⟨l0, X0, n1, n2, n3, n4⟩, cs.getD 0 undef, ?_, hR, w1, w2, w3, w4⟩
 conv => lhs; rw [list_cells hl]
 simp only [show List.range 5 = [0, 1, 2, 3, 4] from rfl, List.map_cons, List.map_nil, e1, e2, e3, e4]
end
end Go.Proofs.YtlabfpjlckdmfaaGreat
