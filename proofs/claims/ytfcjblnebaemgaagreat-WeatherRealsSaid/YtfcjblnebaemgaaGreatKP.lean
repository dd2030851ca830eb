/- Texts joined: KP. -/
import Derived.Test.YtfcjblnebaemgaaGreatProg
import Derived.Test.YtfcjblnebaemgaaGreatBas
import Derived.Test.YtfcjblnebaemgaaGreatIx
import Derived.RangeFuncNested
import Derived.RangeFuncBound
import Derived.RangeFuncCalls
import Derived.RangeFuncLeaves
import Derived.Shelf.RegionOpen
import Derived.OwnWalkIn
import Derived.TacticsInMore
import Derived.LoopNIn
import Derived.LoopIn
set_option linter.all false
namespace Go.Proofs.YtfcjblnebaemgaaGreat
open Go Go.RowKit Go.Proofs

def inB (n lo hi : Int) : Bool := decide (lo ≤ n) && decide (n ≤ hi)

theorem within_c (n lo hi : Int) (w : World) :
   Calls Tryz.prog 102 #[.int .i64 n, .int .i64 lo, .int .i64 hi] w fun e w' => e = .returned (.bool (inB n lo hi)) ∧ w = w' := by
  by_cases h : lo ≤ n
  · go_enter Tryz.func102, Tryz.ntmps102
    go_wp2
    go_ret
    simp [inB, h]
  · have h2 : decide (lo ≤ n) = false := by simpa using h
    go_enter Tryz.func102, Tryz.ntmps102
    go_wp2
    go_ret
    simp [inB, h2]

def vspan (lo hi : Int) : Bool := inB lo (-1000000) hi && decide (hi ≤ 1000000)

theorem valid_c (lo hi : Int) (w : World) :
   Calls Tryz.prog 114 #[.agg #[.int .i64 lo, .int .i64 hi]] w fun e w' => e = .returned (.bool (vspan lo hi)) ∧ Below w.heap.size w w' := by
  cases h : inB lo (-1000000) hi
  all_goals
    go_enter Tryz.func114, Tryz.ntmps114
    go_wp2_with (go_at_call 102; refine (within_c _ _ _ _).mono ?_; rintro e w1 ⟨rfl, rfl⟩)
    go_ret
    exact ⟨by simp [vspan, h], (Below.refl _ _).alloc (Nat.le_refl _) _⟩

end Go.Proofs.YtfcjblnebaemgaaGreat

/- Contracts: spanned, Check of a box, axis, CheckTable of package spans. -/
namespace Go.Proofs.YtfcjblnebaemgaaGreat
open Go Go.RowKit Go.Proofs

theorem spanned1_c (lo hi : Int) (w : World) :
   Calls Tryz.prog 113 #[.agg #[.int .i64 lo, .int .i64 hi]] w fun e w' => e = .returned (.bool (!vspan lo hi)) ∧ Below w.heap.size w w' := by
  go_enter Tryz.func113, Tryz.ntmps113
  go_wp2_with (go_at_call 114; refine (valid_c _ _ _).mono ?_; rintro e w1 ⟨rfl, hb1⟩)
  go_ret
  exact ⟨rfl, ((Below.refl _ _).alloc (Nat.le_refl _) _).trans (hb1.mono (by simp))⟩

def anyBad (n : Nat) (lo hi : Nat → Int) : Bool := (List.range n).any fun i => !vspan (lo i) (hi i)

def spanE (bad : Bool) : Int := if bad then 10 else 0
theorem spanE_t : spanE true = 10 := rfl
theorem spanE_f : spanE false = 0 := rfl

theorem spanned_c (A : Option Addr) (n c : Nat) (lo hi : Nat → Int) (w : World) (hn : n ≤ 9223372036854775807) (hA : SpansAt w A n lo hi) :
   Calls Tryz.prog 103 #[.slice A n c] w fun e w' => e = .returned (.int .i64 (spanE (anyBad n lo hi))) ∧ Below w.heap.size w w' := by
  have hcf := cfSpan_c A n c lo hi 113 #[] (fun i => !vspan (lo i) (hi i)) w hn (enters_of Tryz.func113 (by kernel_rfl) rfl) hA
    (fun W i _ hb => by simpa using spanned1_c (lo i) (hi i) W)
  have hcf' : Calls Tryz.prog 112 #[.slice A n c, .func (.func 113) #[] #[]] w fun e w' => e = .returned (.bool (anyBad n lo hi)) ∧ Below w.heap.size w w' := hcf
  have HC := Lib.hid hcf'
  clear hcf hcf'
  cases h : anyBad n lo hi
  all_goals
    rw [h] at HC
    have HH := Lib.hid h
    clear h
    go_enter Tryz.func103, Tryz.ntmps103
    go_wp2_with (go_at_call 112; refine HC.out.mono ?_; rintro e w1 ⟨rfl, hb1⟩)
    go_ret
    exact ⟨rfl, hb1⟩

/-- spans.Check of a box. -/
theorem spCheck_c (A : Option Addr) (n c : Nat) (lo hi : Nat → Int) (w : World) (hn : n ≤ 9223372036854775807) (hA : SpansAt w A n lo hi) :
   Calls Tryz.prog 82 #[.slice A n c] w fun e w' => e = .returned (.int .i64 (spanE (!inB n 1 3 || anyBad n lo hi))) ∧ Below w.heap.size w w' := by
  have hs := spanned_c A n c lo hi w hn hA
  have HC := Lib.hid hs
  clear hs
  cases h : inB n 1 3
  · go_enter Tryz.func82, Tryz.ntmps82
    go_wp2_with (go_at_call 102; refine (within_c _ _ _ _).mono ?_; rintro e w1 ⟨rfl, rfl⟩)
    go_ret
    exact ⟨rfl, Below.refl _ _⟩
  · go_enter Tryz.func82, Tryz.ntmps82
    go_wp2_with (first | (go_at_call 102; refine (within_c _ _ _ _).mono ?_; rintro e w1 ⟨rfl, rfl⟩) | (go_at_call 103; refine HC.out.mono ?_; rintro e w1 ⟨rfl, hb1⟩))
    go_ret
    exact ⟨rfl, hb1⟩

def okKnot (l : List Int) (i : Nat) : Bool := inB (nth l i) (-1000000) 1000000 && (i == 0 || inB (nth l i - nth l (i - 1)) 1 10000)
def axisB (l : List Int) : Bool := inB l.length 2 12 && (List.range l.length).all (okKnot l)

theorem inB_iff {n lo hi : Int} : inB n lo hi = true ↔ lo ≤ n ∧ n ≤ hi := by simp [inB]
theorem okKnot_range {l : List Int} {i : Nat} (h : okKnot l i = true) : -1000000 ≤ nth l i ∧ nth l i ≤ 1000000 := by
  unfold okKnot at h; simp only [Bool.and_eq_true] at h; exact inB_iff.1 h.1
theorem okKnot_zero {l : List Int} (h : inB (nth l 0) (-1000000) 1000000 = true) : okKnot l 0 = true := by simp [okKnot, h]
theorem okKnot_succ {l : List Int} {i : Nat} (h : inB (nth l i) (-1000000) 1000000 = true) (h2 : inB (nth l i - nth l (i - 1)) 1 10000 = true) : okKnot l i = true := by simp [okKnot, h, h2]
theorem axisB_no {l : List Int} {k : Nat} (hk : k < l.length) (h : okKnot l k = false) : axisB l = false := by
  unfold axisB; rw [Bool.and_eq_false_iff]; right
  rw [List.all_eq_false]; exact ⟨k, by simpa using hk, by simp [h]⟩
theorem axisB_yes {l : List Int} (h0 : inB l.length 2 12 = true) (h : ∀ k, k < l.length → okKnot l k = true) : axisB l = true := by
  unfold axisB; rw [h0, Bool.true_and, List.all_eq_true]; intro k hk; exact h k (by simpa using hk)

end Go.Proofs.YtfcjblnebaemgaaGreat

/- Contracts: CheckTable of package spans. -/
namespace Go.Proofs.YtfcjblnebaemgaaGreat
open Go Go.RowKit Go.Proofs

def anyOut (r : List Int) : Bool := (List.range r.length).any fun i => !inB (nth r i) (-1000000) 1000000
def rowBad (ny : Nat) (r : List Int) : Bool := (r.length : Int) != (ny : Int) || anyOut r

def anyRowBad (ny : Nat) (V : List (List Int)) : Bool := (List.range V.length).any fun i => rowBad ny (nthR V i)
def tblB (T : Tbl) : Bool := axisB T.X && axisB T.Y && !((T.V.length : Int) != (T.X.length : Int)) && !anyRowBad T.Y.length T.V
def tblE (b : Bool) : Int := if b then 0 else 11
theorem tblE_t : tblE true = 0 := rfl
theorem tblE_f : tblE false = 11 := rfl

end Go.Proofs.YtfcjblnebaemgaaGreat

/- Contracts: lies, checkPoints of package spans. -/
namespace Go.Proofs.YtfcjblnebaemgaaGreat
open Go Go.RowKit Go.Proofs

def liesB (xs : List Int) (lo hi : Int) : Bool := decide (nth xs 0 ≤ lo) && decide (hi ≤ nth xs (xs.length - 1))

theorem anyBad2 (lo hi : Nat → Int) : anyBad 2 lo hi = (!vspan (lo 0) (hi 0) || !vspan (lo 1) (hi 1)) := by
  simp [anyBad, List.range_succ]
theorem anyBad1 (lo hi : Nat → Int) : anyBad 1 lo hi = !vspan (lo 0) (hi 0) := by
  simp [anyBad, List.range_succ]

theorem spanned2_c (b c : Nat) (xl xh yl yh : Int) (w : World) (h0 : w.cell? ⟨b, 0, none⟩ = some (.int .i64 xl)) (h1 : w.cell? ⟨b, 1, none⟩ = some (.int .i64 xh))
    (h2 : w.cell? ⟨b, 2, none⟩ = some (.int .i64 yl)) (h3 : w.cell? ⟨b, 3, none⟩ = some (.int .i64 yh)) :
   Calls Tryz.prog 103 #[.slice (some ⟨b, 0, none⟩) 2 c] w fun e w' => e = .returned (.int .i64 (spanE (!vspan xl xh || !vspan yl yh))) ∧ Below w.heap.size w w' := by
  have h := spanned_c (some ⟨b, 0, none⟩) 2 c (fun i => if i = 0 then xl else yl) (fun i => if i = 0 then xh else yh) w (by omega)
    (fun _ => ⟨b, 0, rfl, blk_lt h0, fun k hk => by
      rcases (show k = 0 ∨ k = 1 by omega) with rfl | rfl
      · simpa using ⟨h0, h1⟩
      · simpa using ⟨h2, h3⟩⟩)
  rw [anyBad2] at h
  exact h

def cpE (T : Tbl) (xl xh yl yh : Int) : Int :=
  if tblB T then (if vspan xl xh && vspan yl yh then (if liesB T.X xl xh && liesB T.Y yl yh then 0 else 1) else 10) else 11

theorem axisB_len {l : List Int} (h : axisB l = true) : 2 ≤ l.length ∧ l.length ≤ 12 := by
  unfold axisB at h; simp only [Bool.and_eq_true] at h; have := inB_iff.1 h.1; omega
theorem tblB_X {T : Tbl} (h : tblB T = true) : axisB T.X = true := by unfold tblB at h; simp only [Bool.and_eq_true] at h; exact h.1.1.1
theorem tblB_Y {T : Tbl} (h : tblB T = true) : axisB T.Y = true := by unfold tblB at h; simp only [Bool.and_eq_true] at h; exact h.1.1.2

end Go.Proofs.YtfcjblnebaemgaaGreat

/- Contracts: cmp.Less, slices.BinarySearch, cell of package spans. -/
namespace Go.Proofs.YtfcjblnebaemgaaGreat
open Go Go.RowKit Go.Proofs

theorem nan2_c (n : Int) (w : World) : Calls Tryz.prog 70 #[.int .i64 n] w fun e w' => e = .returned (.bool false) ∧ w = w' := by
  have h : (n != n) = false := by simp
  go_enter Tryz.func70, Tryz.ntmps70
  go_wp2
  go_ret
  exact ⟨rfl, rfl⟩
theorem less_c (a b : Int) (w : World) : Calls Tryz.prog 94 #[.int .i64 a, .int .i64 b] w fun e w' => e = .returned (.bool (decide (a < b))) ∧ w = w' := by
  go_enter Tryz.func94, Tryz.ntmps94
  go_wp2_with (first | (go_at_call 70; (with_reducible refine (nan2_c _ _).mono ?_); rintro e w1 ⟨rfl, rfl⟩))
  go_ret
  exact ⟨rfl, rfl⟩

def lowIx (f : Nat → Int) (n : Nat) (t : Int) : Nat := ((List.range n).find? fun j => decide (t ≤ f j)).getD n
theorem lowIx_eq {f : Nat → Int} {n r : Nat} {t : Int} (hr : r ≤ n) (h1 : ∀ j, j < r → f j < t) (h2 : r < n → t ≤ f r) : lowIx f n t = r := by
  unfold lowIx
  by_cases h : r < n
  · have : (List.range n).find? (fun j => decide (t ≤ f j)) = some r := by
      rw [List.find?_range_eq_some]
      exact ⟨by simpa using h2 h, List.mem_range.2 h, fun j hj => by have := h1 j hj; simp; omega⟩
    rw [this]; rfl
  · have : (List.range n).find? (fun j => decide (t ≤ f j)) = none := by
      rw [List.find?_eq_none]
      intro j hj
      have := h1 j (by have := List.mem_range.1 hj; omega)
      simp; omega
    rw [this]; simp; omega

def SomeB (r : Int) (w : World) (e : Ending) (w' : World) : Prop := ∃ b, e = .returned (.tuple #[.int .i64 r, .bool b]) ∧ w = w'

end Go.Proofs.YtfcjblnebaemgaaGreat

namespace Go.Proofs.YtfcjblnebaemgaaGreat
open Go Go.RowKit Go.Proofs

theorem axisB_all {l : List Int} (h : axisB l = true) {k : Nat} (hk : k < l.length) : okKnot l k = true := by
  unfold axisB at h; simp only [Bool.and_eq_true, List.all_eq_true] at h; exact h.2 k (List.mem_range.2 hk)
theorem axisB_range {l : List Int} (h : axisB l = true) {k : Nat} (hk : k < l.length) : -1000000 ≤ nth l k ∧ nth l k ≤ 1000000 := okKnot_range (axisB_all h hk)
theorem axisB_step {l : List Int} (h : axisB l = true) {k : Nat} (hk : k + 1 < l.length) : nth l k + 1 ≤ nth l (k + 1) ∧ nth l (k + 1) ≤ nth l k + 10000 := by
  have := axisB_all h hk
  unfold okKnot at this
  simp only [Bool.and_eq_true, Bool.or_eq_true] at this
  rcases this.2 with h2 | h2
  · simp at h2
  · have := inB_iff.1 h2; simp at this; omega
theorem axisB_lt {l : List Int} (h : axisB l = true) {i j : Nat} (hij : i < j) (hj : j < l.length) : nth l i < nth l j := by
  induction j with
  | zero => omega
  | succ j ih =>
    have hs := axisB_step h hj
    by_cases e : i = j
    · subst e; omega
    · have := ih (by omega) (by omega); omega
theorem axisB_le {l : List Int} (h : axisB l = true) {i j : Nat} (hij : i ≤ j) (hj : j < l.length) : nth l i ≤ nth l j := by
  by_cases e : i = j
  · subst e; omega
  · have := axisB_lt h (show i < j by omega) hj; omega

/-- Which part of an axis a number is on, as the program finds it. -/
def cellP (l : List Int) (x : Int) : Nat := lowIx (fun k => nth l (k + 1)) (l.length - 1 - 1) x
theorem lowIx_spec (f : Nat → Int) (n : Nat) (t : Int) : lowIx f n t ≤ n ∧ (∀ j, j < lowIx f n t → f j < t) ∧ (lowIx f n t < n → t ≤ f (lowIx f n t)) := by
  unfold lowIx
  cases h : (List.range n).find? fun j => decide (t ≤ f j) with
  | none =>
    rw [List.find?_eq_none] at h
    refine ⟨by simp, fun j hj => ?_, fun hj => by simp at hj⟩
    have := h j (List.mem_range.2 (by simpa using hj)); simp at this; omega
  | some r =>
    rw [List.find?_range_eq_some] at h
    obtain ⟨h1, h2, h3⟩ := h
    have := List.mem_range.1 h2
    refine ⟨by simp; omega, fun j hj => ?_, fun _ => by simpa using h1⟩
    have := h3 j (by simpa using hj); simp at this; omega
theorem cellP_lt {l : List Int} (h : axisB l = true) (x : Int) : cellP l x + 1 < l.length := by
  have := (lowIx_spec (fun k => nth l (k + 1)) (l.length - 1 - 1) x).1
  have := axisB_len h
  unfold cellP; omega
theorem cellP_in {l : List Int} {x : Int} (h : axisB l = true) (h0 : nth l 0 ≤ x) (h1 : x ≤ nth l (l.length - 1)) : nth l (cellP l x) ≤ x ∧ x ≤ nth l (cellP l x + 1) := by
  have hl := axisB_len h
  obtain ⟨a, b, c⟩ := lowIx_spec (fun k => nth l (k + 1)) (l.length - 1 - 1) x
  unfold cellP
  generalize lowIx (fun k => nth l (k + 1)) (l.length - 1 - 1) x = r at *
  constructor
  · by_cases e : r = 0
    · subst e; exact h0
    · have := b (r - 1) (by omega)
      have e2 : r - 1 + 1 = r := by omega
      rw [e2] at this; omega
  · by_cases e : r < l.length - 1 - 1
    · exact c e
    · have e2 : r + 1 = l.length - 1 := by omega
      rw [e2]; exact h1

/-- The fraction of a table at a point, in the part of the axes that i and k name. -/
def num (T : Tbl) (i k : Nat) (x y : Int) : Int :=
  (nth T.X (i + 1) - x) * (nth T.Y (k + 1) - y) * nth (nthR T.V i) k + (x - nth T.X i) * (nth T.Y (k + 1) - y) * nth (nthR T.V (i + 1)) k
    + (nth T.X (i + 1) - x) * (y - nth T.Y k) * nth (nthR T.V i) (k + 1) + (x - nth T.X i) * (y - nth T.Y k) * nth (nthR T.V (i + 1)) (k + 1)
def den (T : Tbl) (i k : Nat) (x y : Int) : Int :=
  (nth T.X (i + 1) - x + (x - nth T.X i)) * (nth T.Y (k + 1) - y + (y - nth T.Y k))

theorem tblB_len {T : Tbl} (h : tblB T = true) : T.V.length = T.X.length := by
  unfold tblB at h; simp only [Bool.and_eq_true] at h
  have := h.1.2; simp at this; omega
theorem tblB_row {T : Tbl} (h : tblB T = true) {i : Nat} (hi : i < T.V.length) : (nthR T.V i).length = T.Y.length ∧ ∀ k, k < T.Y.length → -1000000 ≤ nth (nthR T.V i) k ∧ nth (nthR T.V i) k ≤ 1000000 := by
  unfold tblB at h; simp only [Bool.and_eq_true] at h
  have h1 : anyRowBad T.Y.length T.V = false := by simpa using h.2
  unfold anyRowBad at h1
  rw [List.any_eq_false] at h1
  have h2 := h1 i (List.mem_range.2 hi)
  simp only [rowBad, Bool.or_eq_true, not_or, Bool.not_eq_true] at h2
  have hl : (nthR T.V i).length = T.Y.length := by have := h2.1; simp at this; omega
  refine ⟨hl, fun k hk => ?_⟩
  have h3 := h2.2
  unfold anyOut at h3
  rw [List.any_eq_false] at h3
  have := h3 k (List.mem_range.2 (by omega))
  exact inB_iff.1 (by simpa using this)

end Go.Proofs.YtfcjblnebaemgaaGreat

namespace Go.Proofs.YtfcjblnebaemgaaGreat
open Go Go.RowKit Go.Proofs

theorem sub_div {n d : Int} (hd : 1 ≤ d) : 0 ≤ n - n / d * d ∧ n - n / d * d < d := by
  have h1 := Int.emod_nonneg n (show d ≠ 0 by omega)
  have h2 := Int.emod_lt_of_pos n (show 0 < d by omega)
  have h3 := Int.emod_add_mul_ediv n d
  rw [Int.mul_comm] at h3
  omega

/-- The ends of a span, and the knots within it. -/
def stopsF (xs : List Int) (lo hi : Int) (k : Nat) : List Int := lo :: (xs.take k).filter fun x => decide (lo < x) && decide (x < hi)
def stopsL (xs : List Int) (lo hi : Int) : List Int := stopsF xs lo hi xs.length ++ if lo < hi then [hi] else []
theorem stopsF_zero (xs : List Int) (lo hi : Int) : stopsF xs lo hi 0 = [lo] := by simp [stopsF]
theorem take_snoc (xs : List Int) (k : Nat) (h : k < xs.length) : xs.take (k + 1) = xs.take k ++ [nth xs k] := by
  rw [List.take_succ_eq_append_getElem h, nth_getElem xs k h]
theorem stopsF_keep (xs : List Int) (lo hi : Int) (k : Nat) (hk : k < xs.length) (h : (decide (lo < nth xs k) && decide (nth xs k < hi)) = true) : stopsF xs lo hi (k + 1) = stopsF xs lo hi k ++ [nth xs k] := by
  unfold stopsF; rw [take_snoc xs k hk, List.filter_append]; simp only [List.filter_cons, h]; simp
theorem stopsF_drop (xs : List Int) (lo hi : Int) (k : Nat) (hk : k < xs.length) (h : (decide (lo < nth xs k) && decide (nth xs k < hi)) = false) : stopsF xs lo hi (k + 1) = stopsF xs lo hi k := by
  unfold stopsF; rw [take_snoc xs k hk, List.filter_append]; simp only [List.filter_cons, h]; simp
theorem stopsF_len (xs : List Int) (lo hi : Int) (k : Nat) : (stopsF xs lo hi k).length ≤ k + 1 := by
  unfold stopsF
  have h1 := List.length_filter_le (fun x => decide (lo < x) && decide (x < hi)) (xs.take k)
  have h2 := List.length_take_le k xs
  simp only [List.length_cons]; omega

theorem one_new (w : World) (u : Value) (t : TypeId) : ∀ j x, [u][j]? = some x → (w.alloc (.cells #[u] t)).cell? ((⟨w.heap.size, 0, none⟩ : Addr).add j) = some x := by
  intro j x h
  match j, h with
  | 0, h => simp at h; subst h; simp [Addr.add]

theorem Tryz.infoInt : (Tryz.prog.info? 3).map (fun i => (i.zero, i.size, i.bytes)) = some (some (.int .i64 0), 1, 8) := by kernel_rfl
theorem Tryz.undInts : Tryz.prog.underlying 56 = some (.slice 3) := by kernel_rfl

end Go.Proofs.YtfcjblnebaemgaaGreat

namespace Go.Proofs.YtfcjblnebaemgaaGreat
open Go Go.RowKit Go.Proofs Go.Shelf
attribute [local go_sem] Oper.semAt_some

def encPt (p : Pt) : Array Value := #[.agg #[.int .i64 p.x, .int .i64 p.y, .int .i64 p.n, .int .i64 p.d]]

/-- The value of a table at a point, in the part that the program finds. -/
def numP (T : Tbl) (x y : Int) : Int := num T (cellP T.X x) (cellP T.Y y) x y
def denP (T : Tbl) (x y : Int) : Int := den T (cellP T.X x) (cellP T.Y y) x y

open Classical in
noncomputable def mkPt (T : Tbl) (x y : Int) : Pt :=
  if h : (-400000000000000 ≤ numP T x y ∧ numP T x y ≤ 400000000000000) ∧ (1 ≤ denP T x y ∧ denP T x y ≤ 400000000) then ⟨x, y, numP T x y, denP T x y, h.1, h.2⟩ else ⟨x, y, 0, 1, by omega, by omega⟩
noncomputable def cornersL (T : Tbl) (sx sy : List Int) : List Pt := sx.flatMap fun x => sy.map (mkPt T x)

/-- A point lies on a table. -/
def OnT (T : Tbl) (x y : Int) : Prop := nth T.X 0 ≤ x ∧ x ≤ nth T.X (T.X.length - 1) ∧ nth T.Y 0 ≤ y ∧ y ≤ nth T.Y (T.Y.length - 1)

theorem numP_bd {T : Tbl} {x y : Int} (ht : tblB T = true) (h : OnT T x y) : (-400000000000000 ≤ numP T x y ∧ numP T x y ≤ 400000000000000) ∧ (1 ≤ denP T x y ∧ denP T x y ≤ 400000000) := by
  obtain ⟨hx0, hx1, hy0, hy1⟩ := h
  have hX := tblB_X ht
  have hY := tblB_Y ht
  have lV := tblB_len ht
  have ii := cellP_lt hX x
  have kk := cellP_lt hY y
  have pi := cellP_in hX hx0 hx1
  have pk := cellP_in hY hy0 hy1
  have si := axisB_step hX ii
  have sk := axisB_step hY kk
  unfold numP denP num den
  generalize cellP T.X x = i at *
  generalize cellP T.Y y = k at *
  obtain ⟨_, v0⟩ := tblB_row ht (show i < T.V.length by omega)
  obtain ⟨_, v1⟩ := tblB_row ht (show i + 1 < T.V.length by omega)
  have h := (wnum_eq (A := nth T.X (i + 1) - x) (B := x - nth T.X i) (C := nth T.Y (k + 1) - y) (D := y - nth T.Y k) (by omega) (by omega) (by omega) (by omega) (by omega) (by omega) (by omega) (by omega)
    (v0 k (by omega)) (v0 (k + 1) (by omega)) (v1 k (by omega)) (v1 (k + 1) (by omega))).2
  refine ⟨h, ?_⟩
  have e1 : nth T.X (i + 1) - x + (x - nth T.X i) = nth T.X (i + 1) - nth T.X i := by omega
  have e2 : nth T.Y (k + 1) - y + (y - nth T.Y k) = nth T.Y (k + 1) - nth T.Y k := by omega
  rw [e1, e2]
  have m := mul_bd (a := nth T.X (i + 1) - nth T.X i) (b := nth T.Y (k + 1) - nth T.Y k) (A := 10000) (B := 10000) (by omega) (by omega) (by omega) (by omega)
  have p : 1 * 1 ≤ (nth T.X (i + 1) - nth T.X i) * (nth T.Y (k + 1) - nth T.Y k) := Int.mul_le_mul (by omega) (by omega) (by omega) (by omega)
  omega
theorem mkPt_n {T : Tbl} {x y : Int} (ht : tblB T = true) (h : OnT T x y) : (mkPt T x y).n = numP T x y ∧ (mkPt T x y).d = denP T x y := by
  unfold mkPt; rw [dif_pos (numP_bd ht h)]; exact ⟨rfl, rfl⟩
theorem mkPt_x (T : Tbl) (x y : Int) : (mkPt T x y).x = x ∧ (mkPt T x y).y = y := by
  unfold mkPt; split <;> exact ⟨rfl, rfl⟩

/-- Every cell that lay lies as it lay, but in the blocks that S names. -/
def KeepC (S : Nat → Prop) (A B : World) : Prop := A.heap.size ≤ B.heap.size ∧ ∀ k c t f, A.heap[k]? = some (.cells c t f) → ¬ S k → B.heap[k]? = some (.cells c t f)
theorem KeepC.trans {S : Nat → Prop} {A B C : World} (h : KeepC S A B) (k : KeepC S B C) : KeepC S A C :=
  ⟨Nat.le_trans h.1 k.1, fun i c t f hi hs => k.2 i c t f (h.2 i c t f hi hs) hs⟩
theorem KeepC.put {S : Nat → Prop} (W : World) (l : Nat) (o o' : Obj) (h : W.heap[l]? = some o) (ho : o.isCells = false) : KeepC S W (W.putObj l o') :=
  ⟨by simp, fun k c t f hk _ => by
    by_cases e : k = l
    · subst e; rw [h] at hk; cases hk; simp [Obj.isCells] at ho
    · exact (World.putObj_heap_other e).trans hk⟩
theorem KeepC.of_below {S : Nat → Prop} {A B : World} (h : Below A.heap.size A B) : KeepC S A B :=
  ⟨h.size, fun k c t f hk _ => (h.block k (Array.getElem?_eq_some_iff.1 hk).1).trans hk⟩
theorem KeepC.cell {S : Nat → Prop} {A B : World} (h : KeepC S A B) {b o : Nat} {v : Value} (hc : A.cell? ⟨b, o, none⟩ = some v) (hs : ¬ S b) : B.cell? ⟨b, o, none⟩ = some v := by
  unfold World.cell? at hc ⊢
  split at hc
  · rename_i c e f hb
    rw [show B.heap[(⟨b, o, none⟩ : Addr).block]? = some (.cells c e f) from h.2 b c e f hb hs]
    exact hc
  · simp at hc
theorem grownBy_of_below {A B : World} (h : Below A.heap.size A B) : A.grownBy B none :=
  ⟨h.os, h.tape, h.output, h.size, fun k hk _ => h.block k hk⟩

theorem CellsAt.keep {S : Nat → Prop} {w w' : World} {A : Option Addr} {n : Nat} {f : Nat → Value} (h : CellsAt w A n f) (hk : KeepC S w w') (hS : ∀ k, S k → w.heap.size ≤ k) : CellsAt w' A n f := by
  intro hn
  obtain ⟨b, off, hA, hlt, hc⟩ := h hn
  exact ⟨b, off, hA, Nat.lt_of_lt_of_le hlt hk.1, fun k hkn => hk.cell (hc k hkn) (fun hs => by have := hS b hs; omega)⟩
theorem Ints.keep {S : Nat → Prop} {w w' : World} {v : Value} {xs : List Int} (h : Ints w v xs) (hk : KeepC S w w') (hS : ∀ k, S k → w.heap.size ≤ k) : Ints w' v xs := by
  obtain ⟨A, c, rfl, h1, h2, h3, h4⟩ := h
  exact ⟨A, c, rfl, h1, h2, h3, h4.keep hk hS⟩
theorem TblAt.keep {S : Nat → Prop} {w w' : World} {x y v : Value} {T : Tbl} (h : TblAt w x y v T) (hk : KeepC S w w') (hS : ∀ k, S k → w.heap.size ≤ k) : TblAt w' x y v T := by
  refine ⟨h.x.keep hk hS, h.y.keep hk hS, ?_⟩
  obtain ⟨A, c, vs, e, h1, h2, h3, h4⟩ := h.v
  exact ⟨A, c, vs, e, h1, h2, h3.keep hk hS, fun k hkn => (h4 k hkn).keep hk hS⟩

/-- What an owned row of integers is good for. -/
theorem row_form {w : World} {base : Nat} {e : TypeId} {v : Value} {xs : List Int} (h : w.ownsRow base e 1 v xs.length (xs.map (Value.int .i64))) (h0 : 0 < xs.length) :
    ∃ g c, v = .slice (some ⟨g, 0, none⟩) xs.length c ∧ base ≤ g ∧ g < w.heap.size ∧ ∀ k, k < xs.length → w.cell? ⟨g, k, none⟩ = some (.int .i64 (nth xs k)) := by
  obtain ⟨hl, h2⟩ := id h
  rcases h2 with ⟨_, hz⟩ | ⟨g, cap, cur, rfl, hg, _⟩
  · omega
  · refine ⟨g, cap, rfl, hg, (h.lt g rfl).2, fun k hk => ?_⟩
    have := h.cells (g := g) rfl k (.int .i64 (nth xs k)) (by rw [List.getElem?_map, List.getElem?_eq_getElem hk, nth_getElem xs k hk]; rfl)
    rw [Addr.add_lit] at this
    simpa using this
end Go.Proofs.YtfcjblnebaemgaaGreat

/- The iterator's own contract: corners$1, for every loop body that keeps the cells but its own boxes. -/
namespace Go.Proofs.YtfcjblnebaemgaaGreat
open Go Go.RowKit Go.Proofs Go.Shelf
attribute [local go_sem] Oper.semAt_some

/-- How far the loops have come. -/
noncomputable def preL (T : Tbl) (sx sy : List Int) (i k : Nat) : List Pt := cornersL T (sx.take i) sy ++ (sy.take k).map (mkPt T (nth sx i))
theorem preL_zero (T : Tbl) (sx sy : List Int) : preL T sx sy 0 0 = [] := by simp [preL, cornersL]
theorem preL_k (T : Tbl) (sx sy : List Int) (i k : Nat) (hk : k < sy.length) : preL T sx sy i (k + 1) = preL T sx sy i k ++ [mkPt T (nth sx i) (nth sy k)] := by
  unfold preL; rw [take_snoc sy k hk]; simp
theorem preL_i (T : Tbl) (sx sy : List Int) (i : Nat) (hi : i < sx.length) : preL T sx sy (i + 1) 0 = preL T sx sy i sy.length := by
  unfold preL; rw [take_snoc sx i hi]; simp [cornersL]
theorem preL_end (T : Tbl) (sx sy : List Int) : preL T sx sy sx.length 0 = cornersL T sx sy := by simp [preL]
theorem cornersL_len (T : Tbl) (sx sy : List Int) : (cornersL T sx sy).length = sx.length * sy.length := by
  induction sx with
  | nil => simp [cornersL]
  | cons a l ih =>
    have : cornersL T (a :: l) sy = sy.map (mkPt T a) ++ cornersL T l sy := by simp [cornersL]
    rw [this, List.length_append, ih]; simp [Nat.add_mul, Nat.add_comm]
theorem preL_lt (T : Tbl) (sx sy : List Int) (i k : Nat) (hi : i < sx.length) (hk : k < sy.length) : (preL T sx sy i k).length < (cornersL T sx sy).length := by
  have h1 : (preL T sx sy i k).length = i * sy.length + k := by
    unfold preL
    rw [List.length_append, cornersL_len, List.length_map, List.length_take, List.length_take, Nat.min_eq_left (by omega), Nat.min_eq_left (by omega)]
  rw [h1, cornersL_len]
  have h2 : (i + 1) * sy.length ≤ sx.length * sy.length := Nat.mul_le_mul_right _ (by omega)
  rw [Nat.add_mul] at h2
  omega

theorem stopsL_pos (xs : List Int) (lo hi : Int) : 0 < (stopsL xs lo hi).length := by simp [stopsL, stopsF]
theorem stopsL_le (xs : List Int) (lo hi : Int) (h : xs.length ≤ 12) : (stopsL xs lo hi).length ≤ 14 := by
  have := stopsF_len xs lo hi xs.length
  unfold stopsL; rw [List.length_append]; split <;> simp <;> omega
theorem stopsL_in {xs : List Int} {lo hi : Int} (hlh : lo ≤ hi) {k : Nat} (hk : k < (stopsL xs lo hi).length) : lo ≤ nth (stopsL xs lo hi) k ∧ nth (stopsL xs lo hi) k ≤ hi := by
  have hm := nth_mem _ k hk
  generalize nth (stopsL xs lo hi) k = z at *
  unfold stopsL stopsF at hm
  simp only [List.mem_append, List.mem_cons, List.mem_filter, Bool.and_eq_true, decide_eq_true_eq] at hm
  rcases hm with (rfl | ⟨_, h1, h2⟩) | h
  · omega
  · omega
  · split at h
    · simp at h; omega
    · simp at h

end Go.Proofs.YtfcjblnebaemgaaGreat

namespace Go.Proofs.YtfcjblnebaemgaaGreat
open Go Go.RowKit Go.Proofs Go.Shelf
attribute [local go_sem] Oper.semAt_some

/-- Block g is just these cells, none frozen. -/
def Blk (W : World) (g : Nat) (t : TypeId) (cs : Array Value) : Prop := W.heap[g]? = some (.cells cs t (0, 0))
theorem Blk.lt {W : World} {g : Nat} {t : TypeId} {cs : Array Value} (h : Blk W g t cs) : g < W.heap.size := (Array.getElem?_eq_some_iff.1 h).1
theorem Blk.cell {W : World} {g : Nat} {t : TypeId} {cs : Array Value} (h : Blk W g t cs) (i : Nat) : W.cell? ⟨g, i, none⟩ = cs[i]? := by simp [World.cell?, show W.heap[g]? = _ from h]
theorem Blk.frozen {W : World} {g : Nat} {t : TypeId} {cs : Array Value} (h : Blk W g t cs) (i : Nat) : W.frozen? ⟨g, i, none⟩ = false := by simp [World.frozen?, show W.heap[g]? = _ from h]
theorem Blk.new (W : World) (t : TypeId) (cs : Array Value) : Blk (W.alloc (.cells cs t)) W.heap.size t cs := World.alloc_heap_new W _
theorem Blk.alloc {W : World} {g : Nat} {t : TypeId} {cs : Array Value} (h : Blk W g t cs) (o : Obj) : Blk (W.alloc o) g t cs := (Below.heap_alloc W o g h.lt).trans h
theorem Blk.below {W W' : World} {g : Nat} {t : TypeId} {cs : Array Value} (h : Blk W g t cs) (hb : Below W.heap.size W W') : Blk W' g t cs := (hb.block g h.lt).trans h
theorem Blk.set_ {W : World} {g : Nat} {t : TypeId} {cs : Array Value} (h : Blk W g t cs) (i : Nat) (u : Value) : Blk (W.setCell ⟨g, i, none⟩ u) g t (cs.setIfInBounds i u) := by
  obtain ⟨hlt, hk⟩ := Array.getElem?_eq_some_iff.1 h
  show (W.heap.modify g _)[g]? = _
  rw [Array.getElem?_eq_getElem (by rw [Array.size_modify]; exact hlt), Array.getElem_modify_self, hk]
  rfl
theorem Blk.far {W : World} {g : Nat} {t : TypeId} {cs : Array Value} (h : Blk W g t cs) {p : Addr} (hp : g ≠ p.block) (u : Value) : Blk (W.setCell p u) g t cs := (Below.heap_setCell W p u g hp).trans h
theorem blk_own {β : Type} (g : Nat) (t : TypeId) (f : β → Array Value) : Own (fun s W => Blk W g t (f s)) := fun s X Y row hs hg hrow => by
  refine (hg.block g (Blk.lt hs) (fun e => ?_)).trans hs
  obtain ⟨o, ho, hc⟩ := hrow g e.symm
  rw [show X.heap[g]? = _ from hs] at ho
  cases ho; cases hc

theorem kf_below {B : Nat} {W W' : World} (h : Below W.heap.size W W') : KeepsFrom B W W' := ⟨h.size, fun k _ _ hk _ => (h.block k (Array.getElem?_eq_some_iff.1 hk).1).trans hk⟩
theorem kc_alloc {S : Nat → Prop} (W : World) (o : Obj) : KeepC S W (W.alloc o) := KeepC.of_below (Below.alloc (Below.refl _ _) (Nat.le_refl _) _)
theorem kf_set {B : Nat} (W : World) (a : Addr) (u : Value) : KeepsFrom B W (W.setCell a u) := (KeepsOthers.setCell W a u).from B
theorem kc_set {S : Nat → Prop} (W : World) (a : Addr) (u : Value) (hs : S a.block) : KeepC S W (W.setCell a u) :=
  ⟨by simp, fun k c t f hk hn => (Below.heap_setCell W a u k (fun e => hn (e ▸ hs))).trans hk⟩

theorem pt4 {W : World} {g : Nat} {t : TypeId} {a b c d : Int} (h : Blk W g t #[.int .i64 a, .int .i64 b, .int .i64 c, .int .i64 d]) :
    W.cell? ⟨g, 0, none⟩ = some (.int .i64 a) ∧ W.cell? ⟨g, 1, none⟩ = some (.int .i64 b) ∧ W.cell? ⟨g, 2, none⟩ = some (.int .i64 c) ∧ W.cell? ⟨g, 3, none⟩ = some (.int .i64 d) ∧ ∀ i, W.frozen? ⟨g, i, none⟩ = false :=
  ⟨h.cell 0, h.cell 1, h.cell 2, h.cell 3, h.frozen⟩
theorem Blk.far' {W : World} {g f i : Nat} {t : TypeId} {cs : Array Value} (h : Blk W g t cs) (hf : g ≠ f) (u : Value) : Blk (W.setCell ⟨f, i, none⟩ u) g t cs := h.far (p := ⟨f, i, none⟩) hf u
theorem kc_refl (S : Nat → Prop) (W : World) : KeepC S W W := KeepC.of_below (Below.refl _ _)
theorem kc_set' {S : Nat → Prop} (W : World) (g i : Nat) (u : Value) (hs : S g) : KeepC S W (W.setCell ⟨g, i, none⟩ u) := kc_set W _ u hs
theorem bset {B g i : Nat} {W W' : World} (h : Below B W W') (hg : B ≤ g) (u : Value) : Below B W (W'.setCell ⟨g, i, none⟩ u) := h.setCell (p := ⟨g, i, none⟩) hg u
def W4 (W : World) (g : Nat) (p : Pt) : World := (((W.setCell ⟨g, 0, none⟩ (.int .i64 p.x)).setCell ⟨g, 1, none⟩ (.int .i64 p.y)).setCell ⟨g, 2, none⟩ (.int .i64 p.n)).setCell ⟨g, 3, none⟩ (.int .i64 p.d)
theorem set4 {W : World} {g : Nat} {t : TypeId} {a b c d : Int} (h : Blk W g t #[.int .i64 a, .int .i64 b, .int .i64 c, .int .i64 d]) (p : Pt) :
    Blk ((((W.setCell ⟨g, 0, none⟩ (.int .i64 p.x)).setCell ⟨g, 1, none⟩ (.int .i64 p.y)).setCell ⟨g, 2, none⟩ (.int .i64 p.n)).setCell ⟨g, 3, none⟩ (.int .i64 p.d)) g t #[.int .i64 p.x, .int .i64 p.y, .int .i64 p.n, .int .i64 p.d] :=
  (((h.set_ 0 _).set_ 1 _).set_ 2 _).set_ 3 _
theorem Blk.far4 {W : World} {g f : Nat} {t : TypeId} {cs : Array Value} (h : Blk W g t cs) (hf : g ≠ f) (p : Pt) :
    Blk ((((W.setCell ⟨f, 0, none⟩ (.int .i64 p.x)).setCell ⟨f, 1, none⟩ (.int .i64 p.y)).setCell ⟨f, 2, none⟩ (.int .i64 p.n)).setCell ⟨f, 3, none⟩ (.int .i64 p.d)) g t cs :=
  (((h.far hf _).far hf _).far hf _).far hf _
theorem heap4 {W : World} {D f : Nat} {o : Option Obj} (h : W.heap[D]? = o) (hf : D ≠ f) (p : Pt) :
    ((((W.setCell ⟨f, 0, none⟩ (.int .i64 p.x)).setCell ⟨f, 1, none⟩ (.int .i64 p.y)).setCell ⟨f, 2, none⟩ (.int .i64 p.n)).setCell ⟨f, 3, none⟩ (.int .i64 p.d)).heap[D]? = o :=
  (Below.heap_setCell _ _ _ _ hf).trans ((Below.heap_setCell _ _ _ _ hf).trans ((Below.heap_setCell _ _ _ _ hf).trans ((Below.heap_setCell _ _ _ _ hf).trans h)))
theorem below4 {B : Nat} {W W' : World} {f : Nat} (h : Below B W W') (hf : B ≤ f) (p : Pt) :
    Below B W ((((W'.setCell ⟨f, 0, none⟩ (.int .i64 p.x)).setCell ⟨f, 1, none⟩ (.int .i64 p.y)).setCell ⟨f, 2, none⟩ (.int .i64 p.n)).setCell ⟨f, 3, none⟩ (.int .i64 p.d)) :=
  bset (bset (bset (bset h hf _) hf _) hf _) hf _
theorem Blk.put {W : World} {g D : Nat} {t : TypeId} {cs : Array Value} (h : Blk W g t cs) (hg : g ≠ D) (o : Obj) : Blk (W.drew.putObj D o) g t cs := by
  show (W.heap.setIfInBounds D o)[g]? = _
  rw [Array.getElem?_setIfInBounds_ne (Ne.symm hg)]
  exact h
theorem cornersL_ne (T : Tbl) (sx sy : List Int) (h1 : 0 < sx.length) (h2 : 0 < sy.length) : cornersL T sx sy ≠ [] := by
  intro h
  have e := congrArg List.length h
  rw [cornersL_len] at e
  have := Nat.mul_pos h1 h2
  simp only [List.length_nil] at e
  omega
/-- The cells of a point that may not have come yet. -/
def ptCells : Option Pt → Array Value
  | none => #[.int .i64 0, .int .i64 0, .int .i64 0, .int .i64 0]
  | some p => #[.int .i64 p.x, .int .i64 p.y, .int .i64 p.n, .int .i64 p.d]

def ExtrP (T : Tbl) (xl xh yl yh : Int) (w : World) (e : Ending) (w' : World) : Prop :=
  ∃ p q : Pt, e = .returned (.tuple #[.agg #[.int .i64 p.x, .int .i64 p.y, .int .i64 p.n, .int .i64 p.d], .agg #[.int .i64 q.x, .int .i64 q.y, .int .i64 q.n, .int .i64 q.d]])
    ∧ leastO (cornersL T (stopsL T.X xl xh) (stopsL T.Y yl yh)) = some p ∧ mostO (cornersL T (stopsL T.X xl xh) (stopsL T.Y yl yh)) = some q ∧ Below w.heap.size w w'

end Go.Proofs.YtfcjblnebaemgaaGreat

namespace Go.Proofs.YtfcjblnebaemgaaGreat
open Go Go.RowKit Go.Proofs

theorem Blk.newAt {g : Nat} (W : World) (t : TypeId) (cs : Array Value) (hg : g = W.heap.size) : Blk (W.alloc (.cells cs t)) g t cs := by rw [hg]; exact Blk.new W t cs

noncomputable def bndLo (T : Tbl) (xl xh yl yh : Int) : Int := match leastO (cornersL T (stopsL T.X xl xh) (stopsL T.Y yl yh)) with | some p => p.n / p.d | none => 0
noncomputable def bndHi (T : Tbl) (xl xh yl yh : Int) : Int := match mostO (cornersL T (stopsL T.X xl xh) (stopsL T.Y yl yh)) with | some p => cdiv p.n p.d | none => 0
theorem bndLo_eq {T : Tbl} {xl xh yl yh : Int} {p : Pt} (h : leastO (cornersL T (stopsL T.X xl xh) (stopsL T.Y yl yh)) = some p) : bndLo T xl xh yl yh = p.n / p.d := by unfold bndLo; rw [h]
theorem bndHi_eq {T : Tbl} {xl xh yl yh : Int} {p : Pt} (h : mostO (cornersL T (stopsL T.X xl xh) (stopsL T.Y yl yh)) = some p) : bndHi T xl xh yl yh = cdiv p.n p.d := by unfold bndHi; rw [h]

/-- A table on which a box lies. -/
structure Fits (T : Tbl) (xl xh yl yh : Int) : Prop where
  t : tblB T = true
  vx : vspan xl xh = true
  vy : vspan yl yh = true
  lx : liesB T.X xl xh = true
  ly : liesB T.Y yl yh = true
theorem vspan_le {l h : Int} (v : vspan l h = true) : l ≤ h := by unfold vspan at v; simp only [Bool.and_eq_true, inB, decide_eq_true_eq] at v; omega
theorem Fits.cp {T : Tbl} {xl xh yl yh : Int} (h : Fits T xl xh yl yh) : cpE T xl xh yl yh = 0 := by simp [cpE, h.t, h.vx, h.vy, h.lx, h.ly]

/-- The values of Part: what made says of a rounded multiple. -/
def partLo (lo num den : Int) : Int := lo * num / den
def partHi (hi num den : Int) : Int := cdiv (hi * num) den

theorem spanned1v_c (b c : Nat) (lo hi : Int) (w : World) (h0 : w.cell? ⟨b, 0, none⟩ = some (.int .i64 lo)) (h1 : w.cell? ⟨b, 1, none⟩ = some (.int .i64 hi)) :
   Calls Tryz.prog 103 #[.slice (some ⟨b, 0, none⟩) 1 c] w fun e w' => e = .returned (.int .i64 (spanE (!vspan lo hi))) ∧ Below w.heap.size w w' := by
  have h := spanned_c (some ⟨b, 0, none⟩) 1 c (fun _ => lo) (fun _ => hi) w (by omega)
    (fun _ => ⟨b, 0, rfl, blk_lt h0, fun k hk => by
      obtain rfl : k = 0 := by omega
      simpa using ⟨h0, h1⟩⟩)
  rw [anyBad1] at h
  exact h

theorem vspan_bd {l h : Int} (v : vspan l h = true) : -1000000000 ≤ l ∧ l ≤ h ∧ h ≤ 1000000000 := by unfold vspan at v; simp only [Bool.and_eq_true, inB, decide_eq_true_eq] at v; omega

end Go.Proofs.YtfcjblnebaemgaaGreat
