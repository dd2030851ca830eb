/- Plain law: what may be at a place in a tick. -/
import Derived.Test.YtfcjblnebaemgaaGreatWeE
set_option linter.all false
namespace Go.Proofs.YtfcjblnebaemgaaGreat
open Go Go.RowKit Go.Proofs

structure Sk where
  a0 : Int
  a1 : Int
  a2 : Int
  a3 : Int
  a4 : Int
  a5 : Int
  i : Bool
  s : Bool
def Sk.ok (x : Sk) : Prop := vspan x.a0 x.a1 = true ∧ vspan x.a2 x.a3 = true ∧ vspan x.a4 x.a5 = true
def Sk.cells (x : Sk) : Array Value := #[.int .i64 x.a0, .int .i64 x.a1, .int .i64 x.a2, .int .i64 x.a3, .int .i64 x.a4, .int .i64 x.a5, .bool x.i, .bool x.s]
def Sk.cut (x b : Sk) : Sk := ⟨cuL x.a0 x.a1 b.a0 b.a1, cuH x.a0 x.a1 b.a0 b.a1, cuL x.a2 x.a3 b.a2 b.a3, cuH x.a2 x.a3 b.a2 b.a3, cuL x.a4 x.a5 b.a4 b.a5, cuH x.a4 x.a5 b.a4 b.a5, x.i, x.s⟩
def Sk.odd (x b : Sk) : Bool := skF x.a0 x.a1 x.a2 x.a3 x.a4 x.a5 b.a0 b.a1 b.a2 b.a3 b.a4 b.a5
/-- What is read of a met: forecasts (0 place, 1 from, 2 to, 3 issued, 4 .. 9 spans; 10 ice, 11 storm), sights (0 place, 1 at, 2 wind, 3 see, 4 ceiling; 5 ice, 6 storm). -/
structure MetD where
  places : Int
  any : Sk
  mw : Int
  ms : Int
  mc : Int
  n : Nat
  D : Nat → Nat → Int
  B : Nat → Nat → Bool
  m : Nat
  E : Nat → Nat → Int
  C : Nat → Nat → Bool
def fcV (D : Nat → Nat → Int) (B : Nat → Nat → Bool) (i j : Nat) : Value := if j < 10 then .int .i64 (D i j) else .bool (B i j)
def siV (E : Nat → Nat → Int) (C : Nat → Nat → Bool) (i j : Nat) : Value := if j < 5 then .int .i64 (E i j) else .bool (C i j)
def MetD.fc (M : MetD) (i : Nat) : Sk := ⟨M.D i 4, M.D i 5, M.D i 6, M.D i 7, M.D i 8, M.D i 9, M.B i 10, M.B i 11⟩
def MetD.covP (M : MetD) (p t : Int) (i : Nat) : Bool := decide (M.D i 0 = p) && inB t (M.D i 1) (M.D i 2 - 1)
def MetD.cov (M : MetD) (p t : Int) (k : Nat) : List Nat := (List.range k).filter (M.covP p t)
def MetD.ordF (M : MetD) (p t : Int) : List Nat := stab (fun i => M.D i 3) (M.cov p t M.n)
def MetD.stepF (M : MetD) (x : Sk) (i : Nat) : Sk := { x.cut (M.fc i) with i := x.i && M.B i 10, s := x.s && M.B i 11 }
def MetD.skyF (M : MetD) (l : List Nat) : Sk := l.foldl M.stepF M.any
def MetD.oddF (M : MetD) : Sk → List Nat → List Nat
  | _, [] => []
  | x, i :: l => if x.odd (M.fc i) then i :: M.oddF (M.stepF x i) l else M.oddF (M.stepF x i) l
def MetD.senP (M : MetD) (p t : Int) (i : Nat) : Bool := decide (M.E i 0 = p) && decide (M.E i 1 ≤ t)
def MetD.sen (M : MetD) (p t : Int) (k : Nat) : List Nat := (List.range k).filter (M.senP p t)
def MetD.ordS (M : MetD) (p t : Int) : List Nat := stab (fun i => M.E i 1) (M.sen p t M.m)
def MetD.si (M : MetD) (t : Int) (i : Nat) : Sk := ⟨neL (M.E i 2) ((t - M.E i 1) * M.mw) 300, neH (M.E i 2) ((t - M.E i 1) * M.mw) 300, neL (M.E i 3) ((t - M.E i 1) * M.ms) 20000, neH (M.E i 3) ((t - M.E i 1) * M.ms) 20000,
  neL (M.E i 4) ((t - M.E i 1) * M.mc) 20000, neH (M.E i 4) ((t - M.E i 1) * M.mc) 20000, false, false⟩
def MetD.stepS (M : MetD) (t : Int) (x : Sk) (i : Nat) : Sk := if t - M.E i 1 = 0 then { x.cut (M.si t i) with i := M.C i 5, s := M.C i 6 } else x.cut (M.si t i)
def MetD.may (M : MetD) (p t : Int) : Sk := (M.ordS p t).foldl (M.stepS t) (M.skyF (M.ordF p t))
def MetD.odd (M : MetD) (p t : Int) : List Nat := M.oddF M.any (M.ordF p t)

/-- A met that Check accepts. -/
def Sk.inr (x : Sk) : Bool := insB x.a0 x.a1 300 && (insB x.a2 x.a3 20000 && insB x.a4 x.a5 20000)
structure MetD.Ok (M : MetD) : Prop where
  places : 1 ≤ M.places ∧ M.places ≤ 8
  any : M.any.inr = true
  mw : 0 ≤ M.mw ∧ M.mw ≤ 20000
  ms : 0 ≤ M.ms ∧ M.ms ≤ 20000
  mc : 0 ≤ M.mc ∧ M.mc ≤ 20000
  n : M.n ≤ 40
  m : M.m ≤ 20
  fp : ∀ i, i < M.n → 0 ≤ M.D i 0 ∧ M.D i 0 ≤ M.places - 1
  ff : ∀ i, i < M.n → 0 ≤ M.D i 1 ∧ M.D i 1 ≤ 2000
  ft : ∀ i, i < M.n → 0 ≤ M.D i 2 ∧ M.D i 2 ≤ 2000
  fi : ∀ i, i < M.n → 0 ≤ M.D i 3 ∧ M.D i 3 ≤ 2000
  fl : ∀ i, i < M.n → M.D i 1 < M.D i 2
  fs : ∀ i, i < M.n → (M.fc i).inr = true
  sp : ∀ i, i < M.m → 0 ≤ M.E i 0 ∧ M.E i 0 ≤ M.places - 1
  sa : ∀ i, i < M.m → 0 ≤ M.E i 1 ∧ M.E i 1 ≤ 2000
  sw : ∀ i, i < M.m → 0 ≤ M.E i 2 ∧ M.E i 2 ≤ 300
  ss : ∀ i, i < M.m → 0 ≤ M.E i 3 ∧ M.E i 3 ≤ 20000
  sc : ∀ i, i < M.m → 0 ≤ M.E i 4 ∧ M.E i 4 ≤ 20000

theorem insB_iff {lo hi m : Int} : insB lo hi m = true ↔ vspan lo hi = true ∧ 0 ≤ lo ∧ lo ≤ m ∧ hi ≤ m := by
  unfold insB; simp only [Bool.and_eq_true, decide_eq_true_eq, inB_iff]
  exact ⟨fun ⟨a, ⟨b, c⟩, d⟩ => ⟨a, b, c, d⟩, fun ⟨a, b, c, d⟩ => ⟨a, ⟨b, c⟩, d⟩⟩
theorem Sk.inr_ok {x : Sk} (h : x.inr = true) : x.ok := by
  unfold Sk.inr at h
  simp only [Bool.and_eq_true] at h
  exact ⟨(insB_iff.1 h.1).1, (insB_iff.1 h.2.1).1, (insB_iff.1 h.2.2).1⟩
/-- A cut of a span in a range by another one is one in the range. -/
theorem cu_ok {al ah bl bh m : Int} (ha : insB al ah m = true) (hb : insB bl bh m = true) : insB (cuL al ah bl bh) (cuH al ah bl bh) m = true := by
  rw [insB_iff, vspan_iff'] at *
  unfold cuL cuH
  split <;> omega
theorem Sk.cut_inr {x b : Sk} (h : x.inr = true) (hb : b.inr = true) : (x.cut b).inr = true := by
  unfold Sk.inr at *
  simp only [Bool.and_eq_true] at *
  exact ⟨cu_ok h.1 hb.1, cu_ok h.2.1 hb.2.1, cu_ok h.2.2 hb.2.2⟩
theorem ne_ok {n d m : Int} (h0 : 0 ≤ n) (h1 : n ≤ m) (h2 : 0 ≤ d) (h3 : m ≤ 1000000) : insB (neL n d m) (neH n d m) m = true := by
  rw [insB_iff, vspan_iff']
  unfold neL neH
  omega
theorem MetD.Ok.stepF {M : MetD} (h : M.Ok) {x : Sk} (hx : x.inr = true) {i : Nat} (hi : i < M.n) : (M.stepF x i).inr = true := by
  have := Sk.cut_inr hx (h.fs i hi)
  exact this
theorem MetD.Ok.si {M : MetD} (h : M.Ok) {t : Int} {i : Nat} (hi : i < M.m) (ht : M.E i 1 ≤ t) : (M.si t i).inr = true := by
  have a := h.sw i hi
  have b := h.ss i hi
  have c := h.sc i hi
  have d : 0 ≤ t - M.E i 1 := by omega
  have e1 := Int.mul_nonneg d h.mw.1
  have e2 := Int.mul_nonneg d h.ms.1
  have e3 := Int.mul_nonneg d h.mc.1
  unfold Sk.inr MetD.si
  simp only [Bool.and_eq_true]
  exact ⟨ne_ok a.1 a.2 e1 (by omega), ne_ok b.1 b.2 e2 (by omega), ne_ok c.1 c.2 e3 (by omega)⟩
theorem MetD.Ok.stepS {M : MetD} (h : M.Ok) {t : Int} {x : Sk} (hx : x.inr = true) {i : Nat} (hi : i < M.m) (ht : M.E i 1 ≤ t) : (M.stepS t x i).inr = true := by
  have := Sk.cut_inr hx (h.si hi ht)
  unfold MetD.stepS
  split
  · exact this
  · exact this

theorem stab_mem {key : Nat → Int} {l : List Nat} {x : Nat} : x ∈ stab key l ↔ x ∈ l := by unfold stab; exact List.mem_mergeSort
theorem MetD.cov_lt {M : MetD} {p t : Int} {k i : Nat} (h : i ∈ M.cov p t k) : i < k := by
  unfold MetD.cov at h; exact List.mem_range.1 (List.mem_filter.1 h).1
theorem MetD.sen_lt {M : MetD} {p t : Int} {k i : Nat} (h : i ∈ M.sen p t k) : i < k ∧ M.E i 1 ≤ t := by
  unfold MetD.sen at h
  have h2 := (List.mem_filter.1 h).2
  unfold MetD.senP at h2
  simp only [Bool.and_eq_true, decide_eq_true_eq] at h2
  exact ⟨List.mem_range.1 (List.mem_filter.1 h).1, h2.2⟩
theorem MetD.cov_succ (M : MetD) (p t : Int) (k : Nat) : M.cov p t (k + 1) = M.cov p t k ++ (if M.covP p t k then [k] else []) := by
  unfold MetD.cov; rw [List.range_succ, List.filter_append]; simp [List.filter]; cases M.covP p t k <;> rfl
theorem MetD.sen_succ (M : MetD) (p t : Int) (k : Nat) : M.sen p t (k + 1) = M.sen p t k ++ (if M.senP p t k then [k] else []) := by
  unfold MetD.sen; rw [List.range_succ, List.filter_append]; simp [List.filter]; cases M.senP p t k <;> rfl
theorem MetD.cov_len (M : MetD) (p t : Int) (k : Nat) : (M.cov p t k).length ≤ k := by
  unfold MetD.cov; exact Nat.le_trans (List.length_filter_le _ _) (by simp)
theorem MetD.sen_len (M : MetD) (p t : Int) (k : Nat) : (M.sen p t k).length ≤ k := by
  unfold MetD.sen; exact Nat.le_trans (List.length_filter_le _ _) (by simp)
theorem MetD.cov_inc (M : MetD) (p t : Int) (k : Nat) : (M.cov p t k).Pairwise (· < ·) := List.Pairwise.filter _ List.pairwise_lt_range
theorem MetD.sen_inc (M : MetD) (p t : Int) (k : Nat) : (M.sen p t k).Pairwise (· < ·) := List.Pairwise.filter _ List.pairwise_lt_range
end Go.Proofs.YtfcjblnebaemgaaGreat
