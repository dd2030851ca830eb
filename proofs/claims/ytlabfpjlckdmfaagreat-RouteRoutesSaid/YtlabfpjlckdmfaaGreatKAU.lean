/- Texts joined: KAU. -/
import Derived.Test.YtlabfpjlckdmfaaGreatKZF
import Derived.Test.YtlabfpjlckdmfaaGreatKAT
import Derived.Great.CaseRows
import Derived.Deep.WholeRow
import Derived.Test.YtlabfpjlckdmfaaGreatKAE
import Derived.Deep.Cut
import Derived.OwnWalkIn
import Derived.TacticsInMore
set_option linter.all false
namespace Go.Proofs.YtlabfpjlckdmfaaGreat
open Go Go.RowKit Go.Proofs
set_option maxRecDepth 100000
set_option maxHeartbeats 8000000
theorem ixNum_c (v : Value) (n : Nat) (R : Nat → Int) (x : Int) (w : World) (hA : SlI w v n R) :
  Calls Tryz.prog 83 #[v, .int .i64 x] w fun e w' => ∃ r : Int, e = .returned (.int .i64 r) ∧ (0 ≤ r ↔ ∃ i, i < n ∧ R i = x) ∧ w = w' := by
 obtain ⟨A, c, rfl, h1, h2, hA⟩ := hA
 have HA := hI9 hA
 clear hA
 go_enter Tryz.func83, Tryz.ntmps83
 go_wp2_with (fail)
 go_loopg [8] n (fun gx v wr => ∃ k : Nat, v = .int .i64 k ∧ k ≤ n ∧ n - k ≤ gx ∧ w = wr ∧ Hid (∀ j, j < k → R j ≠ x))
 case atStart => exact ⟨0, rfl, Nat.zero_le _, Nat.le_refl _, rfl, hI9 fun j hj => absurd hj (Nat.not_lt_zero _)⟩
 case round =>
  obtain ⟨k, rfl, hk, hgx, rfl, HP⟩ := hrel
  by_cases hlt : k < n
  ·have hltz : (k : Int) < (n : Int) := by omega
   obtain ⟨b1, o1, rfl, hb1, hc1⟩ := HA.out (by omega)
   have p0 : w.cell? ⟨b1, o1 + k, none⟩ = some (.int .i64 (R k)) := by have := hc1 k hlt 0 (by omega); rw [Nat.add_zero, Nat.mul_one] at this; exact this
   clear hc1
   by_cases e : x = R k
   ·have HH := hI9 (show (0 : Int) ≤ (k : Int) ↔ ∃ i, i < n ∧ R i = x from ⟨fun _ => ⟨k, hlt, e.symm⟩, fun _ => Int.natCast_nonneg k⟩)
    rw [← e] at p0
    clear e
    go_wp2_with (fail)
    go_ret
    exact ⟨_, rfl, HH.out, rfl⟩
   ·have he : (x == R k) = false := by simpa using e
    have HE := hI9 e
    clear e
    go_wp2_with (fail)
    go_roundg (n - (k + 1))
    case measure => omega
    case rel => exact ⟨k + 1, by first | rfl | go_num | (congr 1; omega), by omega, Nat.le_refl _, rfl, hI9 fun j hj => by
     by_cases e : j = k
     ·subst e; exact fun q => HE.out q.symm
     ·exact HP.out j (by omega)⟩
  ·obtain rfl : n = k := by omega
   have hnz : ¬ (n : Int) < (n : Int) := by omega
   go_wp2_with (fail)
   go_ret
   exact ⟨_, rfl, ⟨fun h => by omega, fun ⟨i, hi, q⟩ => absurd q (HP.out i hi)⟩, rfl⟩
theorem ctNum_c (v : Value) (n : Nat) (R : Nat → Int) (x : Int) (w : World) (hA : SlI w v n R) :
  Calls Tryz.prog 57 #[v, .int .i64 x] w fun e w' => ∃ b : Bool, e = .returned (.bool b) ∧ (b = true ↔ ∃ i, i < n ∧ R i = x) ∧ w = w' := by
 have HI := hI9 (ixNum_c v n R x w hA)
 clear hA
 go_enter Tryz.func57, Tryz.ntmps57
 go_wp2_with (go_at_call 83; (with_reducible refine HI.out.mono ?_); rintro e w1 ⟨r, rfl, hr, rfl⟩)
 go_ret
 exact ⟨_, rfl, by simpa using hr, rfl⟩
end Go.Proofs.YtlabfpjlckdmfaaGreat

namespace Go.Proofs.YtlabfpjlckdmfaaGreat
open Go Go.RowKit Go.Proofs
set_option maxRecDepth 100000
set_option maxHeartbeats 8000000
def prfR (bf : Int → Option HavD) : Nat → Int → List HavD → List HavD × Int × Bool
 | 0, _, l => (l, 0, true)
 | n + 1, t, l => match bf t with
  | none => ([], t, false)
  | some h => prfR bf n (t + 1) (l ++ [h])
def FliD.prf (F : FliD) (lt tt : Tab) (op : Nat → Int → Bool) (P : Nat) : List HavD × Int × Bool := prfR (fun t => bestL (F.havK lt tt op t false P)) (F.ticks lt) F.dep []
theorem fproof_c (M : MetD) (vF vS v vN : Value) (P : Nat) (lt tt : Tab) (F : FliD) (vR : Value) (lw ls lc : Int) (li lb : Bool) (w : World) (h : FliAt w v vN M vF vS P lt tt F vR lw ls lc li lb) (hM : MetAt w vF vS M) (hP : M.places = P) (hp8 : P ≤ 8) (hok : F.ok P lt) (hl : LegIn P lt) (htt : TabIn P 51200 tt) :
  Calls Tryz.prog 38 #[v] w fun e w' => ∃ vO, e = .returned (.tuple #[vO, .int .i64 (F.prf lt tt (opM M lw ls lc li lb) P).2.1, .bool (F.prf lt tt (opM M lw ls lc li lb) P).2.2]) ∧ RowKit.Below w.heap.size w w' ∧ SlH w' vO (F.prf lt tt (opM M lw ls lc li lb) P).1 := by
 obtain ⟨op, hop⟩ : ∃ op : Nat → Int → Bool, op = opM M lw ls lc li lb := ⟨_, rfl⟩
 have hhv := fun t w1 h hm h0 h1 => fhavens_c M vF vS v vN P lt tt F vR lw ls lc li lb t false w1 h hm hP hp8 hok hl htt h0 h1
 rw [← hop] at hhv ⊢
 have HHV := hI9 hhv
 have hnu := FliD.nums_iff.1 hok.1
 have har := fun w1 h => arrival_c M vF vS v vN P lt tt F vR lw ls lc li lb w1 h hnu.1.1
 have hen := hok.2.2
 have hdp : F.dep ≤ F.at_ lt (F.m - 1) := by
  have hmono : ∀ i, F.flown P lt (i + 1) → F.dep ≤ F.at_ lt i := by
   intro i
   induction i with
   | zero => intro _; exact Int.le_refl _
   | succ i ih =>
    intro hf
    have := ih ⟨fun j hj => hf.1 j (by omega), fun j hj => hf.2 j (by omega)⟩
    have := hf.2 i (by omega)
    show F.dep ≤ F.at_ lt i + lt (F.R i).toNat (F.R (i + 1)).toNat
    omega
  exact hmono _ ⟨fun j hj => hok.2.1.1 j (by omega), fun j hj => hok.2.1.2 j (by omega)⟩
 obtain ⟨ar, har0⟩ : ∃ ar, ar = F.at_ lt (F.m - 1) := ⟨_, rfl⟩
 rw [← har0] at har hen hdp
 obtain ⟨R, hR⟩ : ∃ R, R = F.prf lt tt op P := ⟨_, rfl⟩
 rw [← hR]
 have hR2 : prfR (fun t => bestL (F.havK lt tt op t false P)) ((ar - F.dep + 1).toNat - 0) (F.dep + (0 : Nat)) [] = R := by
  rw [hR]; unfold FliD.prf FliD.ticks FliD.arr; rw [← har0, Nat.sub_zero]; simp
 have HR := hI9 hR2
 have HAR0 := hI9 har0
 have HAR := hI9 har
 have HF := hI9 h
 have HM := hI9 hM
 obtain ⟨gx, vA, rfl, hx, hN, -⟩ := h
 obtain ⟨gN, gL, gT, cL, cT, rL, rT, loL, hiL, loT, hiT, rfl, n1, -, -⟩ := hN
 have x2 := hx.cell 2
 simp only [gtA, gtS, gtZ] at x2
 clear hM hP hok hl htt hop hhv har har0 hR hR2 hx n1
 obtain ⟨-, hd, -⟩ := hnu
 generalize hdv : F.dep = dep at *
 obtain ⟨n, hn⟩ : ∃ n, n = (ar - dep + 1).toNat := ⟨_, rfl⟩
 have hnz : (n : Int) = ar - dep + 1 := by omega
 rw [← hn] at HR
 have HD := hI9 hdv
 have hn2 : n ≤ 2001 := by omega
 clear hn hdv
 go_enter Tryz.func38, Tryz.ntmps38
 go_wp2_with (fail)
 go_loopg [2, 5] n (fun gy ov iv wr => ∃ (j : Nat) (l : List HavD), iv = .int .i64 (dep + j) ∧ j ≤ n ∧ n - j ≤ gy ∧ l.length ≤ j ∧ Hid (prfR (fun t => bestL (F.havK lt tt op t false P)) (n - j) (dep + j) l = R) ∧ Hid (HvK l ov w wr))
 case atStart => exact ⟨0, [], by first | rfl | simp, Nat.zero_le _, Nat.sub_le _ _, Nat.le_refl _, HR, hI9 ⟨RowKit.Below.refl _ _, World.ownsRow_nil _ _ _ _⟩⟩
 case round =>
  clear x2 HR
  obtain ⟨j, l, rfl, hj, hgy, hlj, HR, K0⟩ := hrel
  by_cases hlt : j < n
  case pos =>
   have hle : dep + (j : Int) ≤ ar := by omega
   have hjb : (j : Int) ≤ 2000 := by omega
   go_wp2_with (first | (go_at_call 31; refine (HAR.out _ (HF.out.below K0.out.b)).mono ?_; rintro e w2 ⟨rfl, hb2⟩; have nK := hI9 (K0.out.below hb2); clear hb2 K0; have K0 := nK; clear nK))
   refine (HHV.out _ _ (HF.out.below K0.out.b) (HM.out.below K0.out.b) (by omega) (by rw [← HAR0.out]; omega)).mono ?_
   rintro e w3 ⟨vO, rfl, hb3, hO⟩
   obtain ⟨AO, cO, rfl, -, -, hO⟩ := hO
   have hbe := hvbest_c AO cO _ w3 (by have := FliD.havK_len (F := F) (lt := lt) (tt := tt) (op := op) (t := dep + (j : Int)) (dry := false) P; omega) hO
   obtain ⟨i, hi⟩ : ∃ i, n - j = i + 1 := ⟨n - j - 1, by omega⟩
   have hRR := HR.out
   rw [hi] at hRR
   unfold prfR at hRR
   have nK := hI9 (K0.out.below hb3)
   clear hO hb3 K0 HR
   have K0 := nK
   clear nK
   cases hbs : bestL (F.havK lt tt op (dep + (j : Int)) false P) with
   | none =>
    rw [hbs] at hbe hRR
    obtain rfl : R = ([], dep + (j : Int), false) := hRR.symm
    simp only [Option.getD_none, Option.isSome_none] at hbe
    unfold hvC hvz at hbe
    go_wp2_with (fail)
    refine hbe.mono ?_
    clear hbe
    rintro e w4 ⟨rfl, hb4⟩
    have HB4 := hI9 (bthen K0.out.b hb4)
    clear hb4 K0
    go_wp2_with (fail)
    go_ret3
    exact ⟨_, rfl, bal HB4.out _, ⟨none, 0, rfl, Nat.le_refl _, by decide, fun h => absurd h (Nat.lt_irrefl _)⟩⟩
   | some x =>
    rw [hbs] at hbe hRR
    obtain ⟨xp, xt, xb⟩ := x
    simp only [Option.getD_some, Option.isSome_some] at hbe
    unfold hvC at hbe
    dsimp only at hbe hRR
    have HRR := hI9 hRR
    clear hRR hbs
    go_wp2_with (fail)
    refine hbe.mono ?_
    clear hbe
    rintro e w4 ⟨rfl, hb4⟩
    have nK := hI9 (K0.out.below (bal hb4 (.cells #[.int .i64 (xp : Int), .int .i64 xt, .bool xb] 67)))
    clear hb4 K0
    have hw4 : w.heap.size ≤ w4.heap.size + 1 := by have := nK.out.b.size; simp at this; omega
    go_wp2_with (first | (at_builtin; refine wpl_appH rfl _ _ rfl w.heap.size u2 l.length _ rfl (ownsRow_below nK.out.o (bal (RowKit.Below.refl _ _) _)) (w4.heap.size + 1) (xp : Int) xt xb rfl ?aZ ?cZ ?dZ (by omega) ?bZ ?_))
    (try case aZ => exact (Blk.newA (g := w4.heap.size + 1) _ _ _ (by simp)).cell 0)
    (try case cZ => exact (Blk.newA (g := w4.heap.size + 1) _ _ _ (by simp)).cell 1)
    (try case dZ => exact (Blk.newA (g := w4.heap.size + 1) _ _ _ (by simp)).cell 2)
    case bZ => simp; omega
    intro v' w6 ho hg
    have nK2 := hI9 (HvK.app (x := ⟨xp, xt, xb⟩) (nK.out.below (bal (RowKit.Below.refl _ _) _)) ho.out hg.out)
    go_wp2_with (fail)
    go_roundg (n - (j + 1))
    case measure => omega
    case rel => exact ⟨j + 1, l ++ [⟨xp, xt, xb⟩], by first | rfl | go_num | (congr 1; omega), by omega, by omega, by simp; omega, hI9 (by rw [show n - (j + 1) = i by omega, show dep + ((j + 1 : Nat) : Int) = dep + (j : Int) + 1 by omega]; exact HRR.out), nK2⟩
  obtain rfl : n = j := by omega
  have hgt : ¬ dep + (n : Int) ≤ ar := by omega
  have hRR := HR.out
  rw [Nat.sub_self] at hRR
  obtain rfl : R = (l, 0, true) := hRR.symm
  go_wp2_with (first | (go_at_call 31; refine (HAR.out _ (HF.out.below K0.out.b)).mono ?_; rintro e w2 ⟨rfl, hb2⟩; have nK := hI9 (K0.out.below hb2); clear hb2))
  go_ret3
  exact ⟨_, rfl, nK.out.b, SlH.of_owns nK.out.o⟩
end Go.Proofs.YtlabfpjlckdmfaaGreat

namespace Go.Proofs.YtlabfpjlckdmfaaGreat
open Go Go.RowKit Go.Proofs
def rtsL (P : Nat) (lt : Tab) (tgt : Nat) : Nat → List Nat → Nat → List (List Nat)
 | 0, ys, a => if a = tgt then [ys] else []
 | f + 1, ys, a => if a = tgt then [ys] else (List.range P).flatMap fun p => if lt a p < 0 ∨ p ∈ ys then [] else rtsL P lt tgt f (ys ++ [p]) p
def rtsK (P : Nat) (lt : Tab) (tgt f : Nat) (ys : List Nat) (a k : Nat) : List (List Nat) := (List.range k).flatMap fun p => if lt a p < 0 ∨ p ∈ ys then [] else rtsL P lt tgt f (ys ++ [p]) p
theorem rtsL_end {P : Nat} {lt : Tab} {tgt f : Nat} {ys : List Nat} {a : Nat} (h : a = tgt) : rtsL P lt tgt f ys a = [ys] := by
 cases f <;> (unfold rtsL; rw [if_pos h])
theorem rtsL_none {P : Nat} {lt : Tab} {tgt : Nat} {ys : List Nat} {a : Nat} (h : a ≠ tgt) : rtsL P lt tgt 0 ys a = [] := by
 unfold rtsL; rw [if_neg h]
theorem rtsL_on {P : Nat} {lt : Tab} {tgt f : Nat} {ys : List Nat} {a : Nat} (h : a ≠ tgt) : rtsL P lt tgt (f + 1) ys a = rtsK P lt tgt f ys a P := by
 rw [rtsL, if_neg h]; rfl
theorem rtsK_zero {P : Nat} {lt : Tab} {tgt f : Nat} {ys : List Nat} {a : Nat} : rtsK P lt tgt f ys a 0 = [] := rfl
theorem rtsK_skip {P : Nat} {lt : Tab} {tgt f : Nat} {ys : List Nat} {a k : Nat} (h : lt a k < 0 ∨ k ∈ ys) : rtsK P lt tgt f ys a (k + 1) = rtsK P lt tgt f ys a k := by
 unfold rtsK
 rw [List.range_succ, List.flatMap_append]
 simp [h]
theorem rtsK_take {P : Nat} {lt : Tab} {tgt f : Nat} {ys : List Nat} {a k : Nat} (h : ¬ (lt a k < 0 ∨ k ∈ ys)) : rtsK P lt tgt f ys a (k + 1) = rtsK P lt tgt f ys a k ++ rtsL P lt tgt f (ys ++ [k]) k := by
 unfold rtsK
 rw [List.range_succ, List.flatMap_append]
 simp [h]
def FliD.wayR (F : FliD) (xs : List Nat) : FliD := { F with m := xs.length, R := fun i => ((xs.getD i 0 : Nat) : Int) }
def FliD.goodR (F : FliD) (P : Nat) (lt tt : Tab) (op : Nat → Int → Bool) (xs : List Nat) : Bool := (F.wayR xs).okB P lt && ((F.wayR xs).prf lt tt op P).2.2
def FliD.finR (F : FliD) (lt : Tab) (xs : List Nat) : Int := (F.wayR xs).arr lt
def FliD.betR (F : FliD) (lt : Tab) (b : Option (List Nat)) (xs : List Nat) : Bool := match b with
 | none => true
 | some ys => decide (F.finR lt xs < F.finR lt ys) || (decide (F.finR lt xs = F.finR lt ys) && decide (xs.length < ys.length))
def FliD.stepRt (F : FliD) (P : Nat) (lt tt : Tab) (op : Nat → Int → Bool) (b : Option (List Nat)) (xs : List Nat) : Option (List Nat) := if F.goodR P lt tt op xs && F.betR lt b xs then some xs else b
def FliD.bestR (F : FliD) (P : Nat) (lt tt : Tab) (op : Nat → Int → Bool) (l : List (List Nat)) : Option (List Nat) := l.foldl (F.stepRt P lt tt op) none
theorem FliD.bestR_snoc (F : FliD) (P : Nat) (lt tt : Tab) (op : Nat → Int → Bool) (l : List (List Nat)) (xs : List Nat) : F.bestR P lt tt op (l ++ [xs]) = F.stepRt P lt tt op (F.bestR P lt tt op l) xs := by
 unfold FliD.bestR
 rw [List.foldl_append]
 rfl
def FliD.LeastR (F : FliD) (P : Nat) (lt tt : Tab) (op : Nat → Int → Bool) (l : List (List Nat)) : Option (List Nat) → Prop
 | none => ∀ xs ∈ l, F.goodR P lt tt op xs = false
 | some ys => ys ∈ l ∧ F.goodR P lt tt op ys = true ∧ ∀ xs ∈ l, F.goodR P lt tt op xs = true → F.finR lt ys < F.finR lt xs ∨ (F.finR lt ys = F.finR lt xs ∧ ys.length ≤ xs.length)
theorem FliD.least_step {F : FliD} {P : Nat} {lt tt : Tab} {op : Nat → Int → Bool} {l : List (List Nat)} {b : Option (List Nat)} (xs : List Nat) (h : F.LeastR P lt tt op l b) : F.LeastR P lt tt op (l ++ [xs]) (F.stepRt P lt tt op b xs) := by
 unfold FliD.stepRt
 cases hg : F.goodR P lt tt op xs
 ·rw [Bool.false_and, if_neg (by decide)]
  cases b with
  | none =>
   intro ys hy
   rcases List.mem_append.1 hy with q | q
   ·exact h ys q
   ·rw [List.mem_singleton] at q; subst q; exact hg
  | some ys =>
   refine ⟨List.mem_append.2 (Or.inl h.1), h.2.1, fun zs hz hq => ?_⟩
   rcases List.mem_append.1 hz with q | q
   ·exact h.2.2 zs q hq
   ·rw [List.mem_singleton] at q; subst q; rw [hg] at hq; cases hq
 ·rw [Bool.true_and]
  cases b with
  | none =>
   rw [if_pos (by rfl)]
   refine ⟨by simp, hg, fun zs hz hq => ?_⟩
   rcases List.mem_append.1 hz with q | q
   ·rw [h zs q] at hq; cases hq
   ·rw [List.mem_singleton] at q; subst q; exact Or.inr ⟨rfl, Nat.le_refl _⟩
  | some ys =>
   show F.LeastR P lt tt op (l ++ [xs]) (if (decide (F.finR lt xs < F.finR lt ys) || (decide (F.finR lt xs = F.finR lt ys) && decide (xs.length < ys.length))) = true then some xs else some ys)
   split
   ·rename_i hb
    simp only [Bool.or_eq_true, Bool.and_eq_true, decide_eq_true_eq] at hb
    refine ⟨by simp, hg, fun zs hz hq => ?_⟩
    rcases List.mem_append.1 hz with q | q
    ·have := h.2.2 zs q hq
     omega
    ·rw [List.mem_singleton] at q; subst q; exact Or.inr ⟨rfl, Nat.le_refl _⟩
   ·rename_i hb
    simp only [Bool.or_eq_true, Bool.and_eq_true, decide_eq_true_eq] at hb
    refine ⟨List.mem_append.2 (Or.inl h.1), h.2.1, fun zs hz hq => ?_⟩
    rcases List.mem_append.1 hz with q | q
    ·exact h.2.2 zs q hq
    ·rw [List.mem_singleton] at q; subst q; omega
theorem FliD.least_best (F : FliD) (P : Nat) (lt tt : Tab) (op : Nat → Int → Bool) (l : List (List Nat)) : F.LeastR P lt tt op l (F.bestR P lt tt op l) := by
 have : ∀ (r l : List (List Nat)) (b : Option (List Nat)), F.LeastR P lt tt op l b → F.LeastR P lt tt op (l ++ r) (r.foldl (F.stepRt P lt tt op) b) := by
  intro r
  induction r with
  | nil => intro l b h; simpa using h
  | cons x r ih =>
   intro l b h
   have := ih (l ++ [x]) _ (FliD.least_step x h)
   rw [List.append_assoc] at this
   exact this
 exact this l [] none (fun xs h => by cases h)
end Go.Proofs.YtlabfpjlckdmfaaGreat

namespace Go.Proofs.YtlabfpjlckdmfaaGreat
open Go Go.RowKit Go.Proofs
set_option maxRecDepth 100000
set_option maxHeartbeats 8000000
theorem wpl_recr {P : Program} {ops : Array Oper} {rest : List Oper} {o : Oper} {a : Act} {w : World} {Q : Exit → Act → World → Prop} (hg : o.guard = none) (t e : TypeId) (len : Nat) (parts : Array (Nat × Operand)) (s : Nat) (vs : List Value) (V : Nat → Nat → Value)
  (ho : o.op = .buildSlice t len parts) (hu : P.underlying t = some (.slice e)) (hsz : (P.info? e).map (·.size) = some s) (hz : ((P.info? e).bind (·.zero)).isSome = true)
  (hlen : len = vs.length) (hs : 0 < s) (hpos : 0 < len) (hsmall : len * s ≤ 2 ^ 24) (h1 : ∀ v ∈ vs, v.cells.size = s)
  (hparts : (parts.toList.map fun (i, x) => (i, a.eval x)) = (vs.zipIdx 0).map fun x => (x.2, x.1))
  (hV : (vs.flatMap fun v => v.cells.toList) = (List.range (len * s)).map fun q => V (q / s) (q % s))
  (h : ∀ g w', Below w.heap.size w w' → w.heap.size ≤ g → RecsAt w' (some ⟨g, 0, none⟩) len s V → wpList P ops Q rest (a.put o.dst (.slice (some ⟨g, 0, none⟩) len len)) w') : wpList P ops Q (o :: rest) a w := by
 cases hie : P.info? e with
 | none => simp [hie] at hsz
 | some ie =>
  simp only [hie, Option.map_some, Option.some.injEq, Option.bind_some] at hsz hz
  obtain ⟨z, hzz⟩ := Option.isSome_iff_exists.1 hz
  have hp := Nat.mul_pos hpos hs
  refine wpList_buildSlice hg t e len parts ho (vs.flatMap fun v => v.cells.toList).toArray ie z hu hie hzz (by rw [hsz]; omega) (by rw [hsz]; omega) ?_ ?_
  ·rw [Array.toList_map, hparts, hsz]
   exact Great.fill_whole hs vs _ h1 (by simp [hlen])
  ·refine h w.heap.size _ (bal (Below.refl _ _) _) (Nat.le_refl _) ?_
   rw [hV]
   intro _
   refine ⟨w.heap.size, 0, rfl, by simp, fun i hi j hj => ?_⟩
   have hlt : i * s + j < len * s := by
    have : (i + 1) * s ≤ len * s := Nat.mul_le_mul_right s hi
    rw [Nat.add_mul] at this; omega
   rw [Nat.zero_add, cell_of_row _ w.heap.size (i * s + j) _ e (0, 0) (World.alloc_heap_new w _)]
   simp only [List.getElem?_toArray, List.getElem?_map, List.getElem?_range hlt, Option.map_some]
   rw [Nat.mul_comm i s, Nat.mul_add_div hs, Nat.mul_add_mod, Nat.div_eq_of_lt hj, Nat.mod_eq_of_lt hj, Nat.add_zero]
theorem wpl_buildr {P : Program} {ops : Array Oper} {rest : List Oper} {o : Oper} {a : Act} {w : World} {Q : Exit → Act → World → Prop} (hg : o.guard = none) (t : TypeId) (parts : Array (Nat × Operand)) (ho : o.op = .build t parts)
  (cs : Array Value) (hf : P.built t (parts.toList.map fun (i, x) => (i, a.eval x)) = some cs)
  (h : wpList P ops Q rest (a.put o.dst (.agg cs)) w) : wpList P ops Q (o :: rest) a w :=
 wpList_build hg t parts ho (by rw [Array.toList_map, hf]; rfl) (by rw [Array.toList_map, hf]; exact h)
theorem wpl_store_newR {P : Program} {ops : Array Oper} {rest : List Oper} {o : Oper} {a : Act} {w : World} {Q : Exit → Act → World → Prop} (hgd : o.guard = none) (ty : TypeId) (x y : Operand) (ho : o.op = .store ty x y)
  (cells old : Array Value) (g : Nat) (hx : a.eval x = .pointer (some ⟨g, 0, none⟩)) (hg : g = w.heap.size) (hy : a.eval y = .agg cells) (hi : (P.info? ty).map (·.size) = some cells.size)
  (hold : old.size = cells.size) (h1 : cells.all (·.oneCell') = true)
  (h : wpList P ops Q rest (a.put o.dst undef) (w.alloc (.cells cells ty))) : wpList P ops Q (o :: rest) a (w.alloc (.cells old ty)) := by
 subst hg
 refine wpList_store_row hgd ty x y ho w.heap.size cells hx hy ty old (World.alloc_heap_new w _) hi hold h1 ?_
 rw [World.setRow_alloc_new]; exact h
theorem res_cc2r {P : Program} {w : World} {fn : Func} {p q : Tmp} {ty ty' : TypeId} (h : fn.results = #[.cell p ty, .cell q ty']) (tmps : Array Value) (g g' : Nat) (cs cs' : Array Value) (n n' : Nat) (hp : tmps.getD p undef = .pointer (some ⟨g, 0, none⟩)) (hq : tmps.getD q undef = .pointer (some ⟨g', 0, none⟩))
  (hB : w.heap[g]? = some (.cells cs ty (0, 0))) (hr : RowTy P ty n) (hn : cs.size = n) (hB' : w.heap[g']? = some (.cells cs' ty' (0, 0))) (hr' : RowTy P ty' n') (hn' : cs'.size = n') : (results fn tmps).run P w = .ok (.tuple #[.agg cs, .agg cs']) w := by
 have hp' : tmps[p]?.getD undef = .pointer (some ⟨g, 0, none⟩) := by simpa using hp
 have hq' : tmps[q]?.getD undef = .pointer (some ⟨g', 0, none⟩) := by simpa using hq
 simp [results, h, hp', hq', asAddr, run_row hB hr hn, run_row hB' hr' hn']
theorem Tryz.fcSr : (Tryz.prog.info? 98).map (·.size) = some 12 := by kernel_rfl
theorem Tryz.fcZr : ((Tryz.prog.info? 98).bind (·.zero)).isSome = true := by kernel_rfl
end Go.Proofs.YtlabfpjlckdmfaaGreat

namespace Go.Proofs.YtlabfpjlckdmfaaGreat
open Go Go.RowKit Go.Proofs
set_option maxRecDepth 100000
set_option maxHeartbeats 8000000
def RdK (n0 B gT gN : Nat) (w w' : World) : Prop := RowKit.Below n0 w w' ∧ w'.heap[gT]? = w.heap[gT]? ∧ w'.heap[gN]? = w.heap[gN]? ∧ ∀ b, B ≤ b → b < w.heap.size → w'.heap[b]? = w.heap[b]?
def RtStep (B : Nat) (q : Option Nat) (w w' : World) : Prop := RowKit.Below B w w' ∧ ∀ b, q = some b → w'.heap[b]? = w.heap[b]?
def rF (xs : List Nat) (i : Nat) : Int := ((xs.getD i 0 : Nat) : Int)
def rV (xs : List Nat) : List Value := List.map (fun p : Nat => Value.int .i64 (p : Int)) xs
structure RtS (w0 : World) (B gR gT gY gN gX l tgt : Nat) (vN : Value) (q : Option Nat) (xs : List Nat) (v : Value) (w : World) : Prop where
 b : RowKit.Below w0.heap.size w0 w
 t : Blk w gT 3 #[.int .i64 (tgt : Int)]
 n : Blk w gN 70 #[vN]
 y : Blk w gY 58 #[.func (.yield l) #[] #[]]
 x : Blk w gX 40 #[.func (.func 56) #[] #[.pointer (some ⟨gR, 0, none⟩), .pointer (some ⟨gT, 0, none⟩), .pointer (some ⟨gY, 0, none⟩), .pointer (some ⟨gN, 0, none⟩), .pointer (some ⟨gX, 0, none⟩)]]
 r : Blk w gR 35 #[v]
 o : w.ownsRow B 3 1 v xs.length (rV xs)
 qo : ∀ b, q = some b → some b ≠ v.ownBlock ∧ b ≠ gR ∧ b < w.heap.size
 g : w0.heap.size ≤ B ∧ w0.heap.size ≤ gT ∧ gT < B ∧ w0.heap.size ≤ gN ∧ gN < B ∧ B ≤ gR ∧ B ≤ gY ∧ B ≤ gX
theorem RtS.below {w0 : World} {B gR gT gY gN gX l tgt : Nat} {vN : Value} {q : Option Nat} {xs : List Nat} {v : Value} {w w' : World} (h : RtS w0 B gR gT gY gN gX l tgt vN q xs v w) (hb : RowKit.Below w.heap.size w w') : RtS w0 B gR gT gY gN gX l tgt vN q xs v w' :=
 ⟨bthen h.b hb, h.t.below hb, h.n.below hb, h.y.below hb, h.x.below hb, h.r.below hb, ownsRow_below h.o hb, fun b e => ⟨(h.qo b e).1, (h.qo b e).2.1, Nat.lt_of_lt_of_le (h.qo b e).2.2 hb.size⟩, h.g⟩
theorem rV_len (xs : List Nat) : (rV xs).length = xs.length := by unfold rV; simp
theorem rV_snoc (xs : List Nat) (p : Nat) : rV (xs ++ [p]) = rV xs ++ [.int .i64 (p : Int)] := by unfold rV; simp
theorem rV_at {xs : List Nat} {i : Nat} (h : i < xs.length) : (rV xs)[i]? = some (.int .i64 (rF xs i)) := by
 unfold rV rF
 rw [List.getElem?_map, List.getElem?_eq_getElem h, List.getD_eq_getElem?_getD, List.getElem?_eq_getElem h]
 rfl
theorem RtS.round {w0 : World} {B gR gT gY gN gX l tgt : Nat} {vN : Value} {q : Option Nat} {xs : List Nat} {v : Value} {w w' : World} (h : RtS w0 B gR gT gY gN gX l tgt vN q xs v w) (hk : RdK w0.heap.size B gT gN w w') {q2 : Option Nat} (hq2 : q2 = q ∨ ∃ g, q2 = some g ∧ w.heap.size ≤ g ∧ g < w'.heap.size) : RtS w0 B gR gT gY gN gX l tgt vN q2 xs v w' := by
 obtain ⟨k1, k2, k3, k4⟩ := hk
 obtain ⟨g0, g1, g2, g3, g4, g5, g6, g7⟩ := h.g
 refine ⟨h.b.trans k1, k2.trans h.t, k3.trans h.n, (k4 gY g6 h.y.lt).trans h.y, (k4 gX g7 h.x.lt).trans h.x, (k4 gR g5 h.r.lt).trans h.r, ?_, ?_, h.g⟩
 case refine_2 =>
  intro b e
  rcases hq2 with rfl | ⟨g, rfl, q1, q2⟩
  ·exact ⟨(h.qo b e).1, (h.qo b e).2.1, Nat.lt_of_lt_of_le (h.qo b e).2.2 k1.size⟩
  ·cases e
   refine ⟨fun e => ?_, fun e => ?_, q2⟩
   ·have := (ownLt h.o e).2; omega
   ·have := h.r.lt; omega
 obtain ⟨o1, o2⟩ := h.o
 refine ⟨o1, ?_⟩
 rcases o2 with q | ⟨k, cap, cur, q1, q2, q3, q4⟩
 ·exact Or.inl q
 ·exact Or.inr ⟨k, cap, cur, q1, q2, (k4 k q2 (Array.getElem?_eq_some_iff.1 q3).1).trans q3, q4⟩
theorem RtS.push {w0 : World} {B gR gT gY gN gX l tgt : Nat} {vN : Value} {q : Option Nat} {xs : List Nat} {v v' : Value} {w w1 w2 : World} {p : Nat} (h : RtS w0 B gR gT gY gN gX l tgt vN q xs v w) (hb : RowKit.Below w.heap.size w w1)
  (ho : w2.ownsRow B 3 1 v' (xs.length + 1) (rV xs ++ [.int .i64 (p : Int)])) (hg : w1.grownBy w2 v.ownBlock) (hv : v'.ownBlock = v.ownBlock ∨ v'.ownBlock = some w1.heap.size) : RtS w0 B gR gT gY gN gX l tgt vN q (xs ++ [p]) v' (w2.setCell ⟨gR, 0, none⟩ v') ∧ RtStep B q w (w2.setCell ⟨gR, 0, none⟩ v') := by
 have h1 := h.below hb
 obtain ⟨g0, g1, g2, g3, g4, g5, g6, g7⟩ := h.g
 have hvo : ∀ b, some b = v.ownBlock → B ≤ b := fun b q => (ownLt h1.o q).1
 have hB : B ≤ w.heap.size := by have := h.r.lt; omega
 have hb2 : RowKit.Below B w w2 := (hb.mono hB).trans (belowGrew hg (Nat.le_trans hB hb.size) hvo)
 have n1 : some gT ≠ v.ownBlock := fun e => by have := hvo gT e; omega
 have n2 : some gN ≠ v.ownBlock := fun e => by have := hvo gN e; omega
 have hy := h1.y.grew hg (own_blk_ne h1.o h1.y (by decide))
 have hx := h1.x.grew hg (own_blk_ne h1.o h1.x (by decide))
 have hr := h1.r.grew hg (own_blk_ne h1.o h1.r (by decide))
 have hne : some gR ≠ v'.ownBlock := own_blk_ne ho hr (by decide)
 refine ⟨⟨bset (h.b.trans (hb2.mono g0)) (by omega) _, (h1.t.grew hg n1).far' (by omega) _, (h1.n.grew hg n2).far' (by omega) _, hy.far' (blk_ne hy hr (by decide)) _, hx.far' (blk_ne hx hr (by decide)) _, hr.set_ 0 v', ?_, fun b e => ⟨fun e2 => ?_, (h.qo b e).2.1, ?_⟩, h.g⟩, bset hb2 g5 _, fun b e => ?_⟩
 case refine_2 =>
  have := h1.qo b e
  rcases hv with q | q
  ·rw [q] at e2; exact this.1 e2
  ·rw [q] at e2; have := (Option.some.inj e2); omega
 case refine_3 =>
  have h2 := (h1.qo b e).2.2
  have h3 := hg.size
  simp
  omega
 case refine_4 =>
  have h2 := h1.qo b e
  rw [Below.heap_setCell _ ⟨gR, 0, none⟩ _ b h2.2.1, hg.block b h2.2.2 h2.1]
  exact hb.block b (h.qo b e).2.2
 rw [rV_snoc, List.length_append, List.length_singleton]
 obtain ⟨o1, o2⟩ := ho
 refine ⟨o1, ?_⟩
 rcases o2 with ⟨q1, q2⟩ | ⟨k, cap, cur, q1, q2, q3, q4⟩
 ·exact Or.inl ⟨q1, q2⟩
 ·refine Or.inr ⟨k, cap, cur, q1, q2, ?_, q4⟩
  exact (show Blk w2 k _ cur from q3).far' (fun e => hne (by rw [q1, e]; rfl)) _
theorem RtS.pop {w0 : World} {B gR gT gY gN gX l tgt : Nat} {vN : Value} {q : Option Nat} {xs : List Nat} {k c : Nat} {w : World} {p : Nat} (h : RtS w0 B gR gT gY gN gX l tgt vN q (xs ++ [p]) (.slice (some ⟨k, 0, none⟩) (xs.length + 1) c) w) :
  RtS w0 B gR gT gY gN gX l tgt vN q xs (.slice (some ⟨k, 0, none⟩) xs.length c) (w.setCell ⟨gR, 0, none⟩ (.slice (some ⟨k, 0, none⟩) xs.length c)) ∧ RtStep B q w (w.setCell ⟨gR, 0, none⟩ (.slice (some ⟨k, 0, none⟩) xs.length c)) := by
 obtain ⟨g0, g1, g2, g3, g4, g5, g6, g7⟩ := h.g
 refine ⟨⟨bset h.b (by omega) _, h.t.far' (by omega) _, h.n.far' (by omega) _, h.y.far' (blk_ne h.y h.r (by decide)) _, h.x.far' (blk_ne h.x h.r (by decide)) _, h.r.set_ 0 _, ?_, fun b e => ⟨(h.qo b e).1, (h.qo b e).2.1, by have := (h.qo b e).2.2; simpa using this⟩, h.g⟩, bset (RowKit.Below.refl _ _) g5 _, fun b e => Below.heap_setCell _ ⟨gR, 0, none⟩ _ b (h.qo b e).2.1⟩
 have hne := own_blk_ne h.o h.r (by decide)
 obtain ⟨o1, o2⟩ := h.o
 refine ⟨by rw [rV_len, Nat.mul_one], ?_⟩
 rcases o2 with ⟨q1, q2⟩ | ⟨k2, cap, cur, q1, q2, q3, q4, q5, q6, q7⟩
 ·cases q1
 ·injection q1 with q1 q8 q9
  injection q1 with q1
  injection q1 with q1
  subst q1 q9
  refine Or.inr ⟨k, c, cur, rfl, q2, (show Blk w k _ cur from q3).far' (fun e => hne (by rw [e]; rfl)) _, by omega, q5, q6, ?_⟩
  rw [List.length_append, List.length_singleton, Nat.mul_one, rV_snoc] at q7
  rw [Nat.mul_one]
  have := congrArg (List.take xs.length) q7
  rw [List.take_take, Nat.min_eq_left (by omega), List.take_append_of_le_length (by rw [rV_len]; omega)] at this
  rw [this, List.take_of_length_le (by rw [rV_len]; omega)]
theorem RtS.form {w0 : World} {B gR gT gY gN gX l tgt : Nat} {vN : Value} {q : Option Nat} {xs : List Nat} {v : Value} {w : World} {n : Nat} (h : RtS w0 B gR gT gY gN gX l tgt vN q xs v w) (hn : xs.length = n + 1) : ∃ k c, v = .slice (some ⟨k, 0, none⟩) (n + 1) c ∧ k < w.heap.size ∧ n + 1 ≤ c ∧ c ≤ 9223372036854775807 ∧ ∀ i, i < xs.length → w.cell? ⟨k, i, none⟩ = some (.int .i64 (rF xs i)) := by
 obtain ⟨o1, o2⟩ := h.o
 rcases o2 with ⟨q1, q2⟩ | ⟨k, cap, cur, q1, q2, q3, q4, q5, q6, q7⟩
 ·omega
 ·refine ⟨k, cap, by rw [q1, hn], (Array.getElem?_eq_some_iff.1 q3).1, by omega, by unfold maxLen at q5; omega, fun i hi => ?_⟩
  rw [(show Blk w k _ cur from q3).cell i]
  have := rV_at hi
  rw [← q7, Nat.mul_one, List.getElem?_take_of_lt hi] at this
  simpa using this
theorem RtS.sl {w0 : World} {B gR gT gY gN gX l tgt : Nat} {vN : Value} {q : Option Nat} {xs : List Nat} {v : Value} {w : World} {n : Nat} (h : RtS w0 B gR gT gY gN gX l tgt vN q xs v w) (hn : xs.length = n + 1) : SlI w v xs.length (rF xs) := by
 obtain ⟨k, c, e, q1, q2, q3, q4⟩ := h.form hn
 refine ⟨_, c, by rw [e, hn], by omega, q3, fun _ => ⟨k, 0, rfl, q1, fun i hi j hj => ?_⟩⟩
 obtain rfl : j = 0 := by omega
 have := q4 i hi
 simpa [nL] using this
end Go.Proofs.YtlabfpjlckdmfaaGreat

namespace Go.Proofs.YtlabfpjlckdmfaaGreat
open Go Go.RowKit Go.Proofs
set_option maxRecDepth 100000
set_option maxHeartbeats 8000000
theorem wpl_cpn {ty sl : TypeId} {k : Nat} {V : Nat → Nat → Value} {ops : Array Oper} {rest : List Oper} {o : Oper} {a : Act} {w : World} {Q : Exit → Act → World → Prop} (hgd : o.guard = none) (s x : Operand)
  (hu : Tryz.prog.underlying sl = some (.slice ty)) (hi : (Tryz.prog.info? ty).map (fun i => (i.zero.map (·.cells.size), i.size, decide (i.bytes ≤ 200))) = some (some k, k, true)) (hk : 0 < k) (h1 : ∀ i j, (V i j).oneCell' = true)
  (ho : o.op = .call { callee := .builtin .append, args := #[s, x], argTypes := #[sl, sl] }) (g : Nat) (hs : a.eval s = .slice (some ⟨g, 0, none⟩) 0 0) (hgb : w.heap[g]? = some (.cells #[] ty (0, 0)))
  (A : Option Addr) (n c : Nat) (hx : a.eval x = .slice A n c) (hr : RecsAt w A n k V) (hn : n ≤ 50)
  (h : ∀ v' w', Hid (∃ A' c', v' = .slice A' n c' ∧ n ≤ c' ∧ c' ≤ 9223372036854775807 ∧ RecsAt w' A' n k V ∧ ∀ b, some b = v'.ownBlock → g ≤ b) → Hid (Below w.heap.size w w') → wpList Tryz.prog ops Q rest (a.put o.dst v') w') : wpList Tryz.prog ops Q (o :: rest) a w := by
 cases hI : Tryz.prog.info? ty with
 | none => rw [hI] at hi; cases hi
 | some i =>
  rw [hI] at hi
  simp only [Option.map_some, Option.some.injEq, Prod.mk.injEq, decide_eq_true_eq] at hi
  obtain ⟨i1, i2, i3⟩ := hi
  cases hz : i.zero with
  | none => rw [hz] at i1; cases i1
  | some z =>
   rw [hz] at i1
   simp only [Option.map_some, Option.some.injEq] at i1
   have hb : n * i.bytes ≤ 50 * 200 := Nat.mul_le_mul hn i3
   refine wpl_append_newk hgd s x sl ho ty i z k i.bytes hu hI hz i2 rfl i1 hk g hs hgb g (Nat.le_refl _) A n c hx _ hr.cells (fun q _ => h1 _ _) (by unfold maxLen; omega) (by omega) (fun v' w' ho' hbl => ?_)
   obtain ⟨A', c', e, q1, q2, q3⟩ := RecsAt.of_owns (V := V) hk ho'
   exact h v' w' ⟨A', c', e, q1, q2, q3, fun b hb => owns_base ho' hb⟩ hbl
theorem Tryz.numU : Tryz.prog.underlying 35 = some (.slice 3) := by kernel_rfl
theorem Tryz.numI : (Tryz.prog.info? 3).map (fun i => (i.zero.map (·.cells.size), i.size, decide (i.bytes ≤ 200))) = some (some 1, 1, true) := by kernel_rfl
@[go_sem] theorem Tryz.eqNilNum (w : World) (a : Option Addr) (l c : Nat) : (binOp .eql 35 (.slice a l c) (.slice none 0 0)).run Tryz.prog w = .ok (.bool a.isNone) w := by
 simp only [binOp]
 simp [run_equal_slice_nil w 35 3 a l c Tryz.numU]
theorem clNum_c (v : Value) (n : Nat) (R : Nat → Int) (w : World) (hn1 : 1 ≤ n) (hn : n ≤ 50) (hA : SlI w v n R) :
  Calls Tryz.prog 32 #[v] w fun e w' => ∃ v', e = .returned v' ∧ SlI w' v' n R ∧ RowKit.Below w.heap.size w w' ∧ ∀ b, some b = v'.ownBlock → w.heap.size ≤ b := by
 obtain ⟨A, c, rfl, h1, h2, hA⟩ := hA
 obtain ⟨b1, o1, rfl, hb1, hc1⟩ := hA (by omega)
 have HA := hI9 hA
 clear hA hc1
 go_enter Tryz.func32, Tryz.ntmps32
 go_wp2_with (first | (at_builtin; refine wpl_cpn rfl _ _ Tryz.numU Tryz.numI (by omega) (fun _ _ => rfl) rfl _ rfl (Blk.newA _ _ _ (by simp)) (some ⟨b1, o1, none⟩) n c rfl (HA.out.below (bal (RowKit.Below.refl _ _) _)) hn ?_))
 intro v' w2 h3 h4
 obtain ⟨A2, c2, e2, q1, q2, q3, q4⟩ := h3.out
 have hb := hI9 ((bal (RowKit.Below.refl w.heap.size w) (.cells #[] 3)).trans (h4.out.mono (by omega)))
 clear h3 h4
 go_wp2_with (fail)
 go_ret
 exact ⟨_, rfl, ⟨A2, c2, e2, q1, q2, q3⟩, hb.out, q4⟩
end Go.Proofs.YtlabfpjlckdmfaaGreat
