/- Texts joined: JAN. -/
import Derived.Test.YtlambeiafdpkgaaGreatJAM
set_option linter.all false
namespace Go.Proofs.YtlambeiafdpkgaaGreat
open Go Go.RowKit Go.Proofs
set_option maxRecDepth 100000
set_option maxHeartbeats 8000000
def mayV (M : MetD) (p t : Int) : Sk := if atE M p t = 0 then M.may p t else ⟨0, 0, 0, 0, 0, 0, false, false⟩
theorem atE_ok {M : MetD} {p t : Int} (h : atE M p t = 0) : M.Ok ∧ 0 ≤ t ∧ t ≤ 2000 := by
 unfold atE at h
 cases hb : M.bad
 ·rw [hb, if_neg (by decide)] at h
  cases b1 : inB p 0 (M.places - 1)
  ·rw [b1] at h; cases h
  ·cases b2 : inB t 0 2000
   ·rw [b1, b2] at h; cases h
   ·exact ⟨MetD.ok_of hb, inB_iff.1 b2⟩
 ·rw [hb, if_pos rfl] at h; cases h
theorem wMay_c (M : MetD) (vF vS : Value) (p t : Int) (w : World) (hA : MetAt w vF vS M) :
  Calls Tryz.prog 57 #[.agg #[.int .i64 M.places, .int .i64 M.any.a0, .int .i64 M.any.a1, .int .i64 M.any.a2, .int .i64 M.any.a3, .int .i64 M.any.a4, .int .i64 M.any.a5, .bool M.any.i, .bool M.any.s, .int .i64 M.mw, .int .i64 M.ms, .int .i64 M.mc, vF, vS], .int .i64 p, .int .i64 t] w fun e w' => e = .returned (.tuple #[.agg (mayV M p t).cells, .int .i64 (atE M p t)]) ∧ Below w.heap.size w w' := by
 have HA := hI9 hA
 have hat := fun w1 h => wcheckAt_c M vF vS p t t w1 h
 clear hA
 unfold mayV
 by_cases he : atE M p t = 0
 ·obtain ⟨hM, ht0, ht1⟩ := atE_ok he
  have hmy := fun w1 h => may_c M vF vS p t w1 hM h ht0 ht1
  rw [if_pos he]
  rw [he] at hat ⊢
  rcases hx : M.may p t with ⟨a0, a1, a2, a3, a4, a5, xi, xs⟩
  rw [hx] at hmy
  unfold Sk.cells at *
  dsimp only at hmy ⊢
  have HMY := hI9 hmy
  have HAT := hI9 hat
  clear hmy hx hat hM he
  go_enter Tryz.func57, Tryz.ntmps57
  go_wp2_with (fail)
  have _x := frm2 w #[.int .i64 M.places, .int .i64 M.any.a0, .int .i64 M.any.a1, .int .i64 M.any.a2, .int .i64 M.any.a3, .int .i64 M.any.a4, .int .i64 M.any.a5, .bool M.any.i, .bool M.any.s, .int .i64 M.mw, .int .i64 M.ms, .int .i64 M.mc, vF, vS] 34 #[.int .i64 0, .int .i64 0, .int .i64 0, .int .i64 0, .int .i64 0, .int .i64 0, .bool false, .bool false] 30
  have HX := hI9 _x.1
  have HY := hI9 _x.2.1
  have HB := hI9 _x.2.2.1
  have zW := _x.2.2.2
  clear _x
  generalize World.alloc (World.alloc w _) _ = W at *
  have hM2 := hI9 (fun r : After _ => HX.out.below r.below)
  have hA2 := hI9 (fun r : After _ => (HA.out.below HB.out).below r.below)
  refine wp_region_aftert 5 (by kernel_rfl) (by kernel_rfl) ?_
  simp only [List.take_succ_cons, List.take_zero, List.drop_succ_cons, List.drop_zero]
  refine wpq_row rfl 34 _ rfl _ rfl _ 14 (fun _ hw => by obtain ⟨r, rfl⟩ := hw; exact hM2.out r) Tryz.rowMet rfl ?_
  simp only [Act.put, List.setIfInBounds_toArray, List.set_cons_succ, List.set_cons_zero]
  iterate 2 (go_big_quiet_step (fail))
  go_big_quiet_step (first | (go_at_call 72; (with_reducible refine qafter (wat_c _ _ _))))
  go_big_quiet_step (first | (go_at_call 71; (with_reducible refine qafter (HAT.out _ (hA2.out _)))))
  refine wpQuiet_nil ?_
  rintro _ ⟨r, rfl⟩
  have BR := r.below
  clear hM2 hA2
  generalize r.w = wr at *
  have nHX := hI9 (HX.out.below BR)
  have nHY := hI9 (HY.out.below BR)
  have nHB := hI9 (bthen HB.out BR)
  clear HX HY HB BR
  have HX := nHX
  have HY := nHY
  have HB := nHB
  clear nHX nHY nHB
  go_wp2_with (first | (refine wpl_row rfl 34 _ rfl _ rfl _ 14 HX.out Tryz.rowMet rfl ?_; simp only [Act.put]))
  refine (HMY.out _ (HA.out.below HB.out)).mono ?_
  rintro _ wq ⟨v, ys, rfl, hb1, -, -⟩
  have nHX := hI9 (HX.out.below hb1)
  have nHY := hI9 (HY.out.below hb1)
  have nHB := hI9 (bthen HB.out hb1)
  clear HX HY HB hb1
  have HX := nHX
  have HY := nHY
  have HB := nHB
  clear nHX nHY nHB
  go_wp2_with (first | (refine wpList_store_row rfl 30 _ _ rfl (w.heap.size + 1) #[.int .i64 a0, .int .i64 a1, .int .i64 a2, .int .i64 a3, .int .i64 a4, .int .i64 a5, .bool xi, .bool xs] rfl rfl 30 #[.int .i64 0, .int .i64 0, .int .i64 0, .int .i64 0, .int .i64 0, .int .i64 0, .bool false, .bool false] (HY.out.alloc _) Tryz.sizeSky rfl (oneS a0 a1 a2 a3 a4 a5 xi xs) ?_; simp only [Act.put]))
  exact bodyPost_ret (res_ct rfl _ _ #[.int .i64 a0, .int .i64 a1, .int .i64 a2, .int .i64 a3, .int .i64 a4, .int .i64 a5, .bool xi, .bool xs] 8 rfl (setRow_heap _ _ _ _ _ _ (HY.out.alloc _)) Tryz.rowSky rfl) rfl ⟨rfl, rowBelow (bal HB.out _) (by omega) _⟩
 ·have hez : (atE M p t != 0) = true := by simpa using he
  rw [if_neg he]
  generalize atE M p t = E at *
  have HAT := hI9 hat
  clear hat he
  go_enter Tryz.func57, Tryz.ntmps57
  go_wp2_with (fail)
  have _x := frm2 w #[.int .i64 M.places, .int .i64 M.any.a0, .int .i64 M.any.a1, .int .i64 M.any.a2, .int .i64 M.any.a3, .int .i64 M.any.a4, .int .i64 M.any.a5, .bool M.any.i, .bool M.any.s, .int .i64 M.mw, .int .i64 M.ms, .int .i64 M.mc, vF, vS] 34 #[.int .i64 0, .int .i64 0, .int .i64 0, .int .i64 0, .int .i64 0, .int .i64 0, .bool false, .bool false] 30
  have HX := hI9 _x.1
  have HY := hI9 _x.2.1
  have HB := hI9 _x.2.2.1
  have zW := _x.2.2.2
  clear _x
  generalize World.alloc (World.alloc w _) _ = W at *
  have hM2 := hI9 (fun r : After _ => HX.out.below r.below)
  have hA2 := hI9 (fun r : After _ => (HA.out.below HB.out).below r.below)
  refine wp_region_aftert 5 (by kernel_rfl) (by kernel_rfl) ?_
  simp only [List.take_succ_cons, List.take_zero, List.drop_succ_cons, List.drop_zero]
  refine wpq_row rfl 34 _ rfl _ rfl _ 14 (fun _ hw => by obtain ⟨r, rfl⟩ := hw; exact hM2.out r) Tryz.rowMet rfl ?_
  simp only [Act.put, List.setIfInBounds_toArray, List.set_cons_succ, List.set_cons_zero]
  iterate 2 (go_big_quiet_step (fail))
  go_big_quiet_step (first | (go_at_call 72; (with_reducible refine qafter (wat_c _ _ _))))
  go_big_quiet_step (first | (go_at_call 71; (with_reducible refine qafter (HAT.out _ (hA2.out _)))))
  refine wpQuiet_nil ?_
  rintro _ ⟨r, rfl⟩
  have BR := r.below
  clear hM2 hA2
  generalize r.w = wr at *
  have nHX := hI9 (HX.out.below BR)
  have nHY := hI9 (HY.out.below BR)
  have nHB := hI9 (bthen HB.out BR)
  clear HX HY HB BR
  have HX := nHX
  have HY := nHY
  have HB := nHB
  clear nHX nHY nHB
  go_wp2_with (first | (refine wpList_store_row rfl 30 _ _ rfl (w.heap.size + 1) #[.int .i64 0, .int .i64 0, .int .i64 0, .int .i64 0, .int .i64 0, .int .i64 0, .bool false, .bool false] rfl rfl 30 #[.int .i64 0, .int .i64 0, .int .i64 0, .int .i64 0, .int .i64 0, .int .i64 0, .bool false, .bool false] HY.out Tryz.sizeSky rfl (oneS 0 0 0 0 0 0 false false) ?_; simp only [Act.put]))
  exact bodyPost_ret (res_ct rfl _ _ #[.int .i64 0, .int .i64 0, .int .i64 0, .int .i64 0, .int .i64 0, .int .i64 0, .bool false, .bool false] 8 rfl (setRow_heap _ _ _ _ _ _ HY.out) Tryz.rowSky rfl) rfl ⟨rfl, rowBelow HB.out (by omega) _⟩
end Go.Proofs.YtlambeiafdpkgaaGreat

namespace Go.Proofs.YtlambeiafdpkgaaGreat
open Go Go.RowKit Go.Proofs
structure DekD where
 size : Int
 load : Int
 wind : Int
 pitch : Int
 roll : Int
 heave : Int
 fire : Int
 ns : Nat
 S : Nat → Nat → Int
 nh : Nat
 H : Nat → Nat → Int
 nu : Nat
 U : Nat → Nat → Int
structure MovD where
 np : Nat
 P : Nat → Int
 nr : Nat
 R : Nat → Int
 nv : Nat
 V : Nat → Int
def secB (f t n : Int) : Bool := if t < f then decide (f ≤ n) || decide (n ≤ t) else inB n f t
def limS (D : DekD) (m : Int) : Nat → Nat → Int → Int
 | 0, _, l => l
 | r + 1, k, l => limS D m r (k + 1) (if secB (D.S k 0) (D.S k 1) m then min l (D.S k 2) else l)
def limN (D : DekD) : Nat → Int → Int → Int
 | 0, _, l => l
 | r + 1, n, l => limN D r (n + 1) (limS D (n % 360) D.ns 0 l)
def limV (D : DekD) (lo hi : Int) : Int := limN D (hi + 1 - lo).toNat lo D.wind
def amo (n : Int) : Int := max n (-n)
def quiB (D : DekD) (Mo : MovD) (t : Int) : Bool :=
 if Mo.np = 0 then true else if (Mo.np : Int) ≤ t then false else
  decide (amo (Mo.P t.toNat) ≤ D.pitch) && (decide (amo (Mo.R t.toNat) ≤ D.roll) && decide (amo (if 0 < t then Mo.V t.toNat - Mo.V (t.toNat - 1) else 0) ≤ D.heave))
def manR (D : DekD) (t : Int) : Nat → Nat → Int → Int
 | 0, _, c => c
 | r + 1, k, c => manR D t r (k + 1) (if inB t (D.H k 0) (wrap64 (D.H k 1 - 1)) then c + D.H k 2 else c)
def manB (D : DekD) (t : Int) : Bool := decide (D.fire ≤ manR D t D.nh 0 0)
def shuB (D : DekD) (t : Int) : Bool := (List.range D.nu).any fun k => inB t (D.U k 0) (D.U k 1)
structure AppD where
 size : Int
 weight : Int
 lw : Int
 ls : Int
 lc : Int
 li : Bool
 lt : Bool
 place : Int
 lo : Int
 hi : Int
def whyH (D : DekD) (M : MetD) (Mo : MovD) (a : AppD) (t : Int) : List Bool :=
 [decide (a.size ≤ D.size) && decide (a.weight ≤ D.load), openV M a.lw a.ls a.lc a.li a.lt a.place t, decide ((mayV M a.place t).a1 ≤ limV D a.lo a.hi), quiB D Mo t, manB D t, !shuB D t]
def whyN (D : DekD) (M : MetD) (Mo : MovD) (a : AppD) (t : Int) : Nat := ((whyH D M Mo a t).filter (fun b => !b)).length
def strR (is : Int → Bool) (te least : Int) : Nat → Int → Int → List (Int × Int)
 | 0, _, _ => []
 | r + 1, t, f => if decide (t < te) && is t then strR is te least r (t + 1) f else (if least ≤ t - f then (f, t - 1) :: strR is te least r (t + 1) (t + 1) else strR is te least r (t + 1) (t + 1))
def strV (is : Int → Bool) (fr te least : Int) : List (Int × Int) := strR is te least (te + 1 - fr).toNat fr fr
end Go.Proofs.YtlambeiafdpkgaaGreat

namespace Go.Proofs.YtlambeiafdpkgaaGreat
open Go Go.RowKit Go.Proofs
def iV (S : Nat → Nat → Int) (i j : Nat) : Value := .int .i64 (S i j)
def lV (P : Nat → Int) (i _j : Nat) : Value := .int .i64 (P i)
structure SlAt (w : World) (v : Value) (n k : Nat) (V : Nat → Nat → Value) : Prop where
 e : ∃ A c, v = .slice A n c ∧ n ≤ c ∧ c ≤ 9223372036854775807 ∧ RecsAt w A n k V
theorem SlAt.below {w w' : World} {v : Value} {n k : Nat} {V : Nat → Nat → Value} (h : SlAt w v n k V) (hb : Below w.heap.size w w') : SlAt w' v n k V := by
 obtain ⟨A, c, h1, h2, h3, h4⟩ := h.e
 exact ⟨A, c, h1, h2, h3, h4.below hb⟩
structure DekAt (w : World) (vS vH vU : Value) (D : DekD) : Prop where
 s : SlAt w vS D.ns 3 (iV D.S)
 h : SlAt w vH D.nh 3 (iV D.H)
 u : SlAt w vU D.nu 2 (iV D.U)
theorem DekAt.below {w w' : World} {vS vH vU : Value} {D : DekD} (h : DekAt w vS vH vU D) (hb : Below w.heap.size w w') : DekAt w' vS vH vU D := ⟨h.s.below hb, h.h.below hb, h.u.below hb⟩
structure MovAt (w : World) (vP vR vV : Value) (Mo : MovD) : Prop where
 p : SlAt w vP Mo.np 1 (lV Mo.P)
 r : SlAt w vR Mo.nr 1 (lV Mo.R)
 v : SlAt w vV Mo.nv 1 (lV Mo.V)
theorem MovAt.below {w w' : World} {vP vR vV : Value} {Mo : MovD} (h : MovAt w vP vR vV Mo) (hb : Below w.heap.size w w') : MovAt w' vP vR vV Mo := ⟨h.p.below hb, h.r.below hb, h.v.below hb⟩
def seBad (f t x : Int) : Bool := !inB f 0 359 || (!inB t 0 359 || !inB x 0 300)
def stB (f t : Int) : Bool := inB f 0 (wrap64 (t - 1)) && decide (t ≤ 2000)
def shBad (f t p : Int) : Bool := !stB f t || !inB p 1 100
def DekD.bad (D : DekD) : Bool :=
 (!inB D.size 1 1000000 || (!inB D.load 1 1000000 || (!inB D.wind 0 300 || !inB D.fire 0 100))) ||
 ((decide (8 < D.ns) || ((List.range D.ns).any (fun k => seBad (D.S k 0) (D.S k 1) (D.S k 2)) || (!inB D.pitch 0 300 || (!inB D.roll 0 300 || !inB D.heave 0 300)))) ||
 ((decide (12 < D.nh) || (List.range D.nh).any (fun k => shBad (D.H k 0) (D.H k 1) (D.H k 2))) ||
 (decide (12 < D.nu) || (List.range D.nu).any (fun k => !insB (D.U k 0) (D.U k 1) 2000))))
def DekD.err (D : DekD) : Int := if D.bad then 60 else 0
def MovD.ok (Mo : MovD) : Bool := decide (Mo.nr = Mo.np) && (decide (Mo.nv = Mo.np) && (decide (Mo.np ≤ 2001) && (List.range Mo.np).all fun k => inB (Mo.P k) (-300) 300 && (inB (Mo.R k) (-300) 300 && inB (Mo.V k) (-300) 300)))
structure DekD.Ok (D : DekD) : Prop where
 size : 1 ≤ D.size ∧ D.size ≤ 1000000
 load : 1 ≤ D.load ∧ D.load ≤ 1000000
 wind : 0 ≤ D.wind ∧ D.wind ≤ 300
 fire : 0 ≤ D.fire ∧ D.fire ≤ 100
 pitch : 0 ≤ D.pitch ∧ D.pitch ≤ 300
 roll : 0 ≤ D.roll ∧ D.roll ≤ 300
 heave : 0 ≤ D.heave ∧ D.heave ≤ 300
 ns : D.ns ≤ 8
 nh : D.nh ≤ 12
 nu : D.nu ≤ 12
 s : ∀ k, k < D.ns → (0 ≤ D.S k 0 ∧ D.S k 0 ≤ 359) ∧ (0 ≤ D.S k 1 ∧ D.S k 1 ≤ 359) ∧ 0 ≤ D.S k 2 ∧ D.S k 2 ≤ 300
 h : ∀ k, k < D.nh → 1 ≤ D.H k 2 ∧ D.H k 2 ≤ 100
 u : ∀ k, k < D.nu → 0 ≤ D.U k 0 ∧ D.U k 0 ≤ D.U k 1 ∧ D.U k 1 ≤ 2000
theorem nb {b : Bool} (h : (!b) = false) : b = true := by cases b; cases h; rfl
theorem DekD.ok_of {D : DekD} (h : D.bad = false) : D.Ok := by
 unfold DekD.bad at h
 simp only [Bool.or_eq_false_iff, decide_eq_false_iff_not, List.any_eq_false, List.mem_range] at h
 obtain ⟨⟨h1, h2, h3, h4⟩, ⟨h5, h6, h7, h8, h9⟩, ⟨h10, h11⟩, h12, h13⟩ := h
 refine ⟨inB_iff.1 (nb h1), inB_iff.1 (nb h2), inB_iff.1 (nb h3), inB_iff.1 (nb h4), inB_iff.1 (nb h7), inB_iff.1 (nb h8), inB_iff.1 (nb h9), by omega, by omega, by omega, fun k hk => ?_, fun k hk => ?_, fun k hk => ?_⟩
 ·have := h6 k hk
  unfold seBad at this
  simp only [Bool.not_eq_true, Bool.or_eq_false_iff] at this
  exact ⟨inB_iff.1 (nb this.1), inB_iff.1 (nb this.2.1), inB_iff.1 (nb this.2.2)⟩
 ·have := h11 k hk
  unfold shBad at this
  simp only [Bool.not_eq_true, Bool.or_eq_false_iff] at this
  exact inB_iff.1 (nb this.2)
 ·have := h13 k hk
  simp only [Bool.not_eq_true] at this
  have a := insB_iff.1 (nb this)
  have b := vspan_iff'.1 a.1
  omega
structure MovD.Ok (Mo : MovD) : Prop where
 r : Mo.nr = Mo.np
 v : Mo.nv = Mo.np
 n : Mo.np ≤ 2001
 p1 : ∀ k, k < Mo.np → -300 ≤ Mo.P k ∧ Mo.P k ≤ 300
 r1 : ∀ k, k < Mo.np → -300 ≤ Mo.R k ∧ Mo.R k ≤ 300
 v1 : ∀ k, k < Mo.np → -300 ≤ Mo.V k ∧ Mo.V k ≤ 300
theorem MovD.ok_of {Mo : MovD} (h : Mo.ok = true) : Mo.Ok := by
 unfold MovD.ok at h
 simp only [Bool.and_eq_true, decide_eq_true_eq, List.all_eq_true, List.mem_range, inB_iff] at h
 obtain ⟨h1, h2, h3, h4⟩ := h
 exact ⟨h1, h2, h3, fun k hk => (h4 k hk).1, fun k hk => (h4 k hk).2.1, fun k hk => (h4 k hk).2.2⟩
end Go.Proofs.YtlambeiafdpkgaaGreat

namespace Go.Proofs.YtlambeiafdpkgaaGreat
open Go Go.RowKit Go.Proofs
set_option maxRecDepth 100000
def SecsAt (w : World) (A : Option Addr) (n : Nat) (S : Nat → Nat → Int) : Prop :=
 0 < n → ∃ b off, A = some ⟨b, off, none⟩ ∧ b < w.heap.size ∧ ∀ k, k < n → w.cell? ⟨b, off + k * 3, none⟩ = some (.int .i64 (S k 0)) ∧ w.cell? ⟨b, off + k * 3 + 1, none⟩ = some (.int .i64 (S k 1)) ∧ w.cell? ⟨b, off + k * 3 + 2, none⟩ = some (.int .i64 (S k 2))
set_option maxHeartbeats 400000 in
theorem ixSec_c (A : Option Addr) (n c : Nat) (S : Nat → Nat → Int) (g : Nat) (lb : Array Value) (p : Nat → Bool) (w : World) (hn : n ≤ 9223372036854775807)
  (eg : ∀ args w, (callFunc g args).run Tryz.prog w = .ok (.enter g args) w)
  (hA : SecsAt w A n S) (hp : PredB Tryz.prog g lb n (fun i => .agg #[.int .i64 (S i 0), .int .i64 (S i 1), .int .i64 (S i 2)]) p w) :
  Calls Tryz.prog 166 #[.slice A n c, .func (.func g) #[] lb] w fun e w' => e = .returned (.int .i64 (firstIx p n)) ∧ Below w.heap.size w w' := by
 go_enter Tryz.func166, Tryz.ntmps166
 go_wp2
 go_loopw [5, 8] (fun _ s8 wr => ∃ k : Nat, k ≤ n ∧ s8 = .int .i64 k ∧ Hid (Below w.heap.size w wr) ∧ Hid (∀ j, j < k → p j = false)) (fun _ i _ => n - (intOf i).toNat)
 case atStart => exact ⟨0, by omega, rfl, Below.refl _ _, fun j hj => absurd hj (by omega)⟩
 case round =>
  obtain ⟨k, hk, rfl, hB, hF⟩ := hrel
  by_cases hlt : k < n
  ·obtain ⟨b, off, rfl, hb, hc⟩ := hA (by omega)
   have h0 := (hB.out.cell (p := ⟨b, off + k * 3, none⟩) hb).trans (hc k hlt).1
   have h1 := (hB.out.cell (p := ⟨b, off + k * 3 + 1, none⟩) hb).trans (hc k hlt).2.1
   have h2 := (hB.out.cell (p := ⟨b, off + k * 3 + 2, none⟩) hb).trans (hc k hlt).2.2
   have hcall := hp wr k hlt hB.out
   clear hc hA hp
   cases hq : p k with
   | true =>
    rw [hq] at hcall
    have HQ := hI9 hq
    clear hq
    go_wp2_with (go_at_fn g; refine hcall.mono ?_; rintro e w1 ⟨rfl, hb1⟩)
    go_ret
    exact ⟨ret_int (firstIx_hit p n k hlt HQ.out hF.out).symm, hB.out.trans (hb1.mono hB.out.size)⟩
   | false =>
    rw [hq] at hcall
    have HQ := hI9 hq
    clear hq
    go_wp2_with (go_at_fn g; refine hcall.mono ?_; rintro e w1 ⟨rfl, hb1⟩)
    go_roundw
    case rel => exact ⟨k + 1, by omega, by go_num, hB.out.trans (hb1.mono hB.out.size), fun j hj => by
     by_cases e : j = k
     ·subst e; exact HQ.out
     ·exact hF.out j (by omega)⟩
    case measure => simp [intOf]; omega
  ·obtain rfl : k = n := by omega
   clear hA hp
   go_wp2
   go_ret
   exact ⟨ret_int (firstIx_miss p k hF.out).symm, hB.out⟩
theorem cfSec_c (A : Option Addr) (n c : Nat) (S : Nat → Nat → Int) (g : Nat) (lb : Array Value) (p : Nat → Bool) (w : World) (hn : n ≤ 9223372036854775807)
  (eg : ∀ args w, (callFunc g args).run Tryz.prog w = .ok (.enter g args) w)
  (hA : SecsAt w A n S) (hp : PredB Tryz.prog g lb n (fun i => .agg #[.int .i64 (S i 0), .int .i64 (S i 1), .int .i64 (S i 2)]) p w) :
  Calls Tryz.prog 132 #[.slice A n c, .func (.func g) #[] lb] w fun e w' => e = .returned (.bool ((List.range n).any p)) ∧ Below w.heap.size w w' := by
 rw [← firstIx_nonneg p n]
 go_enter Tryz.func132, Tryz.ntmps132
 go_wp2_with (go_at_call 166; refine (ixSec_c _ _ _ _ _ _ _ _ hn eg hA hp).mono ?_; rintro e w1 ⟨rfl, hb1⟩)
 go_ret
 exact ⟨rfl, hb1⟩
def ShisAt (w : World) (A : Option Addr) (n : Nat) (S : Nat → Nat → Int) : Prop :=
 0 < n → ∃ b off, A = some ⟨b, off, none⟩ ∧ b < w.heap.size ∧ ∀ k, k < n → w.cell? ⟨b, off + k * 3, none⟩ = some (.int .i64 (S k 0)) ∧ w.cell? ⟨b, off + k * 3 + 1, none⟩ = some (.int .i64 (S k 1)) ∧ w.cell? ⟨b, off + k * 3 + 2, none⟩ = some (.int .i64 (S k 2))
set_option maxHeartbeats 400000 in
theorem ixShi_c (A : Option Addr) (n c : Nat) (S : Nat → Nat → Int) (g : Nat) (lb : Array Value) (p : Nat → Bool) (w : World) (hn : n ≤ 9223372036854775807)
  (eg : ∀ args w, (callFunc g args).run Tryz.prog w = .ok (.enter g args) w)
  (hA : ShisAt w A n S) (hp : PredB Tryz.prog g lb n (fun i => .agg #[.int .i64 (S i 0), .int .i64 (S i 1), .int .i64 (S i 2)]) p w) :
  Calls Tryz.prog 167 #[.slice A n c, .func (.func g) #[] lb] w fun e w' => e = .returned (.int .i64 (firstIx p n)) ∧ Below w.heap.size w w' := by
 go_enter Tryz.func167, Tryz.ntmps167
 go_wp2
 go_loopw [5, 8] (fun _ s8 wr => ∃ k : Nat, k ≤ n ∧ s8 = .int .i64 k ∧ Hid (Below w.heap.size w wr) ∧ Hid (∀ j, j < k → p j = false)) (fun _ i _ => n - (intOf i).toNat)
 case atStart => exact ⟨0, by omega, rfl, Below.refl _ _, fun j hj => absurd hj (by omega)⟩
 case round =>
  obtain ⟨k, hk, rfl, hB, hF⟩ := hrel
  by_cases hlt : k < n
  ·obtain ⟨b, off, rfl, hb, hc⟩ := hA (by omega)
   have h0 := (hB.out.cell (p := ⟨b, off + k * 3, none⟩) hb).trans (hc k hlt).1
   have h1 := (hB.out.cell (p := ⟨b, off + k * 3 + 1, none⟩) hb).trans (hc k hlt).2.1
   have h2 := (hB.out.cell (p := ⟨b, off + k * 3 + 2, none⟩) hb).trans (hc k hlt).2.2
   have hcall := hp wr k hlt hB.out
   clear hc hA hp
   cases hq : p k with
   | true =>
    rw [hq] at hcall
    have HQ := hI9 hq
    clear hq
    go_wp2_with (go_at_fn g; refine hcall.mono ?_; rintro e w1 ⟨rfl, hb1⟩)
    go_ret
    exact ⟨ret_int (firstIx_hit p n k hlt HQ.out hF.out).symm, hB.out.trans (hb1.mono hB.out.size)⟩
   | false =>
    rw [hq] at hcall
    have HQ := hI9 hq
    clear hq
    go_wp2_with (go_at_fn g; refine hcall.mono ?_; rintro e w1 ⟨rfl, hb1⟩)
    go_roundw
    case rel => exact ⟨k + 1, by omega, by go_num, hB.out.trans (hb1.mono hB.out.size), fun j hj => by
     by_cases e : j = k
     ·subst e; exact HQ.out
     ·exact hF.out j (by omega)⟩
    case measure => simp [intOf]; omega
  ·obtain rfl : k = n := by omega
   clear hA hp
   go_wp2
   go_ret
   exact ⟨ret_int (firstIx_miss p k hF.out).symm, hB.out⟩
theorem cfShi_c (A : Option Addr) (n c : Nat) (S : Nat → Nat → Int) (g : Nat) (lb : Array Value) (p : Nat → Bool) (w : World) (hn : n ≤ 9223372036854775807)
  (eg : ∀ args w, (callFunc g args).run Tryz.prog w = .ok (.enter g args) w)
  (hA : ShisAt w A n S) (hp : PredB Tryz.prog g lb n (fun i => .agg #[.int .i64 (S i 0), .int .i64 (S i 1), .int .i64 (S i 2)]) p w) :
  Calls Tryz.prog 133 #[.slice A n c, .func (.func g) #[] lb] w fun e w' => e = .returned (.bool ((List.range n).any p)) ∧ Below w.heap.size w w' := by
 rw [← firstIx_nonneg p n]
 go_enter Tryz.func133, Tryz.ntmps133
 go_wp2_with (go_at_call 167; refine (ixShi_c _ _ _ _ _ _ _ _ hn eg hA hp).mono ?_; rintro e w1 ⟨rfl, hb1⟩)
 go_ret
 exact ⟨rfl, hb1⟩
theorem SecsAt.of {w : World} {A : Option Addr} {n : Nat} {S : Nat → Nat → Int} (h : RecsAt w A n 3 (iV S)) : SecsAt w A n S := by
 intro hn
 obtain ⟨b, off, hA, hb, hc⟩ := h hn
 exact ⟨b, off, hA, hb, fun k hk => ⟨hc k hk 0 (by omega), hc k hk 1 (by omega), hc k hk 2 (by omega)⟩⟩
theorem ShisAt.of {w : World} {A : Option Addr} {n : Nat} {S : Nat → Nat → Int} (h : RecsAt w A n 3 (iV S)) : ShisAt w A n S := by
 intro hn
 obtain ⟨b, off, hA, hb, hc⟩ := h hn
 exact ⟨b, off, hA, hb, fun k hk => ⟨hc k hk 0 (by omega), hc k hk 1 (by omega), hc k hk 2 (by omega)⟩⟩
theorem SpansAt.of {w : World} {A : Option Addr} {n : Nat} {S : Nat → Nat → Int} (h : RecsAt w A n 2 (iV S)) : SpansAt w A n (fun k => S k 0) (fun k => S k 1) := by
 intro hn
 obtain ⟨b, off, hA, hb, hc⟩ := h hn
 exact ⟨b, off, hA, hb, fun k hk => ⟨hc k hk 0 (by omega), hc k hk 1 (by omega)⟩⟩
end Go.Proofs.YtlambeiafdpkgaaGreat

namespace Go.Proofs.YtlambeiafdpkgaaGreat
open Go Go.RowKit Go.Proofs
set_option maxRecDepth 100000
set_option maxHeartbeats 8000000
theorem dwithin_c (n lo hi : Int) (w : World) :
  Calls Tryz.prog 34 #[.int .i64 n, .int .i64 lo, .int .i64 hi] w fun e w' => e = .returned (.bool (inB n lo hi)) ∧ w = w' := by
 by_cases h : lo ≤ n
 ·go_enter Tryz.func34, Tryz.ntmps34
  go_wp2
  go_ret
  exact ⟨ret_bool (by simp [inB, h]), rfl⟩
 ·have h2 : n < lo := by omega
  go_enter Tryz.func34, Tryz.ntmps34
  go_wp2
  go_ret
  exact ⟨ret_bool (by simp [inB]; omega), rfl⟩
theorem dinside_c (lo hi m : Int) (w : World) :
  Calls Tryz.prog 135 #[.agg #[.int .i64 lo, .int .i64 hi], .int .i64 m] w fun e w' => e = .returned (.bool (insB lo hi m)) ∧ Below w.heap.size w w' := by
 have e3 := spanE_t
 have e4 := spanE_f
 unfold insB
 have hk : ∀ b c w, w.cell? ⟨b, 0, none⟩ = some (.int .i64 lo) → w.cell? ⟨b, 1, none⟩ = some (.int .i64 hi) → Calls Tryz.prog 163 #[.slice (some ⟨b, 0, none⟩) 1 c] w fun e w' => e = .returned (.int .i64 (spanE (!vspan lo hi))) ∧ Below w.heap.size w w' := by
  intro b c w h0 h1
  have h := spCheck_c (some ⟨b, 0, none⟩) 1 c (fun _ => lo) (fun _ => hi) w (by omega)
   (fun _ => ⟨b, 0, rfl, blk_lt h0, fun k hk => by
    obtain rfl : k = 0 := by omega
    exact ⟨(by simpa using h0), (by simpa using h1)⟩⟩)
  rw [anyBad1] at h
  exact h
 have HK := hI9 hk
 clear hk
 cases h1 : vspan lo hi
 ·go_enter Tryz.func135, Tryz.ntmps135
  go_wp2_with (first | (go_at_call 163; (with_reducible refine (HK.out _ _ _ (by simp) (by simp)).mono ?_); rintro e w1 ⟨rfl, hb1⟩; have hB1 := bthen (show Below w.heap.size w _ from (by repeat' (first | exact Below.refl _ _ | assumption | refine Below.drew ?_ | refine bdn ?_ _ | refine bal ?_ _ | refine Below.setCell ?_ (by first | (simp; done) | omega | (simp; omega)) _))) hb1; have hz1 := hb1.size; (try simp at hz1); obtain ⟨hc1, hf1⟩ := bcell hb1; first | (have hE1 := bthen2 hE (by repeat' (first | exact Below.refl _ _ | refine Below.drew ?_ | refine bdn ?_ _ | refine bal ?_ _ | refine Below.setCell ?_ (by first | (simp; done) | omega | (simp; omega)) _)) hb1; clear hE; have hE := hE1; clear hE1; obtain ⟨hd1, hg1⟩ := bcell hE) | (have hE := hb1)) | (go_at_call 34; (with_reducible refine (dwithin_c _ _ _ _).mono ?_); rintro e w1 ⟨rfl, rfl⟩))
  go_ret
  exact ⟨rfl, (by repeat' (first | exact Below.refl _ _ | assumption | refine Below.drew ?_ | refine bdn ?_ _ | refine bal ?_ _ | refine Below.setCell ?_ (by first | (simp; done) | omega | (simp; omega)) _))⟩
 ·go_enter Tryz.func135, Tryz.ntmps135
  go_wp2_with (first | (go_at_call 163; (with_reducible refine (HK.out _ _ _ (by simp) (by simp)).mono ?_); rintro e w1 ⟨rfl, hb1⟩; have hB1 := bthen (show Below w.heap.size w _ from (by repeat' (first | exact Below.refl _ _ | assumption | refine Below.drew ?_ | refine bdn ?_ _ | refine bal ?_ _ | refine Below.setCell ?_ (by first | (simp; done) | omega | (simp; omega)) _))) hb1; have hz1 := hb1.size; (try simp at hz1); obtain ⟨hc1, hf1⟩ := bcell hb1; first | (have hE1 := bthen2 hE (by repeat' (first | exact Below.refl _ _ | refine Below.drew ?_ | refine bdn ?_ _ | refine bal ?_ _ | refine Below.setCell ?_ (by first | (simp; done) | omega | (simp; omega)) _)) hb1; clear hE; have hE := hE1; clear hE1; obtain ⟨hd1, hg1⟩ := bcell hE) | (have hE := hb1)) | (go_at_call 34; (with_reducible refine (dwithin_c _ _ _ _).mono ?_); rintro e w1 ⟨rfl, rfl⟩))
  all_goals go_ret
  all_goals exact ⟨ret_bool (by simp_all), (by repeat' (first | exact Below.refl _ _ | assumption | refine Below.drew ?_ | refine bdn ?_ _ | refine bal ?_ _ | refine Below.setCell ?_ (by first | (simp; done) | omega | (simp; omega)) _))⟩
theorem dstretch_c (f t : Int) (w : World) : Calls Tryz.prog 28 #[.int .i64 f, .int .i64 t] w fun e w' => e = .returned (.bool (stB f t)) ∧ w = w' := by
 unfold stB
 have h1 := fun w1 => dwithin_c f 0 (wrap64 (t - 1)) w1
 generalize inB f 0 (wrap64 (t - 1)) = B at *
 have H1 := hI9 h1
 clear h1
 cases B
 ·go_enter Tryz.func28, Tryz.ntmps28
  go_wp2_with (first | (go_at_call 34; (with_reducible refine (H1.out _).mono ?_); rintro e w1 ⟨rfl, rfl⟩))
  go_ret
  exact ⟨rfl, rfl⟩
 ·go_enter Tryz.func28, Tryz.ntmps28
  go_wp2_with (first | (go_at_call 34; (with_reducible refine (H1.out _).mono ?_); rintro e w1 ⟨rfl, rfl⟩))
  go_ret
  exact ⟨rfl, rfl⟩
theorem dlies_c (f t x n : Int) (w : World) : Calls Tryz.prog 108 #[.agg #[.int .i64 f, .int .i64 t, .int .i64 x], .int .i64 n] w fun e w' => e = .returned (.bool (secB f t n)) ∧ Below w.heap.size w w' := by
 unfold secB
 by_cases h : t < f
 ·rw [if_pos h]
  by_cases h2 : f ≤ n
  ·go_enter Tryz.func108, Tryz.ntmps108
   go_wp2
   go_ret
   exact ⟨ret_bool (by simp [h2]), (by repeat' (first | exact Below.refl _ _ | assumption | refine Below.drew ?_ | refine bdn ?_ _ | refine bal ?_ _ | refine Below.setCell ?_ (by first | (simp; done) | omega | (simp; omega)) _))⟩
  ·have h3 : n < f := by omega
   go_enter Tryz.func108, Tryz.ntmps108
   go_wp2
   go_ret
   exact ⟨ret_bool (by simp; omega), (by repeat' (first | exact Below.refl _ _ | assumption | refine Below.drew ?_ | refine bdn ?_ _ | refine bal ?_ _ | refine Below.setCell ?_ (by first | (simp; done) | omega | (simp; omega)) _))⟩
 ·rw [if_neg h]
  go_enter Tryz.func108, Tryz.ntmps108
  go_wp2_with (first | (go_at_call 34; (with_reducible refine (dwithin_c _ _ _ _).mono ?_); rintro e w1 ⟨rfl, rfl⟩))
  go_ret
  exact ⟨rfl, (by repeat' (first | exact Below.refl _ _ | assumption | refine Below.drew ?_ | refine bdn ?_ _ | refine bal ?_ _ | refine Below.setCell ?_ (by first | (simp; done) | omega | (simp; omega)) _))⟩
theorem ddirs_c (lo hi : Int) (w : World) : Calls Tryz.prog 95 #[.agg #[.int .i64 lo, .int .i64 hi]] w fun e w' => e = .returned (.bool (insB lo hi 719)) ∧ Below w.heap.size w w' := by
 have h1 := fun w1 => dinside_c lo hi 719 w1
 generalize insB lo hi 719 = B at *
 have H1 := hI9 h1
 clear h1
 go_enter Tryz.func95, Tryz.ntmps95
 go_wp2_with (first | (go_at_call 135; (with_reducible refine (H1.out _).mono ?_); rintro e w1 ⟨rfl, hb1⟩; have hB1 := bthen (show Below w.heap.size w _ from (by repeat' (first | exact Below.refl _ _ | assumption | refine Below.drew ?_ | refine bdn ?_ _ | refine bal ?_ _ | refine Below.setCell ?_ (by first | (simp; done) | omega | (simp; omega)) _))) hb1; have hz1 := hb1.size; (try simp at hz1); obtain ⟨hc1, hf1⟩ := bcell hb1; first | (have hE1 := bthen2 hE (by repeat' (first | exact Below.refl _ _ | refine Below.drew ?_ | refine bdn ?_ _ | refine bal ?_ _ | refine Below.setCell ?_ (by first | (simp; done) | omega | (simp; omega)) _)) hb1; clear hE; have hE := hE1; clear hE1; obtain ⟨hd1, hg1⟩ := bcell hE) | (have hE := hb1)))
 go_ret
 exact ⟨rfl, (by repeat' (first | exact Below.refl _ _ | assumption | refine Below.drew ?_ | refine bdn ?_ _ | refine bal ?_ _ | refine Below.setCell ?_ (by first | (simp; done) | omega | (simp; omega)) _))⟩
theorem damount_c (n : Int) (w : World) (h0 : -1000000 ≤ n) (h1 : n ≤ 1000000) : Calls Tryz.prog 109 #[.int .i64 n] w fun e w' => e = .returned (.int .i64 (amo n)) ∧ w = w' := by
 unfold amo
 go_enter Tryz.func109, Tryz.ntmps109
 go_wp2
 go_ret
 exact ⟨rfl, rfl⟩
end Go.Proofs.YtlambeiafdpkgaaGreat

namespace Go.Proofs.YtlambeiafdpkgaaGreat
open Go Go.RowKit Go.Proofs
set_option maxRecDepth 100000
set_option maxHeartbeats 8000000
structure FiK (M : MetD) (vF vS : Value) (lw ls lc : Int) (li lt : Bool) (w wr : World) : Prop where
 b : Below w.heap.size w wr
 m : Blk wr w.heap.size 34 #[.int .i64 M.places, .int .i64 M.any.a0, .int .i64 M.any.a1, .int .i64 M.any.a2, .int .i64 M.any.a3, .int .i64 M.any.a4, .int .i64 M.any.a5, .bool M.any.i, .bool M.any.s, .int .i64 M.mw, .int .i64 M.ms, .int .i64 M.mc, vF, vS]
 l : Blk wr (w.heap.size + 1) 41 #[.int .i64 lw, .int .i64 ls, .int .i64 lc, .bool li, .bool lt]
theorem FiK.grow {M : MetD} {vF vS : Value} {lw ls lc : Int} {li lt : Bool} {w wr w2 : World} (h : FiK M vF vS lw ls lc li lt w wr) (hb : Below wr.heap.size wr w2) : FiK M vF vS lw ls lc li lt w w2 :=
 ⟨bthen h.b hb, h.m.below hb, h.l.below hb⟩
end Go.Proofs.YtlambeiafdpkgaaGreat

namespace Go.Proofs.YtlambeiafdpkgaaGreat
open Go Go.RowKit Go.Proofs
set_option maxRecDepth 100000
set_option maxHeartbeats 8000000
theorem RecsAt.frame {w w' : World} {A : Option Addr} {n k : Nat} {V : Nat → Nat → Value} (h : RecsAt w A n k V) (hs : w.heap.size ≤ w'.heap.size) (hf : 0 < n → ∀ b off, A = some ⟨b, off, none⟩ → w'.heap[b]? = w.heap[b]?) : RecsAt w' A n k V := by
 intro hn
 obtain ⟨b, off, rfl, hb, hc⟩ := h hn
 refine ⟨b, off, rfl, by omega, fun i hi j hj => ?_⟩
 rw [← hc i hi j hj]
 exact World.cell?_of_block (w := w) (hf hn b off rfl)
def MetD.far (M : MetD) : Bool := decide (50 < M.n) || decide (30 < M.m)
theorem wFar_c (M : MetD) (vF vS : Value) (w : World) (hA : MetAt w vF vS M) :
  Calls Tryz.prog 23 #[.agg #[.int .i64 M.places, .int .i64 M.any.a0, .int .i64 M.any.a1, .int .i64 M.any.a2, .int .i64 M.any.a3, .int .i64 M.any.a4, .int .i64 M.any.a5, .bool M.any.i, .bool M.any.s, .int .i64 M.mw, .int .i64 M.ms, .int .i64 M.mc, vF, vS]] w fun e w' => e = .returned (.bool M.far) ∧ Below w.heap.size w w' := by
 obtain ⟨⟨A, cF, rfl, hF1, hF2, -⟩, ⟨A2, cS, rfl, hS1, hS2, -⟩⟩ := hA
 unfold MetD.far
 by_cases h1 : 50 < M.n
 ·have h1z : (50 : Int) < (M.n : Int) := by omega
  rw [show decide (50 < M.n) = true from decide_eq_true h1, Bool.true_or]
  go_enter Tryz.func23, Tryz.ntmps23
  go_wp2
  go_ret
  exact ⟨rfl, (by repeat' (first | exact Below.refl _ _ | assumption | refine Below.drew ?_ | refine bdn ?_ _ | refine bal ?_ _ | refine Below.setCell ?_ (by first | (simp; done) | omega | (simp; omega)) _))⟩
 ·have h1z : ¬ (50 : Int) < (M.n : Int) := by omega
  rw [show decide (50 < M.n) = false from decide_eq_false h1, Bool.false_or]
  by_cases h2 : 30 < M.m
  ·have h2z : (30 : Int) < (M.m : Int) := by omega
   rw [show decide (30 < M.m) = true from decide_eq_true h2]
   go_enter Tryz.func23, Tryz.ntmps23
   go_wp2
   go_ret
   exact ⟨rfl, (by repeat' (first | exact Below.refl _ _ | assumption | refine Below.drew ?_ | refine bdn ?_ _ | refine bal ?_ _ | refine Below.setCell ?_ (by first | (simp; done) | omega | (simp; omega)) _))⟩
  ·have h2z : ¬ (30 : Int) < (M.m : Int) := by omega
   rw [show decide (30 < M.m) = false from decide_eq_false h2]
   go_enter Tryz.func23, Tryz.ntmps23
   go_wp2
   go_ret
   exact ⟨rfl, (by repeat' (first | exact Below.refl _ _ | assumption | refine Below.drew ?_ | refine bdn ?_ _ | refine bal ?_ _ | refine Below.setCell ?_ (by first | (simp; done) | omega | (simp; omega)) _))⟩
theorem MetAt.setRow {w : World} {vF vS : Value} {M : MetD} (h : MetAt w vF vS M) {g : Nat} (h1 : ∀ b, some b = vF.ownBlock → b ≠ g) (h2 : ∀ b, some b = vS.ownBlock → b ≠ g) (us : Array Value) : MetAt (w.setRow g us) vF vS M := by
 obtain ⟨⟨A, c, rfl, q1, q2, q3⟩, ⟨A', c', rfl, k1, k2, k3⟩⟩ := h
 exact ⟨⟨A, c, rfl, q1, q2, q3.frame (by simp [World.setRow]) (fun _ b off e => setRow_other _ _ _ _ (h1 b (by rw [e]; rfl)))⟩, ⟨A', c', rfl, k1, k2, k3.frame (by simp [World.setRow]) (fun _ b off e => setRow_other _ _ _ _ (h2 b (by rw [e]; rfl)))⟩⟩
end Go.Proofs.YtlambeiafdpkgaaGreat
