/- Texts joined: JAO. -/
import Derived.Test.YtlambeiafdpkgaaGreatJAN
set_option linter.all false
namespace Go.Proofs.YtlambeiafdpkgaaGreat
open Go Go.RowKit Go.Proofs
set_option maxRecDepth 100000
set_option maxHeartbeats 8000000
def righB (pl p f u : Int) : Bool := inB p 0 (pl - 1) && (inB f 0 (wrap64 (u - 1)) && decide (u ≤ 2000))
theorem right_w (M : MetD) (vF vS : Value) (p f u : Int) (w : World) (h1 : 1 ≤ M.places) (h2 : M.places ≤ 8) :
  Calls Tryz.prog 64 #[.agg #[.int .i64 p, .int .i64 f, .int .i64 u], .agg #[.int .i64 M.places, .int .i64 M.any.a0, .int .i64 M.any.a1, .int .i64 M.any.a2, .int .i64 M.any.a3, .int .i64 M.any.a4, .int .i64 M.any.a5, .bool M.any.i, .bool M.any.s, .int .i64 M.mw, .int .i64 M.ms, .int .i64 M.mc, vF, vS]] w fun e w' => e = .returned (.bool (righB M.places p f u)) ∧ Below w.heap.size w w' := by
 unfold righB
 generalize hk : wrap64 (u - 1) = k
 have HK := hI9 hk
 cases b0 : inB p 0 (M.places - 1)
 ·go_enter Tryz.func64, Tryz.ntmps64
  go_wp2_with (first | (go_at_call 67; (with_reducible refine (wwithin_c _ _ _ _).mono ?_); rintro e w1 ⟨rfl, rfl⟩))
  go_ret
  exact ⟨ret_bool (by simp [b0]), (by repeat' (first | exact Below.refl _ _ | assumption | refine Below.drew ?_ | refine bdn ?_ _ | refine bal ?_ _ | refine Below.setCell ?_ (by first | (simp; done) | omega | (simp; omega)) _))⟩
 ·cases b1 : inB f 0 k
  ·go_enter Tryz.func64, Tryz.ntmps64
   go_wp2_with (first | (go_at_call 67; (with_reducible refine (wwithin_c _ _ _ _).mono ?_); rintro e w1 ⟨rfl, rfl⟩))
   go_ret
   exact ⟨ret_bool (by simp [b0, b1]), (by repeat' (first | exact Below.refl _ _ | assumption | refine Below.drew ?_ | refine bdn ?_ _ | refine bal ?_ _ | refine Below.setCell ?_ (by first | (simp; done) | omega | (simp; omega)) _))⟩
  ·go_enter Tryz.func64, Tryz.ntmps64
   go_wp2_with (first | (go_at_call 67; (with_reducible refine (wwithin_c _ _ _ _).mono ?_); rintro e w1 ⟨rfl, rfl⟩))
   go_ret
   exact ⟨ret_bool (by simp [b0, b1]), (by repeat' (first | exact Below.refl _ _ | assumption | refine Below.drew ?_ | refine bdn ?_ _ | refine bal ?_ _ | refine Below.setCell ?_ (by first | (simp; done) | omega | (simp; omega)) _))⟩
theorem Tryz.entW : ∀ args w, (callFunc 66 args).run Tryz.prog w = .ok (.enter 66 args) w := enters_of Tryz.func66 (by kernel_rfl) rfl
theorem wplace_c (gm : Nat) (n pl : Int) (w : World) (h : w.cell? ⟨gm, 0, none⟩ = some (.int .i64 pl)) (h1 : 1 ≤ pl) (h2 : pl ≤ 8) :
  Calls Tryz.prog 66 #[.int .i64 n, .pointer (some ⟨gm, 0, none⟩)] w fun e w' => e = .returned (.bool (!inB n 0 (pl - 1))) ∧ w = w' := by
 go_enter Tryz.func66, Tryz.ntmps66
 go_wp2_with (first | (go_at_call 67; (with_reducible refine (wwithin_c _ _ _ _).mono ?_); rintro e w1 ⟨rfl, rfl⟩))
 go_ret
 exact ⟨rfl, rfl⟩
theorem cfw_c (b c gm : Nat) (q pl : Int) (w : World) (h0 : w.cell? ⟨b, 0, none⟩ = some (.int .i64 q)) (h : w.cell? ⟨gm, 0, none⟩ = some (.int .i64 pl)) (h1 : 1 ≤ pl) (h2 : pl ≤ 8) :
  Calls Tryz.prog 65 #[.slice (some ⟨b, 0, none⟩) 1 c, .func (.func 66) #[] #[.pointer (some ⟨gm, 0, none⟩)]] w fun e w' => e = .returned (.bool (!inB q 0 (pl - 1))) ∧ Below w.heap.size w w' := by
 have hh := cfInt_c (some ⟨b, 0, none⟩) 1 c (fun _ => q) 66 #[.pointer (some ⟨gm, 0, none⟩)] (fun _ => !inB q 0 (pl - 1)) w (by omega) Tryz.entW
  (fun _ => ⟨b, 0, rfl, blk_lt h0, fun k hk => by
   obtain rfl : k = 0 := by omega
   simpa using h0⟩)
  (fun w1 k hk hb => by
   refine (wplace_c gm q pl w1 ((hb.cell (p := ⟨gm, 0, none⟩) (blk_lt h)).trans h) h1 h2).mono ?_
   rintro _ _ ⟨rfl, rfl⟩
   exact ⟨rfl, Below.refl _ _⟩)
 have e : (List.range 1).any (fun _ => !inB q 0 (pl - 1)) = !inB q 0 (pl - 1) := by simp [List.range_succ]
 rw [e] at hh
 exact hh
def cwE (M : MetD) (lw ls lc f u q : Int) : Int := if minE M lw ls lc = 0 then (if !righB M.places 0 f u || !inB q 0 (M.places - 1) then 1 else 0) else minE M lw ls lc
theorem wcheckWindow_c (M : MetD) (vF vS : Value) (lw ls lc : Int) (li lt : Bool) (f u q : Int) (b c : Nat) (w : World) (hA : MetAt w vF vS M) (hq : w.cell? ⟨b, 0, none⟩ = some (.int .i64 q)) :
  Calls Tryz.prog 32 #[.agg #[.int .i64 M.places, .int .i64 M.any.a0, .int .i64 M.any.a1, .int .i64 M.any.a2, .int .i64 M.any.a3, .int .i64 M.any.a4, .int .i64 M.any.a5, .bool M.any.i, .bool M.any.s, .int .i64 M.mw, .int .i64 M.ms, .int .i64 M.mc, vF, vS], .agg #[.int .i64 lw, .int .i64 ls, .int .i64 lc, .bool li, .bool lt], .int .i64 f, .int .i64 u, .slice (some ⟨b, 0, none⟩) 1 c] w fun e w' => e = .returned (.int .i64 (cwE M lw ls lc f u q)) ∧ Below w.heap.size w w' := by
 have HA := hI9 hA
 have hmn := fun w1 h => wminima_c M vF vS lw ls lc li lt w1 h
 have HQ := hI9 (fun w1 (h : Below w.heap.size w w1) => (h.cell (p := ⟨b, 0, none⟩) (blk_lt hq)).trans hq)
 have HC0 := hI9 (fun (W1 : World) (h : Blk W1 w.heap.size 34 #[.int .i64 M.places, .int .i64 M.any.a0, .int .i64 M.any.a1, .int .i64 M.any.a2, .int .i64 M.any.a3, .int .i64 M.any.a4, .int .i64 M.any.a5, .bool M.any.i, .bool M.any.s, .int .i64 M.mw, .int .i64 M.ms, .int .i64 M.mc, vF, vS]) => (show W1.cell? ⟨w.heap.size, 0, none⟩ = some (.int .i64 M.places) from h.cell 0))
 clear hA hq
 unfold cwE
 by_cases he : minE M lw ls lc = 0
 ·have hp := (MetD.ok_of (minE_bad he)).places
  have hp1 := hp.1
  have hp2 := hp.2
  rw [if_pos he]
  rw [he] at hmn
  have HMN := hI9 hmn
  have hri := fun w1 => right_w M vF vS 0 f u w1 hp1 hp2
  have hcf := fun w1 h0 h => cfw_c b c w.heap.size q M.places w1 h0 h hp1 hp2
  clear hmn he hp
  cases hr : righB M.places 0 f u
  ·rw [hr] at hri
   have HRI := hI9 hri
   have HCF := hI9 hcf
   clear hri hr hcf
   rw [show ∀ b : Bool, (!false || b) = true from fun _ => rfl, if_pos rfl]
   go_enter Tryz.func32, Tryz.ntmps32
   go_wp2_with (first | (refine wpl_row rfl 34 _ rfl _ rfl _ 14 ?_ Tryz.rowMet rfl ?_; (focus exact (by repeat (first | (refine Blk.newAt _ _ _ ?_; first | rfl | (simp; done)) | refine Blk.alloc ?_ _))); simp only [Act.put]) | (refine wpl_row rfl 41 _ rfl _ rfl _ 5 ?_ Tryz.rowMin rfl ?_; (focus exact (by repeat (first | (refine Blk.newAt _ _ _ ?_; first | rfl | (simp; done)) | refine Blk.alloc ?_ _))); simp only [Act.put]))
   have _x := frm2 w #[.int .i64 M.places, .int .i64 M.any.a0, .int .i64 M.any.a1, .int .i64 M.any.a2, .int .i64 M.any.a3, .int .i64 M.any.a4, .int .i64 M.any.a5, .bool M.any.i, .bool M.any.s, .int .i64 M.mw, .int .i64 M.ms, .int .i64 M.mc, vF, vS] 34 #[.int .i64 lw, .int .i64 ls, .int .i64 lc, .bool li, .bool lt] 41
   have HX := hI9 _x.1
   have HL := hI9 _x.2.1
   have HB := hI9 _x.2.2.1
   have zW := _x.2.2.2
   clear _x
   generalize World.alloc (World.alloc w _) _ = W at *
   go_wp2_with (first | (go_at_call 63; (with_reducible refine (HMN.out _ (HA.out.below HB.out)).mono ?_); rintro e w1 ⟨rfl, hb1⟩; have nHX := hI9 (HX.out.below hb1); have nHL := hI9 (HL.out.below hb1); have nHB := hI9 (bthen HB.out hb1); have zz1 := hb1.size; clear HX HL HB hb1; have HX := nHX; have HL := nHL; have HB := nHB; clear nHX nHL nHB) | (refine wpl_row rfl 34 _ rfl _ rfl _ 14 HX.out Tryz.rowMet rfl ?_; simp only [Act.put]) | (go_at_call 64; (with_reducible refine (HRI.out _).mono ?_); rintro e w1 ⟨rfl, hb1⟩; have nHX := hI9 (HX.out.below hb1); have nHL := hI9 (HL.out.below hb1); have nHB := hI9 (bthen HB.out hb1); have zz1 := hb1.size; clear HX HL HB hb1; have HX := nHX; have HL := nHL; have HB := nHB; clear nHX nHL nHB) | (go_at_call 65; (with_reducible refine (HCF.out _ (HQ.out _ HB.out) (HC0.out _ HX.out)).mono ?_); rintro e w1 ⟨rfl, hb1⟩; have nHX := hI9 (HX.out.below hb1); have nHL := hI9 (HL.out.below hb1); have nHB := hI9 (bthen HB.out hb1); have zz1 := hb1.size; clear HX HL HB hb1; have HX := nHX; have HL := nHL; have HB := nHB; clear nHX nHL nHB))
   go_ret
   exact ⟨rfl, HB.out⟩
  ·rw [hr] at hri
   have HRI := hI9 hri
   clear hri hr
   rw [show ∀ b : Bool, (!true || b) = b from fun _ => rfl]
   cases hn : inB q 0 (M.places - 1)
   ·rw [hn] at hcf
    have HCF := hI9 hcf
    clear hcf hn
    rw [if_pos (show (!false) = true from rfl)]
    go_enter Tryz.func32, Tryz.ntmps32
    go_wp2_with (first | (refine wpl_row rfl 34 _ rfl _ rfl _ 14 ?_ Tryz.rowMet rfl ?_; (focus exact (by repeat (first | (refine Blk.newAt _ _ _ ?_; first | rfl | (simp; done)) | refine Blk.alloc ?_ _))); simp only [Act.put]) | (refine wpl_row rfl 41 _ rfl _ rfl _ 5 ?_ Tryz.rowMin rfl ?_; (focus exact (by repeat (first | (refine Blk.newAt _ _ _ ?_; first | rfl | (simp; done)) | refine Blk.alloc ?_ _))); simp only [Act.put]))
    have _x := frm2 w #[.int .i64 M.places, .int .i64 M.any.a0, .int .i64 M.any.a1, .int .i64 M.any.a2, .int .i64 M.any.a3, .int .i64 M.any.a4, .int .i64 M.any.a5, .bool M.any.i, .bool M.any.s, .int .i64 M.mw, .int .i64 M.ms, .int .i64 M.mc, vF, vS] 34 #[.int .i64 lw, .int .i64 ls, .int .i64 lc, .bool li, .bool lt] 41
    have HX := hI9 _x.1
    have HL := hI9 _x.2.1
    have HB := hI9 _x.2.2.1
    have zW := _x.2.2.2
    clear _x
    generalize World.alloc (World.alloc w _) _ = W at *
    go_wp2_with (first | (go_at_call 63; (with_reducible refine (HMN.out _ (HA.out.below HB.out)).mono ?_); rintro e w1 ⟨rfl, hb1⟩; have nHX := hI9 (HX.out.below hb1); have nHL := hI9 (HL.out.below hb1); have nHB := hI9 (bthen HB.out hb1); have zz1 := hb1.size; clear HX HL HB hb1; have HX := nHX; have HL := nHL; have HB := nHB; clear nHX nHL nHB) | (refine wpl_row rfl 34 _ rfl _ rfl _ 14 HX.out Tryz.rowMet rfl ?_; simp only [Act.put]) | (go_at_call 64; (with_reducible refine (HRI.out _).mono ?_); rintro e w1 ⟨rfl, hb1⟩; have nHX := hI9 (HX.out.below hb1); have nHL := hI9 (HL.out.below hb1); have nHB := hI9 (bthen HB.out hb1); have zz1 := hb1.size; clear HX HL HB hb1; have HX := nHX; have HL := nHL; have HB := nHB; clear nHX nHL nHB) | (go_at_call 65; (with_reducible refine (HCF.out _ (HQ.out _ HB.out) (HC0.out _ HX.out)).mono ?_); rintro e w1 ⟨rfl, hb1⟩; have nHX := hI9 (HX.out.below hb1); have nHL := hI9 (HL.out.below hb1); have nHB := hI9 (bthen HB.out hb1); have zz1 := hb1.size; clear HX HL HB hb1; have HX := nHX; have HL := nHL; have HB := nHB; clear nHX nHL nHB))
    go_ret
    exact ⟨rfl, HB.out⟩
   ·rw [hn] at hcf
    have HCF := hI9 hcf
    clear hcf hn
    rw [if_neg (by decide)]
    go_enter Tryz.func32, Tryz.ntmps32
    go_wp2_with (first | (refine wpl_row rfl 34 _ rfl _ rfl _ 14 ?_ Tryz.rowMet rfl ?_; (focus exact (by repeat (first | (refine Blk.newAt _ _ _ ?_; first | rfl | (simp; done)) | refine Blk.alloc ?_ _))); simp only [Act.put]) | (refine wpl_row rfl 41 _ rfl _ rfl _ 5 ?_ Tryz.rowMin rfl ?_; (focus exact (by repeat (first | (refine Blk.newAt _ _ _ ?_; first | rfl | (simp; done)) | refine Blk.alloc ?_ _))); simp only [Act.put]))
    have _x := frm2 w #[.int .i64 M.places, .int .i64 M.any.a0, .int .i64 M.any.a1, .int .i64 M.any.a2, .int .i64 M.any.a3, .int .i64 M.any.a4, .int .i64 M.any.a5, .bool M.any.i, .bool M.any.s, .int .i64 M.mw, .int .i64 M.ms, .int .i64 M.mc, vF, vS] 34 #[.int .i64 lw, .int .i64 ls, .int .i64 lc, .bool li, .bool lt] 41
    have HX := hI9 _x.1
    have HL := hI9 _x.2.1
    have HB := hI9 _x.2.2.1
    have zW := _x.2.2.2
    clear _x
    generalize World.alloc (World.alloc w _) _ = W at *
    go_wp2_with (first | (go_at_call 63; (with_reducible refine (HMN.out _ (HA.out.below HB.out)).mono ?_); rintro e w1 ⟨rfl, hb1⟩; have nHX := hI9 (HX.out.below hb1); have nHL := hI9 (HL.out.below hb1); have nHB := hI9 (bthen HB.out hb1); have zz1 := hb1.size; clear HX HL HB hb1; have HX := nHX; have HL := nHL; have HB := nHB; clear nHX nHL nHB) | (refine wpl_row rfl 34 _ rfl _ rfl _ 14 HX.out Tryz.rowMet rfl ?_; simp only [Act.put]) | (go_at_call 64; (with_reducible refine (HRI.out _).mono ?_); rintro e w1 ⟨rfl, hb1⟩; have nHX := hI9 (HX.out.below hb1); have nHL := hI9 (HL.out.below hb1); have nHB := hI9 (bthen HB.out hb1); have zz1 := hb1.size; clear HX HL HB hb1; have HX := nHX; have HL := nHL; have HB := nHB; clear nHX nHL nHB) | (go_at_call 65; (with_reducible refine (HCF.out _ (HQ.out _ HB.out) (HC0.out _ HX.out)).mono ?_); rintro e w1 ⟨rfl, hb1⟩; have nHX := hI9 (HX.out.below hb1); have nHL := hI9 (HL.out.below hb1); have nHB := hI9 (bthen HB.out hb1); have zz1 := hb1.size; clear HX HL HB hb1; have HX := nHX; have HL := nHL; have HB := nHB; clear nHX nHL nHB))
    go_ret
    exact ⟨rfl, HB.out⟩
 ·rw [if_neg he]
  have hez : (minE M lw ls lc != 0) = true := by simpa using he
  generalize minE M lw ls lc = E at *
  have HMN := hI9 hmn
  have HRI := hI9 (fun (_ : World) => True.intro)
  have HCF := hI9 (fun (_ : World) (_ : True) (_ : True) => True.intro)
  clear hmn he
  go_enter Tryz.func32, Tryz.ntmps32
  go_wp2_with (first | (refine wpl_row rfl 34 _ rfl _ rfl _ 14 ?_ Tryz.rowMet rfl ?_; (focus exact (by repeat (first | (refine Blk.newAt _ _ _ ?_; first | rfl | (simp; done)) | refine Blk.alloc ?_ _))); simp only [Act.put]) | (refine wpl_row rfl 41 _ rfl _ rfl _ 5 ?_ Tryz.rowMin rfl ?_; (focus exact (by repeat (first | (refine Blk.newAt _ _ _ ?_; first | rfl | (simp; done)) | refine Blk.alloc ?_ _))); simp only [Act.put]))
  have _x := frm2 w #[.int .i64 M.places, .int .i64 M.any.a0, .int .i64 M.any.a1, .int .i64 M.any.a2, .int .i64 M.any.a3, .int .i64 M.any.a4, .int .i64 M.any.a5, .bool M.any.i, .bool M.any.s, .int .i64 M.mw, .int .i64 M.ms, .int .i64 M.mc, vF, vS] 34 #[.int .i64 lw, .int .i64 ls, .int .i64 lc, .bool li, .bool lt] 41
  have HX := hI9 _x.1
  have HL := hI9 _x.2.1
  have HB := hI9 _x.2.2.1
  have zW := _x.2.2.2
  clear _x
  generalize World.alloc (World.alloc w _) _ = W at *
  go_wp2_with (first | (go_at_call 63; (with_reducible refine (HMN.out _ (HA.out.below HB.out)).mono ?_); rintro e w1 ⟨rfl, hb1⟩; have nHX := hI9 (HX.out.below hb1); have nHL := hI9 (HL.out.below hb1); have nHB := hI9 (bthen HB.out hb1); have zz1 := hb1.size; clear HX HL HB hb1; have HX := nHX; have HL := nHL; have HB := nHB; clear nHX nHL nHB) | (refine wpl_row rfl 34 _ rfl _ rfl _ 14 HX.out Tryz.rowMet rfl ?_; simp only [Act.put]) | (go_at_call 64; (with_reducible refine (HRI.out _).mono ?_); rintro e w1 ⟨rfl, hb1⟩; have nHX := hI9 (HX.out.below hb1); have nHL := hI9 (HL.out.below hb1); have nHB := hI9 (bthen HB.out hb1); have zz1 := hb1.size; clear HX HL HB hb1; have HX := nHX; have HL := nHL; have HB := nHB; clear nHX nHL nHB) | (go_at_call 65; (with_reducible refine (HCF.out _ (HQ.out _ HB.out) (HC0.out _ HX.out)).mono ?_); rintro e w1 ⟨rfl, hb1⟩; have nHX := hI9 (HX.out.below hb1); have nHL := hI9 (HL.out.below hb1); have nHB := hI9 (bthen HB.out hb1); have zz1 := hb1.size; clear HX HL HB hb1; have HX := nHX; have HL := nHL; have HB := nHB; clear nHX nHL nHB))
  go_ret
  exact ⟨rfl, HB.out⟩
end Go.Proofs.YtlambeiafdpkgaaGreat

namespace Go.Proofs.YtlambeiafdpkgaaGreat
open Go Go.RowKit Go.Proofs
set_option maxRecDepth 100000
def winA (out : List (Int × Int)) (t : Int) : List (Int × Int) :=
 match out.getLast? with
 | some p => if p.2 = t - 1 then out.dropLast ++ [(p.1, t)] else out ++ [(t, t)]
 | none => out ++ [(t, t)]
def winR (op : Int → Bool) : Nat → Int → List (Int × Int) → List (Int × Int)
 | 0, _, out => out
 | k + 1, t, out => winR op k (t + 1) (if op t then winA out t else out)
def spC (l : List (Int × Int)) : List Value := l.flatMap fun p => [.int .i64 p.1, .int .i64 p.2]
theorem spC_length (l : List (Int × Int)) : (spC l).length = l.length * 2 := by
 induction l with
 | nil => rfl
 | cons p l ih => simp only [spC, List.flatMap_cons, List.length_append, List.length_cons, List.length_nil] at *; omega
theorem spC_snoc (l : List (Int × Int)) (p : Int × Int) : spC (l ++ [p]) = spC l ++ [.int .i64 p.1, .int .i64 p.2] := by simp [spC, List.flatMap_append]
theorem owns_set {w : World} {base g c i : Nat} {e : TypeId} {size : Nat} {n : Nat} {xs : List Value} (h : w.ownsRow base e size (.slice (some ⟨g, 0, none⟩) n c) n xs) (hi : i < n * size) (u : Value) :
  (w.setCell ⟨g, i, none⟩ u).ownsRow base e size (.slice (some ⟨g, 0, none⟩) n c) n (xs.set i u) := by
 obtain ⟨h1, h2⟩ := h
 refine ⟨by rw [List.length_set]; exact h1, ?_⟩
 rcases h2 with ⟨h2, -⟩ | ⟨g', cap, cur, hv, hb, hh, r1, r2, r3, r4⟩
 ·cases h2
 ·simp only [Value.slice.injEq, Option.some.injEq, Addr.mk.injEq, and_true] at hv
  obtain ⟨rfl, -, rfl⟩ := hv
  refine .inr ⟨g, c, cur.setIfInBounds i u, rfl, hb, (show Blk _ g e _ from (show Blk w g e cur from hh).set_ i u), r1, r2, by simpa using r3, ?_⟩
  rw [Array.toList_setIfInBounds, List.take_set, r4]
end Go.Proofs.YtlambeiafdpkgaaGreat

namespace Go.Proofs.YtlambeiafdpkgaaGreat
open Go Go.RowKit Go.Proofs
set_option maxRecDepth 100000
set_option maxHeartbeats 4000000
end Go.Proofs.YtlambeiafdpkgaaGreat

namespace Go.Proofs.YtlambeiafdpkgaaGreat
open Go Go.RowKit Go.Proofs
set_option maxRecDepth 100000
set_option maxHeartbeats 8000000
theorem Tryz.spI : (Tryz.prog.info? 28).map (fun i => (i.zero.map (·.cells.size), i.size, decide (i.bytes ≤ 200))) = some (some 2, 2, true) := by kernel_rfl
theorem Tryz.spU : Tryz.prog.underlying 24 = some (.slice 28) := by kernel_rfl
theorem wpl_appW {ops : Array Oper} {rest : List Oper} {o : Oper} {a : Act} {w : World} {Q : Exit → Act → World → Prop} (hgd : o.guard = none) (s x : Operand)
  (ho : o.op = .call { callee := .builtin .append, args := #[s, x], argTypes := #[24, 24] }) (base : Nat) (v : Value) (l : List (Int × Int)) (hs : a.eval s = v) (hown : w.ownsRow base 28 2 v l.length (spC l))
  (g : Nat) (p : Int × Int) (hx : a.eval x = .slice (some ⟨g, 0, none⟩) 1 1) (hc0 : w.cell? ⟨g, 0, none⟩ = some (.int .i64 p.1)) (hc1 : w.cell? ⟨g, 1, none⟩ = some (.int .i64 p.2)) (h40 : l.length ≤ 3000) (hbase : base ≤ w.heap.size)
  (h : ∀ v' w', w'.ownsRow base 28 2 v' (l ++ [p]).length (spC (l ++ [p])) → w.grownBy w' v.ownBlock → v' ≠ .slice none 0 0 → wpList Tryz.prog ops Q rest (a.put o.dst v') w') : wpList Tryz.prog ops Q (o :: rest) a w := by
 have hi := Tryz.spI
 cases hI : Tryz.prog.info? 28 with
 | none => rw [hI] at hi; cases hi
 | some i =>
  rw [hI] at hi
  simp only [Option.map_some, Option.some.injEq, Prod.mk.injEq, decide_eq_true_eq] at hi
  obtain ⟨i1, i2, i3⟩ := hi
  cases hz : i.zero with
  | none => rw [hz] at i1; cases i1
  | some z =>
   rw [hz] at i1
   simp only [Option.map_some, Option.some.injEq] at i1
   have hb : (l.length + 1) * i.bytes ≤ 3001 * 200 := Nat.mul_le_mul (by omega) i3
   refine wpList_append_own w hgd s x 24 ho base 28 i z 2 i.bytes Tryz.spU hI hz i2 rfl i1 (by decide) v l.length (spC l) hs hown ⟨g, 0, none⟩ 1 1 [.int .i64 p.1, .int .i64 p.2] hx rfl ?_ ?_ (by unfold maxLen; omega) (by omega) hbase ?_
   ·intro j u hj
    match j, hj with
    | 0, hj =>
     have : u = .int .i64 p.1 := by simpa using hj.symm
     subst this
     exact hc0
    | 1, hj =>
     have : u = .int .i64 p.2 := by simpa using hj.symm
     subst this
     exact hc1
   ·intro u hu
    simp only [List.mem_cons, List.not_mem_nil, or_false] at hu
    rcases hu with rfl | rfl <;> rfl
   ·intro v' w' h1 h2 h3
    refine h v' w' (by rw [spC_snoc]; simpa using h1) h2 (fun e => ?_)
    have := (h3.1 e).2
    omega
structure WiK (M : MetD) (vF vS : Value) (lw ls lc : Int) (li lt : Bool) (w : World) (l : List (Int × Int)) (v : Value) (wr : World) : Prop where
 k : FiK M vF vS lw ls lc li lt w wr
 o : wr.ownsRow (w.heap.size + 2) 28 2 v l.length (spC l)
 n : v = .slice none 0 0 ↔ l = []
 z : w.heap.size + 2 ≤ wr.heap.size
theorem WiK.grow {M : MetD} {vF vS : Value} {lw ls lc : Int} {li lt : Bool} {w wr w2 : World} {l : List (Int × Int)} {v : Value} (h : WiK M vF vS lw ls lc li lt w l v wr) (hb : Below wr.heap.size wr w2) : WiK M vF vS lw ls lc li lt w l v w2 :=
 ⟨h.k.grow hb, ownsRow_below h.o hb, h.n, Nat.le_trans h.z hb.size⟩
theorem FiK.under {M : MetD} {vF vS : Value} {lw ls lc : Int} {li lt : Bool} {w wr w2 : World} (h : FiK M vF vS lw ls lc li lt w wr) (hb : Below (w.heap.size + 2) wr w2) : FiK M vF vS lw ls lc li lt w w2 :=
 ⟨h.b.trans (hb.mono (by omega)), h.m.under hb (by omega), h.l.under hb (by omega)⟩
theorem WiK.take {M : MetD} {vF vS : Value} {lw ls lc : Int} {li lt : Bool} {w wr w2 : World} {l : List (Int × Int)} {v v' : Value} {p : Int × Int} (h : WiK M vF vS lw ls lc li lt w l v wr) (h1 : w2.ownsRow (w.heap.size + 2) 28 2 v' (l ++ [p]).length (spC (l ++ [p])))
  (h2 : wr.grownBy w2 v.ownBlock) (h3 : v' ≠ .slice none 0 0) : WiK M vF vS lw ls lc li lt w (l ++ [p]) v' w2 :=
 ⟨h.k.under (below_grown h2 h.z (fun b hb => owns_base h.o hb)), h1, by simp [h3], Nat.le_trans h.z h2.size⟩
theorem WiK.widen {M : MetD} {vF vS : Value} {lw ls lc : Int} {li lt : Bool} {w wr : World} {l : List (Int × Int)} {p : Int × Int} {g c : Nat} (h : WiK M vF vS lw ls lc li lt w (l ++ [p]) (.slice (some ⟨g, 0, none⟩) (l.length + 1) c) wr) (t : Int) :
  WiK M vF vS lw ls lc li lt w (l ++ [(p.1, t)]) (.slice (some ⟨g, 0, none⟩) (l.length + 1) c) (wr.setCell ⟨g, l.length * 2 + 1, none⟩ (.int .i64 t)) := by
 have hg : w.heap.size + 2 ≤ g := owns_base h.o rfl
 have ho := h.o
 rw [List.length_append, List.length_singleton] at ho
 have hs := owns_set ho (i := l.length * 2 + 1) (by omega) (.int .i64 t)
 have e : (spC (l ++ [p])).set (l.length * 2 + 1) (.int .i64 t) = spC (l ++ [(p.1, t)]) := by
  rw [spC_snoc, spC_snoc, List.set_append_right _ _ (by rw [spC_length]; omega), spC_length]
  rw [show l.length * 2 + 1 - l.length * 2 = 1 by omega]
  rfl
 rw [e] at hs
 refine ⟨h.k.under ⟨rfl, rfl, rfl, by simp [World.setCell], fun k hk => Below.heap_setCell _ _ _ _ (by show k ≠ g; omega)⟩, by rw [List.length_append, List.length_singleton]; exact hs, by simp, by simpa [World.setCell] using h.z⟩
end Go.Proofs.YtlambeiafdpkgaaGreat

namespace Go.Proofs.YtlambeiafdpkgaaGreat
open Go Go.RowKit Go.Proofs
set_option maxRecDepth 100000
set_option maxHeartbeats 8000000
structure OneK (w : World) (t : TypeId) (cs : Array Value) (wr : World) : Prop where
 b : Below w.heap.size w wr
 m : Blk wr w.heap.size t cs
theorem OneK.grow {w : World} {t : TypeId} {cs : Array Value} {wr w2 : World} (h : OneK w t cs wr) (hb : Below wr.heap.size wr w2) : OneK w t cs w2 := ⟨bthen h.b hb, h.m.below hb⟩
structure TwoK (w : World) (t : TypeId) (cs : Array Value) (t2 : TypeId) (cs2 : Array Value) (wr : World) : Prop where
 b : Below w.heap.size w wr
 m : Blk wr w.heap.size t cs
 s : Blk wr (w.heap.size + 1) t2 cs2
theorem TwoK.grow {w : World} {t : TypeId} {cs : Array Value} {t2 : TypeId} {cs2 : Array Value} {wr w2 : World} (h : TwoK w t cs t2 cs2 wr) (hb : Below wr.heap.size wr w2) : TwoK w t cs t2 cs2 w2 := ⟨bthen h.b hb, h.m.below hb, h.s.below hb⟩
theorem dmanned_c (D : DekD) (vA vB vC : Value) (t : Int) (w : World) (hO : D.Ok) (hD : DekAt w vA vB vC D) :
  Calls Tryz.prog 60 #[.agg #[.int .i64 D.size, .int .i64 D.load, .int .i64 D.wind, vA, .int .i64 D.pitch, .int .i64 D.roll, .int .i64 D.heave, .int .i64 D.fire, vB, vC], .int .i64 t] w fun e w' => e = .returned (.bool (manB D t)) ∧ Below w.heap.size w w' := by
 have HD := hI9 hD
 obtain ⟨A, c, rfl, hc1, hc2, -⟩ := hD.h.e
 have HO := hI9 hO
 clear hO hD
 unfold manB
 obtain ⟨R, hR⟩ : ∃ q, q = manR D t D.nh 0 0 := ⟨_, rfl⟩
 rw [← hR]
 have HR := hI9 hR
 clear hR
 go_enter Tryz.func60, Tryz.ntmps60
 go_wp2_with (fail)
 have _x := frm1 w #[.int .i64 D.size, .int .i64 D.load, .int .i64 D.wind, vA, .int .i64 D.pitch, .int .i64 D.roll, .int .i64 D.heave, .int .i64 D.fire, .slice A D.nh c, vC] 26
 have HX := hI9 _x.1
 have HB := hI9 _x.2.1
 have zW := _x.2.2
 clear _x
 generalize World.alloc w _ = W at *
 have zHX := HX.out.lt
 have cHX8 := HX.out.cell 8
 go_wp2_with (fail)
 have K0 := hI9 (show OneK w _ _ W from ⟨HB.out, HX.out⟩)
 clear HX HB
 go_loopg [5, 11] D.nh (fun gx p i wr => ∃ (k : Nat) (q : Int), i = .int .i64 k ∧ p = .int .i64 q ∧ k ≤ D.nh ∧ D.nh - k ≤ gx ∧ 0 ≤ q ∧ q ≤ 100 * k ∧ Hid (OneK w 26 #[.int .i64 D.size, .int .i64 D.load, .int .i64 D.wind, vA, .int .i64 D.pitch, .int .i64 D.roll, .int .i64 D.heave, .int .i64 D.fire, .slice A D.nh c, vC] wr) ∧ Hid (manR D t (D.nh - k) k q = R))
 case atStart => exact ⟨0, 0, rfl, rfl, Nat.zero_le _, Nat.le_refl _, Int.le_refl _, by omega, K0, HR.out.symm⟩
 case round =>
  clear K0
  obtain ⟨k, q, rfl, rfl, hk, hgx, hq0, hq1, K0, HE⟩ := hrel
  have hnh := HO.out.nh
  by_cases hlt : k < D.nh
  ·have hltz : (k : Int) < (D.nh : Int) := by omega
   obtain ⟨A', c', hA', -, -, hrec⟩ := HD.out.h.e
   simp only [Value.slice.injEq] at hA'
   obtain ⟨rfl, -, rfl⟩ := hA'
   obtain ⟨bs, off, rfl, hbs, hcell⟩ := hrec (by omega)
   have c0 : wr.cell? ⟨bs, off + k * 3, none⟩ = some (.int .i64 (D.H k 0)) := (K0.out.b.cell (p := ⟨bs, off + k * 3 + 0, none⟩) hbs).trans (hcell k hlt 0 (by omega))
   have c1 : wr.cell? ⟨bs, off + k * 3 + 1, none⟩ = some (.int .i64 (D.H k 1)) := (K0.out.b.cell (p := ⟨bs, off + k * 3 + 1, none⟩) hbs).trans (hcell k hlt 1 (by omega))
   have c2 : wr.cell? ⟨bs, off + k * 3 + 2, none⟩ = some (.int .i64 (D.H k 2)) := (K0.out.b.cell (p := ⟨bs, off + k * 3 + 2, none⟩) hbs).trans (hcell k hlt 2 (by omega))
   clear hcell
   have hE := HE.out
   rw [show D.nh - k = (D.nh - (k + 1)) + 1 by omega] at hE
   unfold manR at hE
   have hh := HO.out.h k hlt
   have hwi := fun w1 => dwithin_c t (D.H k 0) (wrap64 (D.H k 1 - 1)) w1
   have K2 := hI9 (K0.out.grow (bal (Below.refl _ _) (.cells #[.int .i64 (D.H k 0), .int .i64 (D.H k 1), .int .i64 (D.H k 2)] 183)))
   cases hb : inB t (D.H k 0) (wrap64 (D.H k 1 - 1))
   ·rw [hb] at hE hwi
    have HW := hI9 hwi
    have HE2 := hI9 (show manR D t (D.nh - (k + 1)) (k + 1) q = R from hE)
    clear hE HE hb hwi K0
    go_wp2_with (first | (go_at_call 34; (with_reducible refine (HW.out _).mono ?_); rintro e w1 ⟨rfl, rfl⟩))
    go_roundg (D.nh - (k + 1))
    case measure => omega
    case rel => exact ⟨k + 1, q, by first | rfl | go_num | (congr 1; omega), rfl, by omega, Nat.le_refl _, hq0, by omega, K2, HE2⟩
   ·rw [hb] at hE hwi
    have HW := hI9 hwi
    have HE2 := hI9 (show manR D t (D.nh - (k + 1)) (k + 1) (q + D.H k 2) = R from hE)
    clear hE HE hb hwi K0
    go_wp2_with (first | (go_at_call 34; (with_reducible refine (HW.out _).mono ?_); rintro e w1 ⟨rfl, rfl⟩))
    go_roundg (D.nh - (k + 1))
    case measure => omega
    case rel => exact ⟨k + 1, q + D.H k 2, by first | rfl | go_num | (congr 1; omega), by first | rfl | go_num | (congr 1; omega), by omega, Nat.le_refl _, by omega, by omega, K2, HE2⟩
  ·obtain rfl : k = D.nh := by omega
   have hE := HE.out
   rw [Nat.sub_self] at hE
   have hq : q = R := hE
   subst hq
   have c7 := K0.out.m.cell 7
   simp only [gtA, gtS, gtZ] at c7
   go_wp2_with (fail)
   go_ret
   exact ⟨rfl, K0.out.b⟩
theorem dlimit_c (D : DekD) (vA vB vC : Value) (lo hi : Int) (w : World) (hO : D.Ok) (hD : DekAt w vA vB vC D) (h0 : 0 ≤ lo) (h1 : hi ≤ 719) :
  Calls Tryz.prog 58 #[.agg #[.int .i64 D.size, .int .i64 D.load, .int .i64 D.wind, vA, .int .i64 D.pitch, .int .i64 D.roll, .int .i64 D.heave, .int .i64 D.fire, vB, vC], .agg #[.int .i64 lo, .int .i64 hi]] w fun e w' => e = .returned (.int .i64 (limV D lo hi)) ∧ Below w.heap.size w w' := by
 have HD := hI9 hD
 obtain ⟨A, c, rfl, hc1, hc2, -⟩ := hD.s.e
 have HO := hI9 hO
 clear hO hD
 unfold limV
 obtain ⟨R, hR⟩ : ∃ q, q = limN D (hi + 1 - lo).toNat lo D.wind := ⟨_, rfl⟩
 rw [← hR]
 have HR := hI9 hR
 clear hR
 go_enter Tryz.func58, Tryz.ntmps58
 go_wp2_with (fail)
 have _x := frm2 w #[.int .i64 D.size, .int .i64 D.load, .int .i64 D.wind, .slice A D.ns c, .int .i64 D.pitch, .int .i64 D.roll, .int .i64 D.heave, .int .i64 D.fire, vB, vC] 26 #[.int .i64 lo, .int .i64 hi] 28
 have HX := hI9 _x.1
 have HY := hI9 _x.2.1
 have HB := hI9 _x.2.2.1
 have zW := _x.2.2.2
 clear _x
 generalize World.alloc (World.alloc w _) _ = W at *
 have zHX := HX.out.lt
 have cHX2 := HX.out.cell 2
 have zHY := HY.out.lt
 have cHY0 := HY.out.cell 0
 go_wp2_with (fail)
 have K0 := hI9 (show TwoK w _ _ _ _ W from ⟨HB.out, HX.out, HY.out⟩)
 clear HX HY HB
 go_loopg [5, 6] (hi + 1 - lo).toNat (fun gx l i wr => ∃ (ll nn : Int), l = .int .i64 ll ∧ i = .int .i64 nn ∧ 0 ≤ nn ∧ (hi + 1 - nn).toNat ≤ gx ∧ Hid (TwoK w 26 #[.int .i64 D.size, .int .i64 D.load, .int .i64 D.wind, .slice A D.ns c, .int .i64 D.pitch, .int .i64 D.roll, .int .i64 D.heave, .int .i64 D.fire, vB, vC] 28 #[.int .i64 lo, .int .i64 hi] wr) ∧ Hid (limN D (hi + 1 - nn).toNat nn ll = R))
 case atStart => exact ⟨D.wind, lo, rfl, rfl, h0, Nat.le_refl _, K0, HR.out.symm⟩
 case round =>
  clear K0
  obtain ⟨ll, nn, rfl, rfl, hn0, hgx, K0, HE⟩ := hrel
  have m3 := K0.out.m.cell 3
  have s1 := K0.out.s.cell 1
  simp only [gtA, gtS, gtZ] at m3 s1
  by_cases hle : nn ≤ hi
  ·have hE := HE.out
   rw [show (hi + 1 - nn).toNat = (hi + 1 - (nn + 1)).toNat + 1 by omega] at hE
   unfold limN at hE
   obtain ⟨L, hL⟩ : ∃ q, q = limS D (nn % 360) D.ns 0 ll := ⟨_, rfl⟩
   rw [← hL] at hE
   have HL := hI9 hL
   have HE2 := hI9 hE
   have hns := HO.out.ns
   have hrem : Int.tmod nn 360 = nn % 360 := Int.tmod_eq_emod_of_nonneg hn0
   clear hL hE HE
   go_wp2_with (fail)
   clear m3 s1
   go_loopg [5, 22] D.ns (fun gy l i wr2 => ∃ (k : Nat) (q : Int), i = .int .i64 k ∧ l = .int .i64 q ∧ k ≤ D.ns ∧ D.ns - k ≤ gy ∧ Hid (TwoK w 26 #[.int .i64 D.size, .int .i64 D.load, .int .i64 D.wind, .slice A D.ns c, .int .i64 D.pitch, .int .i64 D.roll, .int .i64 D.heave, .int .i64 D.fire, vB, vC] 28 #[.int .i64 lo, .int .i64 hi] wr2) ∧ Hid (limS D (nn % 360) (D.ns - k) k q = L))
   case atStart => exact ⟨0, ll, rfl, rfl, Nat.zero_le _, Nat.le_refl _, K0, HL.out.symm⟩
   case round =>
    clear K0
    obtain ⟨k, q, rfl, rfl, hk, hgy, K0, HF⟩ := hrel
    by_cases hlt : k < D.ns
    ·have hltz : (k : Int) < (D.ns : Int) := by omega
     obtain ⟨A', c', hA', -, -, hrec⟩ := HD.out.s.e
     simp only [Value.slice.injEq] at hA'
     obtain ⟨rfl, -, rfl⟩ := hA'
     obtain ⟨bs, off, rfl, hbs, hcell⟩ := hrec (by omega)
     have c0 : wr.cell? ⟨bs, off + k * 3, none⟩ = some (.int .i64 (D.S k 0)) := (K0.out.b.cell (p := ⟨bs, off + k * 3 + 0, none⟩) hbs).trans (hcell k hlt 0 (by omega))
     have c1 : wr.cell? ⟨bs, off + k * 3 + 1, none⟩ = some (.int .i64 (D.S k 1)) := (K0.out.b.cell (p := ⟨bs, off + k * 3 + 1, none⟩) hbs).trans (hcell k hlt 1 (by omega))
     have c2 : wr.cell? ⟨bs, off + k * 3 + 2, none⟩ = some (.int .i64 (D.S k 2)) := (K0.out.b.cell (p := ⟨bs, off + k * 3 + 2, none⟩) hbs).trans (hcell k hlt 2 (by omega))
     clear hcell
     have hF := HF.out
     rw [show D.ns - k = (D.ns - (k + 1)) + 1 by omega] at hF
     unfold limS at hF
     have hli := fun w1 => dlies_c (D.S k 0) (D.S k 1) (D.S k 2) (nn % 360) w1
     cases hb : secB (D.S k 0) (D.S k 1) (nn % 360)
     ·rw [hb] at hF hli
      have HW := hI9 hli
      have HF2 := hI9 (show limS D (nn % 360) (D.ns - (k + 1)) (k + 1) q = L from hF)
      clear hF HF hb hli
      go_wp2_with (go_at_call 108; refine (HW.out _).mono ?_; rintro e w2 ⟨rfl, hb2⟩)
      go_roundg (D.ns - (k + 1))
      case measure => omega
      case rel => exact ⟨k + 1, q, by first | rfl | go_num | (congr 1; omega), rfl, by omega, Nat.le_refl _, hI9 (K0.out.grow (bthen (bal (Below.refl _ _) _) hb2)), HF2⟩
     ·rw [hb] at hF hli
      have HW := hI9 hli
      have HF2 := hI9 (show limS D (nn % 360) (D.ns - (k + 1)) (k + 1) (min q (D.S k 2)) = L from hF)
      clear hF HF hb hli
      go_wp2_with (go_at_call 108; refine (HW.out _).mono ?_; rintro e w2 ⟨rfl, hb2⟩; have ct := ((Blk.new wr 181 #[.int .i64 (D.S k 0), .int .i64 (D.S k 1), .int .i64 (D.S k 2)]).below hb2).cell 2; simp only [gtA, gtS, gtZ] at ct)
      go_roundg (D.ns - (k + 1))
      case measure => omega
      case rel => exact ⟨k + 1, min q (D.S k 2), by first | rfl | go_num | (congr 1; omega), by first | rfl | go_num | (congr 1; omega), by omega, Nat.le_refl _, hI9 (K0.out.grow (bthen (bal (Below.refl _ _) _) hb2)), HF2⟩
    ·obtain rfl : k = D.ns := by omega
     have hF := HF.out
     rw [Nat.sub_self] at hF
     have hq : q = L := hF
     subst hq
     go_wp2_with (fail)
     go_roundg (hi + 1 - (nn + 1)).toNat
     case measure => omega
     case rel => exact ⟨q, nn + 1, rfl, by first | rfl | go_num | (congr 1; omega), by omega, Nat.le_refl _, K0, HE2⟩
  ·have hE := HE.out
   rw [show (hi + 1 - nn).toNat = 0 by omega] at hE
   have hq : ll = R := hE
   subst hq
   go_wp2_with (fail)
   go_ret
   exact ⟨rfl, K0.out.b⟩
end Go.Proofs.YtlambeiafdpkgaaGreat
