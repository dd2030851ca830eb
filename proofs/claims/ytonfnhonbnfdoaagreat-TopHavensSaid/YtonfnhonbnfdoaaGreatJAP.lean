/- Texts joined: JAP. -/
import Derived.Test.YtonfnhonbnfdoaaGreatJAN
import Derived.Test.YtonfnhonbnfdoaaGreatJAC
set_option linter.all false
namespace Go.Proofs.YtonfnhonbnfdoaaGreat
open Go Go.RowKit Go.Proofs
set_option maxRecDepth 100000
set_option maxHeartbeats 8000000

def righB (pl p f u : Int) : Bool := inB p 0 (pl - 1) && (inB f 0 (wrap64 (u - 1)) && decide (u ≤ 2000))
theorem right_w (M : MetD) (vF vS : Value) (p f u : Int) (w : World) (h1 : 1 ≤ M.places) (h2 : M.places ≤ 8) :
   Calls Tryz.prog 79 #[.agg #[.int .i64 p, .int .i64 f, .int .i64 u], .agg #[.int .i64 M.places, .int .i64 M.any.a0, .int .i64 M.any.a1, .int .i64 M.any.a2, .int .i64 M.any.a3, .int .i64 M.any.a4, .int .i64 M.any.a5, .bool M.any.i, .bool M.any.s, .int .i64 M.mw, .int .i64 M.ms, .int .i64 M.mc, vF, vS]] w fun e w' => e = .returned (.bool (righB M.places p f u)) ∧ Below w.heap.size w w' := by
  unfold righB
  generalize hk : wrap64 (u - 1) = k
  have HK := Lib.hid hk
  cases b0 : inB p 0 (M.places - 1)
  · go_enter Tryz.func79, Tryz.ntmps79
    go_wp2_with (first | (go_at_call 82; (with_reducible refine (wwithin_c _ _ _ _).mono ?_); rintro e w1 ⟨rfl, rfl⟩))
    go_ret
    exact ⟨ret_bool (by simp [b0]), (by repeat' (first | exact Below.refl _ _ | assumption | refine Below.drew ?_ | refine bdn ?_ _ | refine bal ?_ _ | refine Below.setCell ?_ (by first | (simp; done) | omega | (simp; omega)) _))⟩
  · cases b1 : inB f 0 k
    · go_enter Tryz.func79, Tryz.ntmps79
      go_wp2_with (first | (go_at_call 82; (with_reducible refine (wwithin_c _ _ _ _).mono ?_); rintro e w1 ⟨rfl, rfl⟩))
      go_ret
      exact ⟨ret_bool (by simp [b0, b1]), (by repeat' (first | exact Below.refl _ _ | assumption | refine Below.drew ?_ | refine bdn ?_ _ | refine bal ?_ _ | refine Below.setCell ?_ (by first | (simp; done) | omega | (simp; omega)) _))⟩
    · go_enter Tryz.func79, Tryz.ntmps79
      go_wp2_with (first | (go_at_call 82; (with_reducible refine (wwithin_c _ _ _ _).mono ?_); rintro e w1 ⟨rfl, rfl⟩))
      go_ret
      exact ⟨ret_bool (by simp [b0, b1]), (by repeat' (first | exact Below.refl _ _ | assumption | refine Below.drew ?_ | refine bdn ?_ _ | refine bal ?_ _ | refine Below.setCell ?_ (by first | (simp; done) | omega | (simp; omega)) _))⟩

theorem Tryz.entW : ∀ args w, (callFunc 81 args).run Tryz.prog w = .ok (.enter 81 args) w := enters_of Tryz.func81 (by kernel_rfl) rfl
theorem wplace_c (gm : Nat) (n pl : Int) (w : World) (h : w.cell? ⟨gm, 0, none⟩ = some (.int .i64 pl)) (h1 : 1 ≤ pl) (h2 : pl ≤ 8) :
   Calls Tryz.prog 81 #[.int .i64 n, .pointer (some ⟨gm, 0, none⟩)] w fun e w' => e = .returned (.bool (!inB n 0 (pl - 1))) ∧ w = w' := by
  go_enter Tryz.func81, Tryz.ntmps81
  go_wp2_with (first | (go_at_call 82; (with_reducible refine (wwithin_c _ _ _ _).mono ?_); rintro e w1 ⟨rfl, rfl⟩))
  go_ret
  exact ⟨rfl, rfl⟩
/-- One place among the places. -/
theorem cfw_c (b c gm : Nat) (q pl : Int) (w : World) (h0 : w.cell? ⟨b, 0, none⟩ = some (.int .i64 q)) (h : w.cell? ⟨gm, 0, none⟩ = some (.int .i64 pl)) (h1 : 1 ≤ pl) (h2 : pl ≤ 8) :
    Calls Tryz.prog 80 #[.slice (some ⟨b, 0, none⟩) 1 c, .func (.func 81) #[] #[.pointer (some ⟨gm, 0, none⟩)]] w fun e w' => e = .returned (.bool (!inB q 0 (pl - 1))) ∧ Below w.heap.size w w' := by
  have hh := cfInt_c (some ⟨b, 0, none⟩) 1 c (fun _ => q) 81 #[.pointer (some ⟨gm, 0, none⟩)] (fun _ => !inB q 0 (pl - 1)) w (by omega) Tryz.entW
    (fun _ => ⟨b, 0, rfl, blk_lt h0, fun k hk => by
      obtain rfl : k = 0 := by omega
      simpa using h0⟩)
    (fun w1 k hk hb => by
      refine (wplace_c gm q pl w1 ((hb.cell (p := ⟨gm, 0, none⟩) (blk_lt h)).trans h) h1 h2).mono ?_
      rintro _ _ ⟨rfl, rfl⟩
      exact ⟨rfl, Below.refl _ _⟩)
  have e : (List.range 1).any (fun _ => !inB q 0 (pl - 1)) = !inB q 0 (pl - 1) := by simp [List.range_succ]
  rw [e] at hh
  exact hh
def cwE (M : MetD) (lw ls lc f u q : Int) : Int := if minE M lw ls lc = 0 then (if !righB M.places 0 f u || !inB q 0 (M.places - 1) then 1 else 0) else minE M lw ls lc
theorem wcheckWindow_c (M : MetD) (vF vS : Value) (lw ls lc : Int) (li lt : Bool) (f u q : Int) (b c : Nat) (w : World) (hA : MetAt w vF vS M) (hq : w.cell? ⟨b, 0, none⟩ = some (.int .i64 q)) :
   Calls Tryz.prog 38 #[.agg #[.int .i64 M.places, .int .i64 M.any.a0, .int .i64 M.any.a1, .int .i64 M.any.a2, .int .i64 M.any.a3, .int .i64 M.any.a4, .int .i64 M.any.a5, .bool M.any.i, .bool M.any.s, .int .i64 M.mw, .int .i64 M.ms, .int .i64 M.mc, vF, vS], .agg #[.int .i64 lw, .int .i64 ls, .int .i64 lc, .bool li, .bool lt], .int .i64 f, .int .i64 u, .slice (some ⟨b, 0, none⟩) 1 c] w fun e w' => e = .returned (.int .i64 (cwE M lw ls lc f u q)) ∧ Below w.heap.size w w' := by
  have HA := Lib.hid hA
  have hmn := fun w1 h => wminima_c M vF vS lw ls lc li lt w1 h
  have HQ := Lib.hid (fun w1 (h : Below w.heap.size w w1) => (h.cell (p := ⟨b, 0, none⟩) (blk_lt hq)).trans hq)
  have HC0 := Lib.hid (fun (W1 : World) (h : Blk W1 w.heap.size 29 #[.int .i64 M.places, .int .i64 M.any.a0, .int .i64 M.any.a1, .int .i64 M.any.a2, .int .i64 M.any.a3, .int .i64 M.any.a4, .int .i64 M.any.a5, .bool M.any.i, .bool M.any.s, .int .i64 M.mw, .int .i64 M.ms, .int .i64 M.mc, vF, vS]) => (show W1.cell? ⟨w.heap.size, 0, none⟩ = some (.int .i64 M.places) from h.cell 0))
  clear hA hq
  unfold cwE
  by_cases he : minE M lw ls lc = 0
  · have hp := (MetD.ok_of (minE_bad he)).places
    have hp1 := hp.1
    have hp2 := hp.2
    rw [if_pos he]
    rw [he] at hmn
    have HMN := Lib.hid hmn
    have hri := fun w1 => right_w M vF vS 0 f u w1 hp1 hp2
    have hcf := fun w1 h0 h => cfw_c b c w.heap.size q M.places w1 h0 h hp1 hp2
    clear hmn he hp
    cases hr : righB M.places 0 f u
    · rw [hr] at hri
      have HRI := Lib.hid hri
      have HCF := Lib.hid hcf
      clear hri hr hcf
      rw [show ∀ b : Bool, (!false || b) = true from fun _ => rfl, if_pos rfl]
      go_enter Tryz.func38, Tryz.ntmps38
      go_wp2_with (first | (refine wpl_row rfl 29 _ rfl _ rfl #[.int .i64 M.places, .int .i64 M.any.a0, .int .i64 M.any.a1, .int .i64 M.any.a2, .int .i64 M.any.a3, .int .i64 M.any.a4, .int .i64 M.any.a5, .bool M.any.i, .bool M.any.s, .int .i64 M.mw, .int .i64 M.ms, .int .i64 M.mc, vF, vS] 14 ?_ Tryz.rowMet rfl ?_; (focus exact (by repeat (first | (refine Blk.newAt _ _ _ ?_; first | rfl | (simp; done)) | refine Blk.alloc ?_ _))); simp only [Act.put]) | (refine wpl_row rfl 31 _ rfl _ rfl #[.int .i64 lw, .int .i64 ls, .int .i64 lc, .bool li, .bool lt] 5 ?_ Tryz.rowMin rfl ?_; (focus exact (by repeat (first | (refine Blk.newAt _ _ _ ?_; first | rfl | (simp; done)) | refine Blk.alloc ?_ _))); simp only [Act.put]))
      have _x := frm2 w #[.int .i64 M.places, .int .i64 M.any.a0, .int .i64 M.any.a1, .int .i64 M.any.a2, .int .i64 M.any.a3, .int .i64 M.any.a4, .int .i64 M.any.a5, .bool M.any.i, .bool M.any.s, .int .i64 M.mw, .int .i64 M.ms, .int .i64 M.mc, vF, vS] 29 #[.int .i64 lw, .int .i64 ls, .int .i64 lc, .bool li, .bool lt] 31
      have HX := Lib.hid _x.1
      have HL := Lib.hid _x.2.1
      have HB := Lib.hid _x.2.2.1
      have zW := _x.2.2.2
      clear _x
      generalize World.alloc (World.alloc w _) _ = W at *
      go_wp2_with (first | (go_at_call 78; (with_reducible refine (HMN.out _ (HA.out.below HB.out)).mono ?_); rintro e w1 ⟨rfl, hb1⟩; have nHX := Lib.hid (HX.out.below hb1); have nHL := Lib.hid (HL.out.below hb1); have nHB := Lib.hid (bthen HB.out hb1); have zz1 := hb1.size; clear HX HL HB hb1; have HX := nHX; have HL := nHL; have HB := nHB; clear nHX nHL nHB) | (refine wpl_row rfl 29 _ rfl _ rfl #[.int .i64 M.places, .int .i64 M.any.a0, .int .i64 M.any.a1, .int .i64 M.any.a2, .int .i64 M.any.a3, .int .i64 M.any.a4, .int .i64 M.any.a5, .bool M.any.i, .bool M.any.s, .int .i64 M.mw, .int .i64 M.ms, .int .i64 M.mc, vF, vS] 14 HX.out Tryz.rowMet rfl ?_; simp only [Act.put]) | (go_at_call 79; (with_reducible refine (HRI.out _).mono ?_); rintro e w1 ⟨rfl, hb1⟩; have nHX := Lib.hid (HX.out.below hb1); have nHL := Lib.hid (HL.out.below hb1); have nHB := Lib.hid (bthen HB.out hb1); have zz1 := hb1.size; clear HX HL HB hb1; have HX := nHX; have HL := nHL; have HB := nHB; clear nHX nHL nHB) | (go_at_call 80; (with_reducible refine (HCF.out _ (HQ.out _ HB.out) (HC0.out _ HX.out)).mono ?_); rintro e w1 ⟨rfl, hb1⟩; have nHX := Lib.hid (HX.out.below hb1); have nHL := Lib.hid (HL.out.below hb1); have nHB := Lib.hid (bthen HB.out hb1); have zz1 := hb1.size; clear HX HL HB hb1; have HX := nHX; have HL := nHL; have HB := nHB; clear nHX nHL nHB))
      go_ret
      exact ⟨rfl, HB.out⟩
    · rw [hr] at hri
      have HRI := Lib.hid hri
      clear hri hr
      rw [show ∀ b : Bool, (!true || b) = b from fun _ => rfl]
      cases hn : inB q 0 (M.places - 1)
      · rw [hn] at hcf
        have HCF := Lib.hid hcf
        clear hcf hn
        rw [if_pos (show (!false) = true from rfl)]
        go_enter Tryz.func38, Tryz.ntmps38
        go_wp2_with (first | (refine wpl_row rfl 29 _ rfl _ rfl #[.int .i64 M.places, .int .i64 M.any.a0, .int .i64 M.any.a1, .int .i64 M.any.a2, .int .i64 M.any.a3, .int .i64 M.any.a4, .int .i64 M.any.a5, .bool M.any.i, .bool M.any.s, .int .i64 M.mw, .int .i64 M.ms, .int .i64 M.mc, vF, vS] 14 ?_ Tryz.rowMet rfl ?_; (focus exact (by repeat (first | (refine Blk.newAt _ _ _ ?_; first | rfl | (simp; done)) | refine Blk.alloc ?_ _))); simp only [Act.put]) | (refine wpl_row rfl 31 _ rfl _ rfl #[.int .i64 lw, .int .i64 ls, .int .i64 lc, .bool li, .bool lt] 5 ?_ Tryz.rowMin rfl ?_; (focus exact (by repeat (first | (refine Blk.newAt _ _ _ ?_; first | rfl | (simp; done)) | refine Blk.alloc ?_ _))); simp only [Act.put]))
        have _x := frm2 w #[.int .i64 M.places, .int .i64 M.any.a0, .int .i64 M.any.a1, .int .i64 M.any.a2, .int .i64 M.any.a3, .int .i64 M.any.a4, .int .i64 M.any.a5, .bool M.any.i, .bool M.any.s, .int .i64 M.mw, .int .i64 M.ms, .int .i64 M.mc, vF, vS] 29 #[.int .i64 lw, .int .i64 ls, .int .i64 lc, .bool li, .bool lt] 31
        have HX := Lib.hid _x.1
        have HL := Lib.hid _x.2.1
        have HB := Lib.hid _x.2.2.1
        have zW := _x.2.2.2
        clear _x
        generalize World.alloc (World.alloc w _) _ = W at *
        go_wp2_with (first | (go_at_call 78; (with_reducible refine (HMN.out _ (HA.out.below HB.out)).mono ?_); rintro e w1 ⟨rfl, hb1⟩; have nHX := Lib.hid (HX.out.below hb1); have nHL := Lib.hid (HL.out.below hb1); have nHB := Lib.hid (bthen HB.out hb1); have zz1 := hb1.size; clear HX HL HB hb1; have HX := nHX; have HL := nHL; have HB := nHB; clear nHX nHL nHB) | (refine wpl_row rfl 29 _ rfl _ rfl #[.int .i64 M.places, .int .i64 M.any.a0, .int .i64 M.any.a1, .int .i64 M.any.a2, .int .i64 M.any.a3, .int .i64 M.any.a4, .int .i64 M.any.a5, .bool M.any.i, .bool M.any.s, .int .i64 M.mw, .int .i64 M.ms, .int .i64 M.mc, vF, vS] 14 HX.out Tryz.rowMet rfl ?_; simp only [Act.put]) | (go_at_call 79; (with_reducible refine (HRI.out _).mono ?_); rintro e w1 ⟨rfl, hb1⟩; have nHX := Lib.hid (HX.out.below hb1); have nHL := Lib.hid (HL.out.below hb1); have nHB := Lib.hid (bthen HB.out hb1); have zz1 := hb1.size; clear HX HL HB hb1; have HX := nHX; have HL := nHL; have HB := nHB; clear nHX nHL nHB) | (go_at_call 80; (with_reducible refine (HCF.out _ (HQ.out _ HB.out) (HC0.out _ HX.out)).mono ?_); rintro e w1 ⟨rfl, hb1⟩; have nHX := Lib.hid (HX.out.below hb1); have nHL := Lib.hid (HL.out.below hb1); have nHB := Lib.hid (bthen HB.out hb1); have zz1 := hb1.size; clear HX HL HB hb1; have HX := nHX; have HL := nHL; have HB := nHB; clear nHX nHL nHB))
        go_ret
        exact ⟨rfl, HB.out⟩
      · rw [hn] at hcf
        have HCF := Lib.hid hcf
        clear hcf hn
        rw [if_neg (by decide)]
        go_enter Tryz.func38, Tryz.ntmps38
        go_wp2_with (first | (refine wpl_row rfl 29 _ rfl _ rfl #[.int .i64 M.places, .int .i64 M.any.a0, .int .i64 M.any.a1, .int .i64 M.any.a2, .int .i64 M.any.a3, .int .i64 M.any.a4, .int .i64 M.any.a5, .bool M.any.i, .bool M.any.s, .int .i64 M.mw, .int .i64 M.ms, .int .i64 M.mc, vF, vS] 14 ?_ Tryz.rowMet rfl ?_; (focus exact (by repeat (first | (refine Blk.newAt _ _ _ ?_; first | rfl | (simp; done)) | refine Blk.alloc ?_ _))); simp only [Act.put]) | (refine wpl_row rfl 31 _ rfl _ rfl #[.int .i64 lw, .int .i64 ls, .int .i64 lc, .bool li, .bool lt] 5 ?_ Tryz.rowMin rfl ?_; (focus exact (by repeat (first | (refine Blk.newAt _ _ _ ?_; first | rfl | (simp; done)) | refine Blk.alloc ?_ _))); simp only [Act.put]))
        have _x := frm2 w #[.int .i64 M.places, .int .i64 M.any.a0, .int .i64 M.any.a1, .int .i64 M.any.a2, .int .i64 M.any.a3, .int .i64 M.any.a4, .int .i64 M.any.a5, .bool M.any.i, .bool M.any.s, .int .i64 M.mw, .int .i64 M.ms, .int .i64 M.mc, vF, vS] 29 #[.int .i64 lw, .int .i64 ls, .int .i64 lc, .bool li, .bool lt] 31
        have HX := Lib.hid _x.1
        have HL := Lib.hid _x.2.1
        have HB := Lib.hid _x.2.2.1
        have zW := _x.2.2.2
        clear _x
        generalize World.alloc (World.alloc w _) _ = W at *
        go_wp2_with (first | (go_at_call 78; (with_reducible refine (HMN.out _ (HA.out.below HB.out)).mono ?_); rintro e w1 ⟨rfl, hb1⟩; have nHX := Lib.hid (HX.out.below hb1); have nHL := Lib.hid (HL.out.below hb1); have nHB := Lib.hid (bthen HB.out hb1); have zz1 := hb1.size; clear HX HL HB hb1; have HX := nHX; have HL := nHL; have HB := nHB; clear nHX nHL nHB) | (refine wpl_row rfl 29 _ rfl _ rfl #[.int .i64 M.places, .int .i64 M.any.a0, .int .i64 M.any.a1, .int .i64 M.any.a2, .int .i64 M.any.a3, .int .i64 M.any.a4, .int .i64 M.any.a5, .bool M.any.i, .bool M.any.s, .int .i64 M.mw, .int .i64 M.ms, .int .i64 M.mc, vF, vS] 14 HX.out Tryz.rowMet rfl ?_; simp only [Act.put]) | (go_at_call 79; (with_reducible refine (HRI.out _).mono ?_); rintro e w1 ⟨rfl, hb1⟩; have nHX := Lib.hid (HX.out.below hb1); have nHL := Lib.hid (HL.out.below hb1); have nHB := Lib.hid (bthen HB.out hb1); have zz1 := hb1.size; clear HX HL HB hb1; have HX := nHX; have HL := nHL; have HB := nHB; clear nHX nHL nHB) | (go_at_call 80; (with_reducible refine (HCF.out _ (HQ.out _ HB.out) (HC0.out _ HX.out)).mono ?_); rintro e w1 ⟨rfl, hb1⟩; have nHX := Lib.hid (HX.out.below hb1); have nHL := Lib.hid (HL.out.below hb1); have nHB := Lib.hid (bthen HB.out hb1); have zz1 := hb1.size; clear HX HL HB hb1; have HX := nHX; have HL := nHL; have HB := nHB; clear nHX nHL nHB))
        go_ret
        exact ⟨rfl, HB.out⟩
  · rw [if_neg he]
    have hez : (minE M lw ls lc != 0) = true := by simpa using he
    generalize minE M lw ls lc = E at *
    have HMN := Lib.hid hmn
    have HRI := Lib.hid (fun (_ : World) => True.intro)
    have HCF := Lib.hid (fun (_ : World) (_ : True) (_ : True) => True.intro)
    clear hmn he
    go_enter Tryz.func38, Tryz.ntmps38
    go_wp2_with (first | (refine wpl_row rfl 29 _ rfl _ rfl #[.int .i64 M.places, .int .i64 M.any.a0, .int .i64 M.any.a1, .int .i64 M.any.a2, .int .i64 M.any.a3, .int .i64 M.any.a4, .int .i64 M.any.a5, .bool M.any.i, .bool M.any.s, .int .i64 M.mw, .int .i64 M.ms, .int .i64 M.mc, vF, vS] 14 ?_ Tryz.rowMet rfl ?_; (focus exact (by repeat (first | (refine Blk.newAt _ _ _ ?_; first | rfl | (simp; done)) | refine Blk.alloc ?_ _))); simp only [Act.put]) | (refine wpl_row rfl 31 _ rfl _ rfl #[.int .i64 lw, .int .i64 ls, .int .i64 lc, .bool li, .bool lt] 5 ?_ Tryz.rowMin rfl ?_; (focus exact (by repeat (first | (refine Blk.newAt _ _ _ ?_; first | rfl | (simp; done)) | refine Blk.alloc ?_ _))); simp only [Act.put]))
    have _x := frm2 w #[.int .i64 M.places, .int .i64 M.any.a0, .int .i64 M.any.a1, .int .i64 M.any.a2, .int .i64 M.any.a3, .int .i64 M.any.a4, .int .i64 M.any.a5, .bool M.any.i, .bool M.any.s, .int .i64 M.mw, .int .i64 M.ms, .int .i64 M.mc, vF, vS] 29 #[.int .i64 lw, .int .i64 ls, .int .i64 lc, .bool li, .bool lt] 31
    have HX := Lib.hid _x.1
    have HL := Lib.hid _x.2.1
    have HB := Lib.hid _x.2.2.1
    have zW := _x.2.2.2
    clear _x
    generalize World.alloc (World.alloc w _) _ = W at *
    go_wp2_with (first | (go_at_call 78; (with_reducible refine (HMN.out _ (HA.out.below HB.out)).mono ?_); rintro e w1 ⟨rfl, hb1⟩; have nHX := Lib.hid (HX.out.below hb1); have nHL := Lib.hid (HL.out.below hb1); have nHB := Lib.hid (bthen HB.out hb1); have zz1 := hb1.size; clear HX HL HB hb1; have HX := nHX; have HL := nHL; have HB := nHB; clear nHX nHL nHB) | (refine wpl_row rfl 29 _ rfl _ rfl #[.int .i64 M.places, .int .i64 M.any.a0, .int .i64 M.any.a1, .int .i64 M.any.a2, .int .i64 M.any.a3, .int .i64 M.any.a4, .int .i64 M.any.a5, .bool M.any.i, .bool M.any.s, .int .i64 M.mw, .int .i64 M.ms, .int .i64 M.mc, vF, vS] 14 HX.out Tryz.rowMet rfl ?_; simp only [Act.put]) | (go_at_call 79; (with_reducible refine (HRI.out _).mono ?_); rintro e w1 ⟨rfl, hb1⟩; have nHX := Lib.hid (HX.out.below hb1); have nHL := Lib.hid (HL.out.below hb1); have nHB := Lib.hid (bthen HB.out hb1); have zz1 := hb1.size; clear HX HL HB hb1; have HX := nHX; have HL := nHL; have HB := nHB; clear nHX nHL nHB) | (go_at_call 80; (with_reducible refine (HCF.out _ (HQ.out _ HB.out) (HC0.out _ HX.out)).mono ?_); rintro e w1 ⟨rfl, hb1⟩; have nHX := Lib.hid (HX.out.below hb1); have nHL := Lib.hid (HL.out.below hb1); have nHB := Lib.hid (bthen HB.out hb1); have zz1 := hb1.size; clear HX HL HB hb1; have HX := nHX; have HL := nHL; have HB := nHB; clear nHX nHL nHB))
    go_ret
    exact ⟨rfl, HB.out⟩
end Go.Proofs.YtonfnhonbnfdoaaGreat

namespace Go.Proofs.YtonfnhonbnfdoaaGreat
open Go Go.RowKit Go.Proofs
set_option maxRecDepth 100000
set_option maxHeartbeats 8000000

theorem rw_from_c (n lo hi : Int) (w : World) : Calls Tryz.prog 32 #[.int .i64 n, .int .i64 lo, .int .i64 hi] w fun e w' => e = .returned (.bool (inB n lo hi)) ∧ w = w' := by
  unfold inB
  by_cases h1 : lo ≤ n <;> by_cases h2 : n ≤ hi
  all_goals
    go_enter Tryz.func32, Tryz.ntmps32
    go_wp2
    go_ret
    exact ⟨by simp [h1, h2], rfl⟩
theorem insB_rng {lo hi m : Int} : insB lo hi m = (vspan lo hi && (decide (0 ≤ lo) && decide (hi ≤ m))) := by
  rw [Bool.eq_iff_iff, insB_iff]
  simp only [Bool.and_eq_true, decide_eq_true_eq]
  rw [vspan_iff']
  omega
theorem rw_ranged_c (lo hi m : Int) (w : World) : Calls Tryz.prog 105 #[.agg #[.int .i64 lo, .int .i64 hi], .int .i64 m] w fun e w' => e = .returned (.bool (insB lo hi m)) ∧ Below w.heap.size w w' := by
  rw [insB_rng]
  have HV := Lib.hid (fun w1 => rf_Valid_c lo hi w1)
  generalize vspan lo hi = V at *
  cases V
  · go_enter Tryz.func105, Tryz.ntmps105
    go_wp2_with (fail)
    have _x := frm1 w #[.int .i64 lo, .int .i64 hi] 23
    have HX := Lib.hid _x.1
    have HB := Lib.hid _x.2.1
    have zW := _x.2.2
    clear _x
    generalize World.alloc w _ = W at *
    go_wp2_with (first | (go_at_call 135; (with_reducible refine (HV.out _).mono ?_); rintro e w1 ⟨rfl, hb1⟩; have nHX := Lib.hid (HX.out.below hb1); have nHB := Lib.hid (bthen HB.out hb1); have zz1 := hb1.size; clear HX HB hb1; have HX := nHX; have HB := nHB; clear nHX nHB; (try clear zHX); have zHX := HX.out.lt; (try clear cHX0); have cHX0 := HX.out.cell 0; (try clear cHX1); have cHX1 := HX.out.cell 1))
    go_ret
    exact ⟨rfl, HB.out⟩
  · by_cases h1 : 0 ≤ lo <;> by_cases h2 : hi ≤ m
    all_goals
      go_enter Tryz.func105, Tryz.ntmps105
      go_wp2_with (fail)
      have _x := frm1 w #[.int .i64 lo, .int .i64 hi] 23
      have HX := Lib.hid _x.1
      have HB := Lib.hid _x.2.1
      have zW := _x.2.2
      clear _x
      generalize World.alloc w _ = W at *
      go_wp2_with (first | (go_at_call 135; (with_reducible refine (HV.out _).mono ?_); rintro e w1 ⟨rfl, hb1⟩; have nHX := Lib.hid (HX.out.below hb1); have nHB := Lib.hid (bthen HB.out hb1); have zz1 := hb1.size; clear HX HB hb1; have HX := nHX; have HB := nHB; clear nHX nHB; (try clear zHX); have zHX := HX.out.lt; (try clear cHX0); have cHX0 := HX.out.cell 0; (try clear cHX1); have cHX1 := HX.out.cell 1))
      go_ret
      exact ⟨by simp [h1, h2], HB.out⟩
theorem rw_ValidSky_c (x : Sk) (w : World) : Calls Tryz.prog 55 #[.agg #[.int .i64 x.a0, .int .i64 x.a1, .int .i64 x.a2, .int .i64 x.a3, .int .i64 x.a4, .int .i64 x.a5, .bool x.i, .bool x.s]] w fun e w' => e = .returned (.bool x.inr) ∧ Below w.heap.size w w' := by
  obtain ⟨a0, a1, a2, a3, a4, a5, xi, xs⟩ := x
  have h1 := fun w1 => rw_ranged_c a0 a1 300 w1
  have h2 := fun w1 => rw_ranged_c a2 a3 20000 w1
  have h3 := fun w1 => rw_ranged_c a4 a5 20000 w1
  show Calls _ _ _ _ fun e w' => e = .returned (.bool (insB a0 a1 300 && (insB a2 a3 20000 && insB a4 a5 20000))) ∧ Below w.heap.size w w'
  dsimp only
  generalize insB a0 a1 300 = B1 at *
  generalize insB a2 a3 20000 = B2 at *
  generalize insB a4 a5 20000 = B3 at *
  have H1 := Lib.hid h1
  have H2 := Lib.hid h2
  have H3 := Lib.hid h3
  clear h1 h2 h3
  cases B1 <;> cases B2
  all_goals
    go_enter Tryz.func55, Tryz.ntmps55
    go_wp2_with (fail)
    have _x := frm1 w #[.int .i64 a0, .int .i64 a1, .int .i64 a2, .int .i64 a3, .int .i64 a4, .int .i64 a5, .bool xi, .bool xs] 25
    have HX := Lib.hid _x.1
    have HB := Lib.hid _x.2.1
    have zW := _x.2.2
    clear _x
    generalize World.alloc w _ = W at *
    have zHX := HX.out.lt
    have cHX0 := HX.out.cell 0
    have cHX1 := HX.out.cell 1
    go_wp2_with (first | (go_at_call 105; (with_reducible refine (H1.out _).mono ?_); rintro e w1 ⟨rfl, hb1⟩; have nHX := Lib.hid (HX.out.below hb1); have nHB := Lib.hid (bthen HB.out hb1); have zz1 := hb1.size; clear HX HB hb1; have HX := nHX; have HB := nHB; clear nHX nHB; (try clear zHX); have zHX := HX.out.lt; (try clear cHX2); have cHX2 := HX.out.cell 2; (try clear cHX3); have cHX3 := HX.out.cell 3) | (go_at_call 105; (with_reducible refine (H2.out _).mono ?_); rintro e w1 ⟨rfl, hb1⟩; have nHX := Lib.hid (HX.out.below hb1); have nHB := Lib.hid (bthen HB.out hb1); have zz1 := hb1.size; clear HX HB hb1; have HX := nHX; have HB := nHB; clear nHX nHB; (try clear zHX); have zHX := HX.out.lt; (try clear cHX4); have cHX4 := HX.out.cell 4; (try clear cHX5); have cHX5 := HX.out.cell 5) | (go_at_call 105; (with_reducible refine (H3.out _).mono ?_); rintro e w1 ⟨rfl, hb1⟩; have nHX := Lib.hid (HX.out.below hb1); have nHB := Lib.hid (bthen HB.out hb1); have zz1 := hb1.size; clear HX HB hb1; have HX := nHX; have HB := nHB; clear nHX nHB))
    go_ret
    exact ⟨rfl, HB.out⟩
def wvB (a b c : Int) : Bool := inB a 0 300 && (inB b 0 20000 && inB c 0 20000)
theorem rw_ValidWeather_c (a b c : Int) (i s : Bool) (w : World) : Calls Tryz.prog 56 #[.agg #[.int .i64 a, .int .i64 b, .int .i64 c, .bool i, .bool s]] w fun e w' => e = .returned (.bool (wvB a b c)) ∧ Below w.heap.size w w' := by
  unfold wvB
  cases h1 : inB a 0 300 <;> cases h2 : inB b 0 20000
  all_goals
    go_enter Tryz.func56, Tryz.ntmps56
    go_wp2_with (first | (go_at_call 32; (with_reducible refine (rw_from_c _ _ _ _).mono ?_); rintro e w1 ⟨rfl, rfl⟩))
    go_ret
    exact ⟨rfl, (by repeat' (first | exact Below.refl _ _ | assumption | refine Below.drew ?_ | refine bdn ?_ _ | refine bal ?_ _ | refine Below.setCell ?_ (by first | (simp; done) | omega | (simp; omega)) _))⟩
theorem rw_Flyable_c (we se ce : Int) (ic st : Bool) (lw ls lc : Int) (li lt : Bool) (w : World) : Calls Tryz.prog 16 #[.agg #[.int .i64 we, .int .i64 se, .int .i64 ce, .bool ic, .bool st], .agg #[.int .i64 lw, .int .i64 ls, .int .i64 lc, .bool li, .bool lt]] w
    fun e w' => e = .returned (.bool (flyB we se ce ic st lw ls lc li lt)) ∧ Below w.heap.size w w' := by
  unfold flyB
  by_cases h1 : we ≤ lw
  · by_cases h2 : ls ≤ se
    · by_cases h3 : lc ≤ ce
      · cases ic <;> cases st <;> cases li <;> cases lt
        all_goals
          go_enter Tryz.func16, Tryz.ntmps16
          go_wp2
          go_ret
          exact ⟨ret_bool (by simp [h1, h2, h3]), (by repeat' (first | exact Below.refl _ _ | assumption | refine Below.drew ?_ | refine bdn ?_ _ | refine bal ?_ _ | refine Below.setCell ?_ (by first | (simp; done) | omega | (simp; omega)) _))⟩
      · have h3' : ce < lc := by omega
        go_enter Tryz.func16, Tryz.ntmps16
        go_wp2
        go_ret
        exact ⟨ret_bool (by rw [show decide (lc ≤ ce) = false from decide_eq_false (by omega)]; simp), (by repeat' (first | exact Below.refl _ _ | assumption | refine Below.drew ?_ | refine bdn ?_ _ | refine bal ?_ _ | refine Below.setCell ?_ (by first | (simp; done) | omega | (simp; omega)) _))⟩
    · have h2' : se < ls := by omega
      go_enter Tryz.func16, Tryz.ntmps16
      go_wp2
      go_ret
      exact ⟨ret_bool (by rw [show decide (ls ≤ se) = false from decide_eq_false (by omega)]; simp), (by repeat' (first | exact Below.refl _ _ | assumption | refine Below.drew ?_ | refine bdn ?_ _ | refine bal ?_ _ | refine Below.setCell ?_ (by first | (simp; done) | omega | (simp; omega)) _))⟩
  · have h1' : lw < we := by omega
    go_enter Tryz.func16, Tryz.ntmps16
    go_wp2
    go_ret
    exact ⟨ret_bool (by rw [show decide (we ≤ lw) = false from decide_eq_false (by omega)]; simp), (by repeat' (first | exact Below.refl _ _ | assumption | refine Below.drew ?_ | refine bdn ?_ _ | refine bal ?_ _ | refine Below.setCell ?_ (by first | (simp; done) | omega | (simp; omega)) _))⟩
end Go.Proofs.YtonfnhonbnfdoaaGreat
