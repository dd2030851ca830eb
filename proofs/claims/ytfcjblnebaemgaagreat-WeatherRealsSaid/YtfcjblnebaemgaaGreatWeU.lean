/- Contracts: where.right, checkWindow of package weather. -/
import Derived.Test.YtfcjblnebaemgaaGreatWeT
set_option linter.all false
namespace Go.Proofs.YtfcjblnebaemgaaGreat
open Go Go.RowKit Go.Proofs
set_option maxRecDepth 100000
set_option maxHeartbeats 8000000

def righB (pl p f u : Int) : Bool := inB p 0 (pl - 1) && (inB f 0 (wrap64 (u - 1)) && decide (u ≤ 2000))
theorem right_w (M : MetD) (vF vS : Value) (p f u : Int) (w : World) (h1 : 1 ≤ M.places) (h2 : M.places ≤ 8) :
   Calls Tryz.prog 66 #[.agg #[.int .i64 p, .int .i64 f, .int .i64 u], .agg #[.int .i64 M.places, .int .i64 M.any.a0, .int .i64 M.any.a1, .int .i64 M.any.a2, .int .i64 M.any.a3, .int .i64 M.any.a4, .int .i64 M.any.a5, .bool M.any.i, .bool M.any.s, .int .i64 M.mw, .int .i64 M.ms, .int .i64 M.mc, vF, vS]] w fun e w' => e = .returned (.bool (righB M.places p f u)) ∧ Below w.heap.size w w' := by
  unfold righB
  generalize hk : wrap64 (u - 1) = k
  have HK := Lib.hid hk
  cases b0 : inB p 0 (M.places - 1)
  · go_enter Tryz.func66, Tryz.ntmps66
    go_wp2_with (first | (go_at_call 41; (with_reducible refine (wwithin_c _ _ _ _).mono ?_); rintro e w1 ⟨rfl, rfl⟩))
    go_ret
    exact ⟨ret_bool (by simp [b0]), (by repeat' (first | exact Below.refl _ _ | assumption | refine Below.drew ?_ | refine bdn ?_ _ | refine bal ?_ _ | refine Below.setCell ?_ (by first | (simp; done) | omega | (simp; omega)) _))⟩
  · cases b1 : inB f 0 k
    · go_enter Tryz.func66, Tryz.ntmps66
      go_wp2_with (first | (go_at_call 41; (with_reducible refine (wwithin_c _ _ _ _).mono ?_); rintro e w1 ⟨rfl, rfl⟩))
      go_ret
      exact ⟨ret_bool (by simp [b0, b1]), (by repeat' (first | exact Below.refl _ _ | assumption | refine Below.drew ?_ | refine bdn ?_ _ | refine bal ?_ _ | refine Below.setCell ?_ (by first | (simp; done) | omega | (simp; omega)) _))⟩
    · go_enter Tryz.func66, Tryz.ntmps66
      go_wp2_with (first | (go_at_call 41; (with_reducible refine (wwithin_c _ _ _ _).mono ?_); rintro e w1 ⟨rfl, rfl⟩))
      go_ret
      exact ⟨ret_bool (by simp [b0, b1]), (by repeat' (first | exact Below.refl _ _ | assumption | refine Below.drew ?_ | refine bdn ?_ _ | refine bal ?_ _ | refine Below.setCell ?_ (by first | (simp; done) | omega | (simp; omega)) _))⟩

theorem Tryz.entW : ∀ args w, (callFunc 68 args).run Tryz.prog w = .ok (.enter 68 args) w := enters_of Tryz.func68 (by kernel_rfl) rfl
theorem wplace_c (gm : Nat) (n pl : Int) (w : World) (h : w.cell? ⟨gm, 0, none⟩ = some (.int .i64 pl)) (h1 : 1 ≤ pl) (h2 : pl ≤ 8) :
   Calls Tryz.prog 68 #[.int .i64 n, .pointer (some ⟨gm, 0, none⟩)] w fun e w' => e = .returned (.bool (!inB n 0 (pl - 1))) ∧ w = w' := by
  go_enter Tryz.func68, Tryz.ntmps68
  go_wp2_with (first | (go_at_call 41; (with_reducible refine (wwithin_c _ _ _ _).mono ?_); rintro e w1 ⟨rfl, rfl⟩))
  go_ret
  exact ⟨rfl, rfl⟩
/-- One place among the places. -/
theorem cfw_c (b c gm : Nat) (q pl : Int) (w : World) (h0 : w.cell? ⟨b, 0, none⟩ = some (.int .i64 q)) (h : w.cell? ⟨gm, 0, none⟩ = some (.int .i64 pl)) (h1 : 1 ≤ pl) (h2 : pl ≤ 8) :
    Calls Tryz.prog 67 #[.slice (some ⟨b, 0, none⟩) 1 c, .func (.func 68) #[] #[.pointer (some ⟨gm, 0, none⟩)]] w fun e w' => e = .returned (.bool (!inB q 0 (pl - 1))) ∧ Below w.heap.size w w' := by
  have hh := cfInt_c (some ⟨b, 0, none⟩) 1 c (fun _ => q) 68 #[.pointer (some ⟨gm, 0, none⟩)] (fun _ => !inB q 0 (pl - 1)) w (by omega) Tryz.entW
    (fun _ => ⟨b, 0, rfl, blk_lt h0, fun k hk => by
      obtain rfl : k = 0 := by omega
      simpa using h0⟩)
    (fun w1 k hk hb => by
      refine (wplace_c gm q pl w1 ((hb.cell (p := ⟨gm, 0, none⟩) (blk_lt h)).trans h) h1 h2).mono ?_
      rintro _ _ ⟨rfl, rfl⟩
      exact ⟨rfl, Below.refl _ _⟩)
  have e : (List.range 1).any (fun _ => !inB q 0 (pl - 1)) = !inB q 0 (pl - 1) := by simp [List.range_succ]
  rw [e] at hh
  exact hh
def cwE (M : MetD) (lw ls lc f u q : Int) : Int := if minE M lw ls lc = 0 then (if !righB M.places 0 f u || !inB q 0 (M.places - 1) then 1 else 0) else minE M lw ls lc
theorem wcheckWindow_c (M : MetD) (vF vS : Value) (lw ls lc : Int) (li lt : Bool) (f u q : Int) (b c : Nat) (w : World) (hA : MetAt w vF vS M) (hq : w.cell? ⟨b, 0, none⟩ = some (.int .i64 q)) :
   Calls Tryz.prog 40 #[.agg #[.int .i64 M.places, .int .i64 M.any.a0, .int .i64 M.any.a1, .int .i64 M.any.a2, .int .i64 M.any.a3, .int .i64 M.any.a4, .int .i64 M.any.a5, .bool M.any.i, .bool M.any.s, .int .i64 M.mw, .int .i64 M.ms, .int .i64 M.mc, vF, vS], .agg #[.int .i64 lw, .int .i64 ls, .int .i64 lc, .bool li, .bool lt], .int .i64 f, .int .i64 u, .slice (some ⟨b, 0, none⟩) 1 c] w fun e w' => e = .returned (.int .i64 (cwE M lw ls lc f u q)) ∧ Below w.heap.size w w' := by
  have HA := Lib.hid hA
  have hmn := fun w1 h => wminima_c M vF vS lw ls lc li lt w1 h
  have HQ := Lib.hid (fun w1 (h : Below w.heap.size w w1) => (h.cell (p := ⟨b, 0, none⟩) (blk_lt hq)).trans hq)
  have HC0 := Lib.hid (fun (W1 : World) (h : Blk W1 w.heap.size 29 #[.int .i64 M.places, .int .i64 M.any.a0, .int .i64 M.any.a1, .int .i64 M.any.a2, .int .i64 M.any.a3, .int .i64 M.any.a4, .int .i64 M.any.a5, .bool M.any.i, .bool M.any.s, .int .i64 M.mw, .int .i64 M.ms, .int .i64 M.mc, vF, vS]) => (show W1.cell? ⟨w.heap.size, 0, none⟩ = some (.int .i64 M.places) from h.cell 0))
  clear hA hq
  unfold cwE
  by_cases he : minE M lw ls lc = 0
  · have hp := (MetD.ok_of (minE_bad he)).places
    have hp1 := hp.1
    have hp2 := hp.2
    rw [if_pos he]
    rw [he] at hmn
    have HMN := Lib.hid hmn
    have hri := fun w1 => right_w M vF vS 0 f u w1 hp1 hp2
    have hcf := fun w1 h0 h => cfw_c b c w.heap.size q M.places w1 h0 h hp1 hp2
    clear hmn he hp
    cases hr : righB M.places 0 f u
    · rw [hr] at hri
      have HRI := Lib.hid hri
      have HCF := Lib.hid hcf
      clear hri hr hcf
      rw [show ∀ b : Bool, (!false || b) = true from fun _ => rfl, if_pos rfl]
      go_enter Tryz.func40, Tryz.ntmps40
      go_wp2_with (first | (refine wpl_row rfl 29 _ rfl _ rfl #[.int .i64 M.places, .int .i64 M.any.a0, .int .i64 M.any.a1, .int .i64 M.any.a2, .int .i64 M.any.a3, .int .i64 M.any.a4, .int .i64 M.any.a5, .bool M.any.i, .bool M.any.s, .int .i64 M.mw, .int .i64 M.ms, .int .i64 M.mc, vF, vS] 14 ?_ Tryz.rowMet rfl ?_; (focus exact (by repeat (first | (refine Blk.newAt _ _ _ ?_; first | rfl | (simp; done)) | refine Blk.alloc ?_ _))); simp only [Act.put]) | (refine wpl_row rfl 31 _ rfl _ rfl #[.int .i64 lw, .int .i64 ls, .int .i64 lc, .bool li, .bool lt] 5 ?_ Tryz.rowMin rfl ?_; (focus exact (by repeat (first | (refine Blk.newAt _ _ _ ?_; first | rfl | (simp; done)) | refine Blk.alloc ?_ _))); simp only [Act.put]))
      have bHX : Blk ((w.alloc (.cells #[.int .i64 M.places, .int .i64 M.any.a0, .int .i64 M.any.a1, .int .i64 M.any.a2, .int .i64 M.any.a3, .int .i64 M.any.a4, .int .i64 M.any.a5, .bool M.any.i, .bool M.any.s, .int .i64 M.mw, .int .i64 M.ms, .int .i64 M.mc, vF, vS] 29)).alloc (.cells #[.int .i64 lw, .int .i64 ls, .int .i64 lc, .bool li, .bool lt] 31)) (w.heap.size) 29 #[.int .i64 M.places, .int .i64 M.any.a0, .int .i64 M.any.a1, .int .i64 M.any.a2, .int .i64 M.any.a3, .int .i64 M.any.a4, .int .i64 M.any.a5, .bool M.any.i, .bool M.any.s, .int .i64 M.mw, .int .i64 M.ms, .int .i64 M.mc, vF, vS] := (by repeat (first | (refine Blk.newAt _ _ _ ?_; first | rfl | (simp; done)) | refine Blk.alloc ?_ _))
      have bHL : Blk ((w.alloc (.cells #[.int .i64 M.places, .int .i64 M.any.a0, .int .i64 M.any.a1, .int .i64 M.any.a2, .int .i64 M.any.a3, .int .i64 M.any.a4, .int .i64 M.any.a5, .bool M.any.i, .bool M.any.s, .int .i64 M.mw, .int .i64 M.ms, .int .i64 M.mc, vF, vS] 29)).alloc (.cells #[.int .i64 lw, .int .i64 ls, .int .i64 lc, .bool li, .bool lt] 31)) (w.heap.size + 1) 31 #[.int .i64 lw, .int .i64 ls, .int .i64 lc, .bool li, .bool lt] := (by repeat (first | (refine Blk.newAt _ _ _ ?_; first | rfl | (simp; done)) | refine Blk.alloc ?_ _))
      have bHB : Below w.heap.size w ((w.alloc (.cells #[.int .i64 M.places, .int .i64 M.any.a0, .int .i64 M.any.a1, .int .i64 M.any.a2, .int .i64 M.any.a3, .int .i64 M.any.a4, .int .i64 M.any.a5, .bool M.any.i, .bool M.any.s, .int .i64 M.mw, .int .i64 M.ms, .int .i64 M.mc, vF, vS] 29)).alloc (.cells #[.int .i64 lw, .int .i64 ls, .int .i64 lc, .bool li, .bool lt] 31)) := (by repeat' (first | exact Below.refl _ _ | assumption | refine Below.drew ?_ | refine bdn ?_ _ | refine bal ?_ _ | refine Below.setCell ?_ (by first | (simp; done) | omega | (simp; omega)) _))
      generalize ((w.alloc (.cells #[.int .i64 M.places, .int .i64 M.any.a0, .int .i64 M.any.a1, .int .i64 M.any.a2, .int .i64 M.any.a3, .int .i64 M.any.a4, .int .i64 M.any.a5, .bool M.any.i, .bool M.any.s, .int .i64 M.mw, .int .i64 M.ms, .int .i64 M.mc, vF, vS] 29)).alloc (.cells #[.int .i64 lw, .int .i64 ls, .int .i64 lc, .bool li, .bool lt] 31)) = W at *
      have zW := bHL.lt
      have HX := Lib.hid bHX
      have HL := Lib.hid bHL
      have HB := Lib.hid bHB
      clear bHX bHL bHB
      go_wp2_with (first | (go_at_call 42; (with_reducible refine (HMN.out _ (HA.out.below HB.out)).mono ?_); rintro e w1 ⟨rfl, hb1⟩; have nHX := Lib.hid (HX.out.below hb1); have nHL := Lib.hid (HL.out.below hb1); have nHB := Lib.hid (bthen HB.out hb1); have zz1 := hb1.size; clear HX HL HB hb1; have HX := nHX; have HL := nHL; have HB := nHB; clear nHX nHL nHB) | (refine wpl_row rfl 29 _ rfl _ rfl #[.int .i64 M.places, .int .i64 M.any.a0, .int .i64 M.any.a1, .int .i64 M.any.a2, .int .i64 M.any.a3, .int .i64 M.any.a4, .int .i64 M.any.a5, .bool M.any.i, .bool M.any.s, .int .i64 M.mw, .int .i64 M.ms, .int .i64 M.mc, vF, vS] 14 HX.out Tryz.rowMet rfl ?_; simp only [Act.put]) | (go_at_call 66; (with_reducible refine (HRI.out _).mono ?_); rintro e w1 ⟨rfl, hb1⟩; have nHX := Lib.hid (HX.out.below hb1); have nHL := Lib.hid (HL.out.below hb1); have nHB := Lib.hid (bthen HB.out hb1); have zz1 := hb1.size; clear HX HL HB hb1; have HX := nHX; have HL := nHL; have HB := nHB; clear nHX nHL nHB) | (go_at_call 67; (with_reducible refine (HCF.out _ (HQ.out _ HB.out) (HC0.out _ HX.out)).mono ?_); rintro e w1 ⟨rfl, hb1⟩; have nHX := Lib.hid (HX.out.below hb1); have nHL := Lib.hid (HL.out.below hb1); have nHB := Lib.hid (bthen HB.out hb1); have zz1 := hb1.size; clear HX HL HB hb1; have HX := nHX; have HL := nHL; have HB := nHB; clear nHX nHL nHB))
      go_ret
      exact ⟨rfl, HB.out⟩
    · rw [hr] at hri
      have HRI := Lib.hid hri
      clear hri hr
      rw [show ∀ b : Bool, (!true || b) = b from fun _ => rfl]
      cases hn : inB q 0 (M.places - 1)
      · rw [hn] at hcf
        have HCF := Lib.hid hcf
        clear hcf hn
        rw [if_pos (show (!false) = true from rfl)]
        go_enter Tryz.func40, Tryz.ntmps40
        go_wp2_with (first | (refine wpl_row rfl 29 _ rfl _ rfl #[.int .i64 M.places, .int .i64 M.any.a0, .int .i64 M.any.a1, .int .i64 M.any.a2, .int .i64 M.any.a3, .int .i64 M.any.a4, .int .i64 M.any.a5, .bool M.any.i, .bool M.any.s, .int .i64 M.mw, .int .i64 M.ms, .int .i64 M.mc, vF, vS] 14 ?_ Tryz.rowMet rfl ?_; (focus exact (by repeat (first | (refine Blk.newAt _ _ _ ?_; first | rfl | (simp; done)) | refine Blk.alloc ?_ _))); simp only [Act.put]) | (refine wpl_row rfl 31 _ rfl _ rfl #[.int .i64 lw, .int .i64 ls, .int .i64 lc, .bool li, .bool lt] 5 ?_ Tryz.rowMin rfl ?_; (focus exact (by repeat (first | (refine Blk.newAt _ _ _ ?_; first | rfl | (simp; done)) | refine Blk.alloc ?_ _))); simp only [Act.put]))
        have bHX : Blk ((w.alloc (.cells #[.int .i64 M.places, .int .i64 M.any.a0, .int .i64 M.any.a1, .int .i64 M.any.a2, .int .i64 M.any.a3, .int .i64 M.any.a4, .int .i64 M.any.a5, .bool M.any.i, .bool M.any.s, .int .i64 M.mw, .int .i64 M.ms, .int .i64 M.mc, vF, vS] 29)).alloc (.cells #[.int .i64 lw, .int .i64 ls, .int .i64 lc, .bool li, .bool lt] 31)) (w.heap.size) 29 #[.int .i64 M.places, .int .i64 M.any.a0, .int .i64 M.any.a1, .int .i64 M.any.a2, .int .i64 M.any.a3, .int .i64 M.any.a4, .int .i64 M.any.a5, .bool M.any.i, .bool M.any.s, .int .i64 M.mw, .int .i64 M.ms, .int .i64 M.mc, vF, vS] := (by repeat (first | (refine Blk.newAt _ _ _ ?_; first | rfl | (simp; done)) | refine Blk.alloc ?_ _))
        have bHL : Blk ((w.alloc (.cells #[.int .i64 M.places, .int .i64 M.any.a0, .int .i64 M.any.a1, .int .i64 M.any.a2, .int .i64 M.any.a3, .int .i64 M.any.a4, .int .i64 M.any.a5, .bool M.any.i, .bool M.any.s, .int .i64 M.mw, .int .i64 M.ms, .int .i64 M.mc, vF, vS] 29)).alloc (.cells #[.int .i64 lw, .int .i64 ls, .int .i64 lc, .bool li, .bool lt] 31)) (w.heap.size + 1) 31 #[.int .i64 lw, .int .i64 ls, .int .i64 lc, .bool li, .bool lt] := (by repeat (first | (refine Blk.newAt _ _ _ ?_; first | rfl | (simp; done)) | refine Blk.alloc ?_ _))
        have bHB : Below w.heap.size w ((w.alloc (.cells #[.int .i64 M.places, .int .i64 M.any.a0, .int .i64 M.any.a1, .int .i64 M.any.a2, .int .i64 M.any.a3, .int .i64 M.any.a4, .int .i64 M.any.a5, .bool M.any.i, .bool M.any.s, .int .i64 M.mw, .int .i64 M.ms, .int .i64 M.mc, vF, vS] 29)).alloc (.cells #[.int .i64 lw, .int .i64 ls, .int .i64 lc, .bool li, .bool lt] 31)) := (by repeat' (first | exact Below.refl _ _ | assumption | refine Below.drew ?_ | refine bdn ?_ _ | refine bal ?_ _ | refine Below.setCell ?_ (by first | (simp; done) | omega | (simp; omega)) _))
        generalize ((w.alloc (.cells #[.int .i64 M.places, .int .i64 M.any.a0, .int .i64 M.any.a1, .int .i64 M.any.a2, .int .i64 M.any.a3, .int .i64 M.any.a4, .int .i64 M.any.a5, .bool M.any.i, .bool M.any.s, .int .i64 M.mw, .int .i64 M.ms, .int .i64 M.mc, vF, vS] 29)).alloc (.cells #[.int .i64 lw, .int .i64 ls, .int .i64 lc, .bool li, .bool lt] 31)) = W at *
        have zW := bHL.lt
        have HX := Lib.hid bHX
        have HL := Lib.hid bHL
        have HB := Lib.hid bHB
        clear bHX bHL bHB
        go_wp2_with (first | (go_at_call 42; (with_reducible refine (HMN.out _ (HA.out.below HB.out)).mono ?_); rintro e w1 ⟨rfl, hb1⟩; have nHX := Lib.hid (HX.out.below hb1); have nHL := Lib.hid (HL.out.below hb1); have nHB := Lib.hid (bthen HB.out hb1); have zz1 := hb1.size; clear HX HL HB hb1; have HX := nHX; have HL := nHL; have HB := nHB; clear nHX nHL nHB) | (refine wpl_row rfl 29 _ rfl _ rfl #[.int .i64 M.places, .int .i64 M.any.a0, .int .i64 M.any.a1, .int .i64 M.any.a2, .int .i64 M.any.a3, .int .i64 M.any.a4, .int .i64 M.any.a5, .bool M.any.i, .bool M.any.s, .int .i64 M.mw, .int .i64 M.ms, .int .i64 M.mc, vF, vS] 14 HX.out Tryz.rowMet rfl ?_; simp only [Act.put]) | (go_at_call 66; (with_reducible refine (HRI.out _).mono ?_); rintro e w1 ⟨rfl, hb1⟩; have nHX := Lib.hid (HX.out.below hb1); have nHL := Lib.hid (HL.out.below hb1); have nHB := Lib.hid (bthen HB.out hb1); have zz1 := hb1.size; clear HX HL HB hb1; have HX := nHX; have HL := nHL; have HB := nHB; clear nHX nHL nHB) | (go_at_call 67; (with_reducible refine (HCF.out _ (HQ.out _ HB.out) (HC0.out _ HX.out)).mono ?_); rintro e w1 ⟨rfl, hb1⟩; have nHX := Lib.hid (HX.out.below hb1); have nHL := Lib.hid (HL.out.below hb1); have nHB := Lib.hid (bthen HB.out hb1); have zz1 := hb1.size; clear HX HL HB hb1; have HX := nHX; have HL := nHL; have HB := nHB; clear nHX nHL nHB))
        go_ret
        exact ⟨rfl, HB.out⟩
      · rw [hn] at hcf
        have HCF := Lib.hid hcf
        clear hcf hn
        rw [if_neg (by decide)]
        go_enter Tryz.func40, Tryz.ntmps40
        go_wp2_with (first | (refine wpl_row rfl 29 _ rfl _ rfl #[.int .i64 M.places, .int .i64 M.any.a0, .int .i64 M.any.a1, .int .i64 M.any.a2, .int .i64 M.any.a3, .int .i64 M.any.a4, .int .i64 M.any.a5, .bool M.any.i, .bool M.any.s, .int .i64 M.mw, .int .i64 M.ms, .int .i64 M.mc, vF, vS] 14 ?_ Tryz.rowMet rfl ?_; (focus exact (by repeat (first | (refine Blk.newAt _ _ _ ?_; first | rfl | (simp; done)) | refine Blk.alloc ?_ _))); simp only [Act.put]) | (refine wpl_row rfl 31 _ rfl _ rfl #[.int .i64 lw, .int .i64 ls, .int .i64 lc, .bool li, .bool lt] 5 ?_ Tryz.rowMin rfl ?_; (focus exact (by repeat (first | (refine Blk.newAt _ _ _ ?_; first | rfl | (simp; done)) | refine Blk.alloc ?_ _))); simp only [Act.put]))
        have bHX : Blk ((w.alloc (.cells #[.int .i64 M.places, .int .i64 M.any.a0, .int .i64 M.any.a1, .int .i64 M.any.a2, .int .i64 M.any.a3, .int .i64 M.any.a4, .int .i64 M.any.a5, .bool M.any.i, .bool M.any.s, .int .i64 M.mw, .int .i64 M.ms, .int .i64 M.mc, vF, vS] 29)).alloc (.cells #[.int .i64 lw, .int .i64 ls, .int .i64 lc, .bool li, .bool lt] 31)) (w.heap.size) 29 #[.int .i64 M.places, .int .i64 M.any.a0, .int .i64 M.any.a1, .int .i64 M.any.a2, .int .i64 M.any.a3, .int .i64 M.any.a4, .int .i64 M.any.a5, .bool M.any.i, .bool M.any.s, .int .i64 M.mw, .int .i64 M.ms, .int .i64 M.mc, vF, vS] := (by repeat (first | (refine Blk.newAt _ _ _ ?_; first | rfl | (simp; done)) | refine Blk.alloc ?_ _))
        have bHL : Blk ((w.alloc (.cells #[.int .i64 M.places, .int .i64 M.any.a0, .int .i64 M.any.a1, .int .i64 M.any.a2, .int .i64 M.any.a3, .int .i64 M.any.a4, .int .i64 M.any.a5, .bool M.any.i, .bool M.any.s, .int .i64 M.mw, .int .i64 M.ms, .int .i64 M.mc, vF, vS] 29)).alloc (.cells #[.int .i64 lw, .int .i64 ls, .int .i64 lc, .bool li, .bool lt] 31)) (w.heap.size + 1) 31 #[.int .i64 lw, .int .i64 ls, .int .i64 lc, .bool li, .bool lt] := (by repeat (first | (refine Blk.newAt _ _ _ ?_; first | rfl | (simp; done)) | refine Blk.alloc ?_ _))
        have bHB : Below w.heap.size w ((w.alloc (.cells #[.int .i64 M.places, .int .i64 M.any.a0, .int .i64 M.any.a1, .int .i64 M.any.a2, .int .i64 M.any.a3, .int .i64 M.any.a4, .int .i64 M.any.a5, .bool M.any.i, .bool M.any.s, .int .i64 M.mw, .int .i64 M.ms, .int .i64 M.mc, vF, vS] 29)).alloc (.cells #[.int .i64 lw, .int .i64 ls, .int .i64 lc, .bool li, .bool lt] 31)) := (by repeat' (first | exact Below.refl _ _ | assumption | refine Below.drew ?_ | refine bdn ?_ _ | refine bal ?_ _ | refine Below.setCell ?_ (by first | (simp; done) | omega | (simp; omega)) _))
        generalize ((w.alloc (.cells #[.int .i64 M.places, .int .i64 M.any.a0, .int .i64 M.any.a1, .int .i64 M.any.a2, .int .i64 M.any.a3, .int .i64 M.any.a4, .int .i64 M.any.a5, .bool M.any.i, .bool M.any.s, .int .i64 M.mw, .int .i64 M.ms, .int .i64 M.mc, vF, vS] 29)).alloc (.cells #[.int .i64 lw, .int .i64 ls, .int .i64 lc, .bool li, .bool lt] 31)) = W at *
        have zW := bHL.lt
        have HX := Lib.hid bHX
        have HL := Lib.hid bHL
        have HB := Lib.hid bHB
        clear bHX bHL bHB
        go_wp2_with (first | (go_at_call 42; (with_reducible refine (HMN.out _ (HA.out.below HB.out)).mono ?_); rintro e w1 ⟨rfl, hb1⟩; have nHX := Lib.hid (HX.out.below hb1); have nHL := Lib.hid (HL.out.below hb1); have nHB := Lib.hid (bthen HB.out hb1); have zz1 := hb1.size; clear HX HL HB hb1; have HX := nHX; have HL := nHL; have HB := nHB; clear nHX nHL nHB) | (refine wpl_row rfl 29 _ rfl _ rfl #[.int .i64 M.places, .int .i64 M.any.a0, .int .i64 M.any.a1, .int .i64 M.any.a2, .int .i64 M.any.a3, .int .i64 M.any.a4, .int .i64 M.any.a5, .bool M.any.i, .bool M.any.s, .int .i64 M.mw, .int .i64 M.ms, .int .i64 M.mc, vF, vS] 14 HX.out Tryz.rowMet rfl ?_; simp only [Act.put]) | (go_at_call 66; (with_reducible refine (HRI.out _).mono ?_); rintro e w1 ⟨rfl, hb1⟩; have nHX := Lib.hid (HX.out.below hb1); have nHL := Lib.hid (HL.out.below hb1); have nHB := Lib.hid (bthen HB.out hb1); have zz1 := hb1.size; clear HX HL HB hb1; have HX := nHX; have HL := nHL; have HB := nHB; clear nHX nHL nHB) | (go_at_call 67; (with_reducible refine (HCF.out _ (HQ.out _ HB.out) (HC0.out _ HX.out)).mono ?_); rintro e w1 ⟨rfl, hb1⟩; have nHX := Lib.hid (HX.out.below hb1); have nHL := Lib.hid (HL.out.below hb1); have nHB := Lib.hid (bthen HB.out hb1); have zz1 := hb1.size; clear HX HL HB hb1; have HX := nHX; have HL := nHL; have HB := nHB; clear nHX nHL nHB))
        go_ret
        exact ⟨rfl, HB.out⟩
  · rw [if_neg he]
    have hez : (minE M lw ls lc != 0) = true := by simpa using he
    generalize minE M lw ls lc = E at *
    have HMN := Lib.hid hmn
    have HRI := Lib.hid (fun (_ : World) => True.intro)
    have HCF := Lib.hid (fun (_ : World) (_ : True) (_ : True) => True.intro)
    clear hmn he
    go_enter Tryz.func40, Tryz.ntmps40
    go_wp2_with (first | (refine wpl_row rfl 29 _ rfl _ rfl #[.int .i64 M.places, .int .i64 M.any.a0, .int .i64 M.any.a1, .int .i64 M.any.a2, .int .i64 M.any.a3, .int .i64 M.any.a4, .int .i64 M.any.a5, .bool M.any.i, .bool M.any.s, .int .i64 M.mw, .int .i64 M.ms, .int .i64 M.mc, vF, vS] 14 ?_ Tryz.rowMet rfl ?_; (focus exact (by repeat (first | (refine Blk.newAt _ _ _ ?_; first | rfl | (simp; done)) | refine Blk.alloc ?_ _))); simp only [Act.put]) | (refine wpl_row rfl 31 _ rfl _ rfl #[.int .i64 lw, .int .i64 ls, .int .i64 lc, .bool li, .bool lt] 5 ?_ Tryz.rowMin rfl ?_; (focus exact (by repeat (first | (refine Blk.newAt _ _ _ ?_; first | rfl | (simp; done)) | refine Blk.alloc ?_ _))); simp only [Act.put]))
    have bHX : Blk ((w.alloc (.cells #[.int .i64 M.places, .int .i64 M.any.a0, .int .i64 M.any.a1, .int .i64 M.any.a2, .int .i64 M.any.a3, .int .i64 M.any.a4, .int .i64 M.any.a5, .bool M.any.i, .bool M.any.s, .int .i64 M.mw, .int .i64 M.ms, .int .i64 M.mc, vF, vS] 29)).alloc (.cells #[.int .i64 lw, .int .i64 ls, .int .i64 lc, .bool li, .bool lt] 31)) (w.heap.size) 29 #[.int .i64 M.places, .int .i64 M.any.a0, .int .i64 M.any.a1, .int .i64 M.any.a2, .int .i64 M.any.a3, .int .i64 M.any.a4, .int .i64 M.any.a5, .bool M.any.i, .bool M.any.s, .int .i64 M.mw, .int .i64 M.ms, .int .i64 M.mc, vF, vS] := (by repeat (first | (refine Blk.newAt _ _ _ ?_; first | rfl | (simp; done)) | refine Blk.alloc ?_ _))
    have bHL : Blk ((w.alloc (.cells #[.int .i64 M.places, .int .i64 M.any.a0, .int .i64 M.any.a1, .int .i64 M.any.a2, .int .i64 M.any.a3, .int .i64 M.any.a4, .int .i64 M.any.a5, .bool M.any.i, .bool M.any.s, .int .i64 M.mw, .int .i64 M.ms, .int .i64 M.mc, vF, vS] 29)).alloc (.cells #[.int .i64 lw, .int .i64 ls, .int .i64 lc, .bool li, .bool lt] 31)) (w.heap.size + 1) 31 #[.int .i64 lw, .int .i64 ls, .int .i64 lc, .bool li, .bool lt] := (by repeat (first | (refine Blk.newAt _ _ _ ?_; first | rfl | (simp; done)) | refine Blk.alloc ?_ _))
    have bHB : Below w.heap.size w ((w.alloc (.cells #[.int .i64 M.places, .int .i64 M.any.a0, .int .i64 M.any.a1, .int .i64 M.any.a2, .int .i64 M.any.a3, .int .i64 M.any.a4, .int .i64 M.any.a5, .bool M.any.i, .bool M.any.s, .int .i64 M.mw, .int .i64 M.ms, .int .i64 M.mc, vF, vS] 29)).alloc (.cells #[.int .i64 lw, .int .i64 ls, .int .i64 lc, .bool li, .bool lt] 31)) := (by repeat' (first | exact Below.refl _ _ | assumption | refine Below.drew ?_ | refine bdn ?_ _ | refine bal ?_ _ | refine Below.setCell ?_ (by first | (simp; done) | omega | (simp; omega)) _))
    generalize ((w.alloc (.cells #[.int .i64 M.places, .int .i64 M.any.a0, .int .i64 M.any.a1, .int .i64 M.any.a2, .int .i64 M.any.a3, .int .i64 M.any.a4, .int .i64 M.any.a5, .bool M.any.i, .bool M.any.s, .int .i64 M.mw, .int .i64 M.ms, .int .i64 M.mc, vF, vS] 29)).alloc (.cells #[.int .i64 lw, .int .i64 ls, .int .i64 lc, .bool li, .bool lt] 31)) = W at *
    have zW := bHL.lt
    have HX := Lib.hid bHX
    have HL := Lib.hid bHL
    have HB := Lib.hid bHB
    clear bHX bHL bHB
    go_wp2_with (first | (go_at_call 42; (with_reducible refine (HMN.out _ (HA.out.below HB.out)).mono ?_); rintro e w1 ⟨rfl, hb1⟩; have nHX := Lib.hid (HX.out.below hb1); have nHL := Lib.hid (HL.out.below hb1); have nHB := Lib.hid (bthen HB.out hb1); have zz1 := hb1.size; clear HX HL HB hb1; have HX := nHX; have HL := nHL; have HB := nHB; clear nHX nHL nHB) | (refine wpl_row rfl 29 _ rfl _ rfl #[.int .i64 M.places, .int .i64 M.any.a0, .int .i64 M.any.a1, .int .i64 M.any.a2, .int .i64 M.any.a3, .int .i64 M.any.a4, .int .i64 M.any.a5, .bool M.any.i, .bool M.any.s, .int .i64 M.mw, .int .i64 M.ms, .int .i64 M.mc, vF, vS] 14 HX.out Tryz.rowMet rfl ?_; simp only [Act.put]) | (go_at_call 66; (with_reducible refine (HRI.out _).mono ?_); rintro e w1 ⟨rfl, hb1⟩; have nHX := Lib.hid (HX.out.below hb1); have nHL := Lib.hid (HL.out.below hb1); have nHB := Lib.hid (bthen HB.out hb1); have zz1 := hb1.size; clear HX HL HB hb1; have HX := nHX; have HL := nHL; have HB := nHB; clear nHX nHL nHB) | (go_at_call 67; (with_reducible refine (HCF.out _ (HQ.out _ HB.out) (HC0.out _ HX.out)).mono ?_); rintro e w1 ⟨rfl, hb1⟩; have nHX := Lib.hid (HX.out.below hb1); have nHL := Lib.hid (HL.out.below hb1); have nHB := Lib.hid (bthen HB.out hb1); have zz1 := hb1.size; clear HX HL HB hb1; have HX := nHX; have HL := nHL; have HB := nHB; clear nHX nHL nHB))
    go_ret
    exact ⟨rfl, HB.out⟩
end Go.Proofs.YtfcjblnebaemgaaGreat
