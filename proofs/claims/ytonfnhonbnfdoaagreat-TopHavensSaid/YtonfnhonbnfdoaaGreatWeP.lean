/- Contracts: minima, checkAt, checkOpen, open, Open, Perhaps, May of package weather. -/
import Derived.Test.YtonfnhonbnfdoaaGreatJAM
set_option linter.all false
namespace Go.Proofs.YtonfnhonbnfdoaaGreat
open Go Go.RowKit Go.Proofs
set_option maxRecDepth 100000
set_option maxHeartbeats 8000000

theorem MetD.err_t {M : MetD} (h : M.bad = true) : M.err = 40 := by unfold MetD.err; rw [if_pos h]
theorem MetD.err_f {M : MetD} (h : M.bad = false) : M.err = 0 := by unfold MetD.err; rw [h]; rfl
def atE (M : MetD) (p t : Int) : Int := if M.bad then 40 else if !inB p 0 (M.places - 1) || !inB t 0 2000 then 1 else 0
def minE (M : MetD) (lw ls lc : Int) : Int := if M.bad then 40 else if !inB lw 0 300 || (!inB ls 0 20000 || !inB lc 0 20000) then 41 else 0
def opE (M : MetD) (lw ls lc p t : Int) : Int := if minE M lw ls lc = 0 then atE M p t else minE M lw ls lc

theorem wcheckAt_c (M : MetD) (vF vS : Value) (p t u : Int) (w : World) (hA : MetAt w vF vS M) :
   Calls Tryz.prog 40 #[.agg #[.int .i64 M.places, .int .i64 M.any.a0, .int .i64 M.any.a1, .int .i64 M.any.a2, .int .i64 M.any.a3, .int .i64 M.any.a4, .int .i64 M.any.a5, .bool M.any.i, .bool M.any.s, .int .i64 M.mw, .int .i64 M.ms, .int .i64 M.mc, vF, vS], .agg #[.int .i64 p, .int .i64 t, .int .i64 u]] w fun e w' => e = .returned (.int .i64 (atE M p t)) ∧ Below w.heap.size w w' := by
  have HA := Lib.hid hA
  have hck := fun w1 h => wCheck_c M vF vS w1 h
  clear hA
  unfold atE
  cases hb : M.bad
  · rw [MetD.err_f hb] at hck
    have hp := (MetD.ok_of hb).places
    have hp1 := hp.1
    have hp2 := hp.2
    have HCK := Lib.hid hck
    clear hck hp
    rw [if_neg (by decide)]
    cases b1 : inB p 0 (M.places - 1)
    · rw [show ∀ b : Bool, (!false || b) = true from fun _ => rfl, if_pos rfl]
      go_enter Tryz.func40, Tryz.ntmps40
      go_wp2_with (first | (refine wpl_row rfl 29 _ rfl _ rfl #[.int .i64 M.places, .int .i64 M.any.a0, .int .i64 M.any.a1, .int .i64 M.any.a2, .int .i64 M.any.a3, .int .i64 M.any.a4, .int .i64 M.any.a5, .bool M.any.i, .bool M.any.s, .int .i64 M.mw, .int .i64 M.ms, .int .i64 M.mc, vF, vS] 14 ?_ Tryz.rowMet rfl ?_; (focus exact (by repeat (first | (refine Blk.newAt _ _ _ ?_; first | rfl | (simp; done)) | refine Blk.alloc ?_ _))); simp only [Act.put]))
      have _x := frm2 w #[.int .i64 M.places, .int .i64 M.any.a0, .int .i64 M.any.a1, .int .i64 M.any.a2, .int .i64 M.any.a3, .int .i64 M.any.a4, .int .i64 M.any.a5, .bool M.any.i, .bool M.any.s, .int .i64 M.mw, .int .i64 M.ms, .int .i64 M.mc, vF, vS] 29 #[.int .i64 p, .int .i64 t, .int .i64 u] 101
      have HX := Lib.hid _x.1
      have HW := Lib.hid _x.2.1
      have HB := Lib.hid _x.2.2.1
      have zW := _x.2.2.2
      clear _x
      generalize World.alloc (World.alloc w _) _ = W at *
      go_wp2_with (first | (go_at_call 85; (with_reducible refine (HCK.out _ (HA.out.below HB.out)).mono ?_); rintro e w1 ⟨rfl, hb1⟩; have nHX := Lib.hid (HX.out.below hb1); have nHW := Lib.hid (HW.out.below hb1); have nHB := Lib.hid (bthen HB.out hb1); have zz1 := hb1.size; clear HX HW HB hb1; have HX := nHX; have HW := nHW; have HB := nHB; clear nHX nHW nHB; (try clear zHX); have zHX := HX.out.lt; (try clear cHX0); have cHX0 := HX.out.cell 0; (try clear zHW); have zHW := HW.out.lt; (try clear cHW0); have cHW0 := HW.out.cell 0; (try clear cHW1); have cHW1 := HW.out.cell 1) | (go_at_call 82; (with_reducible refine (wwithin_c _ _ _ _).mono ?_); rintro e w1 ⟨rfl, rfl⟩))
      go_ret
      exact ⟨rfl, HB.out⟩
    · rw [show ∀ b : Bool, (!true || b) = b from fun _ => rfl]
      cases b2 : inB t 0 2000
      · rw [if_pos (show (!false) = true from rfl)]
        go_enter Tryz.func40, Tryz.ntmps40
        go_wp2_with (first | (refine wpl_row rfl 29 _ rfl _ rfl #[.int .i64 M.places, .int .i64 M.any.a0, .int .i64 M.any.a1, .int .i64 M.any.a2, .int .i64 M.any.a3, .int .i64 M.any.a4, .int .i64 M.any.a5, .bool M.any.i, .bool M.any.s, .int .i64 M.mw, .int .i64 M.ms, .int .i64 M.mc, vF, vS] 14 ?_ Tryz.rowMet rfl ?_; (focus exact (by repeat (first | (refine Blk.newAt _ _ _ ?_; first | rfl | (simp; done)) | refine Blk.alloc ?_ _))); simp only [Act.put]))
        have _x := frm2 w #[.int .i64 M.places, .int .i64 M.any.a0, .int .i64 M.any.a1, .int .i64 M.any.a2, .int .i64 M.any.a3, .int .i64 M.any.a4, .int .i64 M.any.a5, .bool M.any.i, .bool M.any.s, .int .i64 M.mw, .int .i64 M.ms, .int .i64 M.mc, vF, vS] 29 #[.int .i64 p, .int .i64 t, .int .i64 u] 101
        have HX := Lib.hid _x.1
        have HW := Lib.hid _x.2.1
        have HB := Lib.hid _x.2.2.1
        have zW := _x.2.2.2
        clear _x
        generalize World.alloc (World.alloc w _) _ = W at *
        go_wp2_with (first | (go_at_call 85; (with_reducible refine (HCK.out _ (HA.out.below HB.out)).mono ?_); rintro e w1 ⟨rfl, hb1⟩; have nHX := Lib.hid (HX.out.below hb1); have nHW := Lib.hid (HW.out.below hb1); have nHB := Lib.hid (bthen HB.out hb1); have zz1 := hb1.size; clear HX HW HB hb1; have HX := nHX; have HW := nHW; have HB := nHB; clear nHX nHW nHB; (try clear zHX); have zHX := HX.out.lt; (try clear cHX0); have cHX0 := HX.out.cell 0; (try clear zHW); have zHW := HW.out.lt; (try clear cHW0); have cHW0 := HW.out.cell 0; (try clear cHW1); have cHW1 := HW.out.cell 1) | (go_at_call 82; (with_reducible refine (wwithin_c _ _ _ _).mono ?_); rintro e w1 ⟨rfl, rfl⟩))
        go_ret
        exact ⟨rfl, HB.out⟩
      · rw [if_neg (by decide)]
        go_enter Tryz.func40, Tryz.ntmps40
        go_wp2_with (first | (refine wpl_row rfl 29 _ rfl _ rfl #[.int .i64 M.places, .int .i64 M.any.a0, .int .i64 M.any.a1, .int .i64 M.any.a2, .int .i64 M.any.a3, .int .i64 M.any.a4, .int .i64 M.any.a5, .bool M.any.i, .bool M.any.s, .int .i64 M.mw, .int .i64 M.ms, .int .i64 M.mc, vF, vS] 14 ?_ Tryz.rowMet rfl ?_; (focus exact (by repeat (first | (refine Blk.newAt _ _ _ ?_; first | rfl | (simp; done)) | refine Blk.alloc ?_ _))); simp only [Act.put]))
        have _x := frm2 w #[.int .i64 M.places, .int .i64 M.any.a0, .int .i64 M.any.a1, .int .i64 M.any.a2, .int .i64 M.any.a3, .int .i64 M.any.a4, .int .i64 M.any.a5, .bool M.any.i, .bool M.any.s, .int .i64 M.mw, .int .i64 M.ms, .int .i64 M.mc, vF, vS] 29 #[.int .i64 p, .int .i64 t, .int .i64 u] 101
        have HX := Lib.hid _x.1
        have HW := Lib.hid _x.2.1
        have HB := Lib.hid _x.2.2.1
        have zW := _x.2.2.2
        clear _x
        generalize World.alloc (World.alloc w _) _ = W at *
        go_wp2_with (first | (go_at_call 85; (with_reducible refine (HCK.out _ (HA.out.below HB.out)).mono ?_); rintro e w1 ⟨rfl, hb1⟩; have nHX := Lib.hid (HX.out.below hb1); have nHW := Lib.hid (HW.out.below hb1); have nHB := Lib.hid (bthen HB.out hb1); have zz1 := hb1.size; clear HX HW HB hb1; have HX := nHX; have HW := nHW; have HB := nHB; clear nHX nHW nHB; (try clear zHX); have zHX := HX.out.lt; (try clear cHX0); have cHX0 := HX.out.cell 0; (try clear zHW); have zHW := HW.out.lt; (try clear cHW0); have cHW0 := HW.out.cell 0; (try clear cHW1); have cHW1 := HW.out.cell 1) | (go_at_call 82; (with_reducible refine (wwithin_c _ _ _ _).mono ?_); rintro e w1 ⟨rfl, rfl⟩))
        go_ret
        exact ⟨rfl, HB.out⟩
  · rw [MetD.err_t hb] at hck
    have HCK := Lib.hid hck
    clear hck
    rw [if_pos rfl]
    go_enter Tryz.func40, Tryz.ntmps40
    go_wp2_with (first | (refine wpl_row rfl 29 _ rfl _ rfl #[.int .i64 M.places, .int .i64 M.any.a0, .int .i64 M.any.a1, .int .i64 M.any.a2, .int .i64 M.any.a3, .int .i64 M.any.a4, .int .i64 M.any.a5, .bool M.any.i, .bool M.any.s, .int .i64 M.mw, .int .i64 M.ms, .int .i64 M.mc, vF, vS] 14 ?_ Tryz.rowMet rfl ?_; (focus exact (by repeat (first | (refine Blk.newAt _ _ _ ?_; first | rfl | (simp; done)) | refine Blk.alloc ?_ _))); simp only [Act.put]))
    have _x := frm2 w #[.int .i64 M.places, .int .i64 M.any.a0, .int .i64 M.any.a1, .int .i64 M.any.a2, .int .i64 M.any.a3, .int .i64 M.any.a4, .int .i64 M.any.a5, .bool M.any.i, .bool M.any.s, .int .i64 M.mw, .int .i64 M.ms, .int .i64 M.mc, vF, vS] 29 #[.int .i64 p, .int .i64 t, .int .i64 u] 101
    have HX := Lib.hid _x.1
    have HW := Lib.hid _x.2.1
    have HB := Lib.hid _x.2.2.1
    have zW := _x.2.2.2
    clear _x
    generalize World.alloc (World.alloc w _) _ = W at *
    go_wp2_with (first | (go_at_call 85; (with_reducible refine (HCK.out _ (HA.out.below HB.out)).mono ?_); rintro e w1 ⟨rfl, hb1⟩; have nHX := Lib.hid (HX.out.below hb1); have nHW := Lib.hid (HW.out.below hb1); have nHB := Lib.hid (bthen HB.out hb1); have zz1 := hb1.size; clear HX HW HB hb1; have HX := nHX; have HW := nHW; have HB := nHB; clear nHX nHW nHB; (try clear zHX); have zHX := HX.out.lt; (try clear cHX0); have cHX0 := HX.out.cell 0; (try clear zHW); have zHW := HW.out.lt; (try clear cHW0); have cHW0 := HW.out.cell 0; (try clear cHW1); have cHW1 := HW.out.cell 1) | (go_at_call 82; (with_reducible refine (wwithin_c _ _ _ _).mono ?_); rintro e w1 ⟨rfl, rfl⟩))
    go_ret
    exact ⟨rfl, HB.out⟩

theorem wminima_c (M : MetD) (vF vS : Value) (lw ls lc : Int) (li lt : Bool) (w : World) (hA : MetAt w vF vS M) :
   Calls Tryz.prog 78 #[.agg #[.int .i64 M.places, .int .i64 M.any.a0, .int .i64 M.any.a1, .int .i64 M.any.a2, .int .i64 M.any.a3, .int .i64 M.any.a4, .int .i64 M.any.a5, .bool M.any.i, .bool M.any.s, .int .i64 M.mw, .int .i64 M.ms, .int .i64 M.mc, vF, vS], .agg #[.int .i64 lw, .int .i64 ls, .int .i64 lc, .bool li, .bool lt]] w fun e w' => e = .returned (.int .i64 (minE M lw ls lc)) ∧ Below w.heap.size w w' := by
  have HA := Lib.hid hA
  have hck := fun w1 h => wCheck_c M vF vS w1 h
  clear hA
  unfold minE
  cases hb : M.bad
  · rw [MetD.err_f hb] at hck
    have HCK := Lib.hid hck
    clear hck
    rw [if_neg (by decide)]
    cases b1 : inB lw 0 300
    · rw [show ∀ b : Bool, (!false || b) = true from fun _ => rfl, if_pos rfl]
      go_enter Tryz.func78, Tryz.ntmps78
      go_wp2_with (first | (refine wpl_row rfl 29 _ rfl _ rfl #[.int .i64 M.places, .int .i64 M.any.a0, .int .i64 M.any.a1, .int .i64 M.any.a2, .int .i64 M.any.a3, .int .i64 M.any.a4, .int .i64 M.any.a5, .bool M.any.i, .bool M.any.s, .int .i64 M.mw, .int .i64 M.ms, .int .i64 M.mc, vF, vS] 14 ?_ Tryz.rowMet rfl ?_; (focus exact (by repeat (first | (refine Blk.newAt _ _ _ ?_; first | rfl | (simp; done)) | refine Blk.alloc ?_ _))); simp only [Act.put]))
      have _x := frm2 w #[.int .i64 M.places, .int .i64 M.any.a0, .int .i64 M.any.a1, .int .i64 M.any.a2, .int .i64 M.any.a3, .int .i64 M.any.a4, .int .i64 M.any.a5, .bool M.any.i, .bool M.any.s, .int .i64 M.mw, .int .i64 M.ms, .int .i64 M.mc, vF, vS] 29 #[.int .i64 lw, .int .i64 ls, .int .i64 lc, .bool li, .bool lt] 31
      have HX := Lib.hid _x.1
      have HL := Lib.hid _x.2.1
      have HB := Lib.hid _x.2.2.1
      have zW := _x.2.2.2
      clear _x
      generalize World.alloc (World.alloc w _) _ = W at *
      go_wp2_with (first | (go_at_call 85; (with_reducible refine (HCK.out _ (HA.out.below HB.out)).mono ?_); rintro e w1 ⟨rfl, hb1⟩; have nHX := Lib.hid (HX.out.below hb1); have nHL := Lib.hid (HL.out.below hb1); have nHB := Lib.hid (bthen HB.out hb1); have zz1 := hb1.size; clear HX HL HB hb1; have HX := nHX; have HL := nHL; have HB := nHB; clear nHX nHL nHB; (try clear zHL); have zHL := HL.out.lt; (try clear cHL0); have cHL0 := HL.out.cell 0; (try clear cHL1); have cHL1 := HL.out.cell 1; (try clear cHL2); have cHL2 := HL.out.cell 2) | (go_at_call 82; (with_reducible refine (wwithin_c _ _ _ _).mono ?_); rintro e w1 ⟨rfl, rfl⟩))
      go_ret
      exact ⟨rfl, HB.out⟩
    · rw [show ∀ b : Bool, (!true || b) = b from fun _ => rfl]
      cases b2 : inB ls 0 20000
      · rw [show ∀ b : Bool, (!false || b) = true from fun _ => rfl, if_pos rfl]
        go_enter Tryz.func78, Tryz.ntmps78
        go_wp2_with (first | (refine wpl_row rfl 29 _ rfl _ rfl #[.int .i64 M.places, .int .i64 M.any.a0, .int .i64 M.any.a1, .int .i64 M.any.a2, .int .i64 M.any.a3, .int .i64 M.any.a4, .int .i64 M.any.a5, .bool M.any.i, .bool M.any.s, .int .i64 M.mw, .int .i64 M.ms, .int .i64 M.mc, vF, vS] 14 ?_ Tryz.rowMet rfl ?_; (focus exact (by repeat (first | (refine Blk.newAt _ _ _ ?_; first | rfl | (simp; done)) | refine Blk.alloc ?_ _))); simp only [Act.put]))
        have _x := frm2 w #[.int .i64 M.places, .int .i64 M.any.a0, .int .i64 M.any.a1, .int .i64 M.any.a2, .int .i64 M.any.a3, .int .i64 M.any.a4, .int .i64 M.any.a5, .bool M.any.i, .bool M.any.s, .int .i64 M.mw, .int .i64 M.ms, .int .i64 M.mc, vF, vS] 29 #[.int .i64 lw, .int .i64 ls, .int .i64 lc, .bool li, .bool lt] 31
        have HX := Lib.hid _x.1
        have HL := Lib.hid _x.2.1
        have HB := Lib.hid _x.2.2.1
        have zW := _x.2.2.2
        clear _x
        generalize World.alloc (World.alloc w _) _ = W at *
        go_wp2_with (first | (go_at_call 85; (with_reducible refine (HCK.out _ (HA.out.below HB.out)).mono ?_); rintro e w1 ⟨rfl, hb1⟩; have nHX := Lib.hid (HX.out.below hb1); have nHL := Lib.hid (HL.out.below hb1); have nHB := Lib.hid (bthen HB.out hb1); have zz1 := hb1.size; clear HX HL HB hb1; have HX := nHX; have HL := nHL; have HB := nHB; clear nHX nHL nHB; (try clear zHL); have zHL := HL.out.lt; (try clear cHL0); have cHL0 := HL.out.cell 0; (try clear cHL1); have cHL1 := HL.out.cell 1; (try clear cHL2); have cHL2 := HL.out.cell 2) | (go_at_call 82; (with_reducible refine (wwithin_c _ _ _ _).mono ?_); rintro e w1 ⟨rfl, rfl⟩))
        go_ret
        exact ⟨rfl, HB.out⟩
      · rw [show ∀ b : Bool, (!true || b) = b from fun _ => rfl]
        cases b3 : inB lc 0 20000
        · rw [if_pos (show (!false) = true from rfl)]
          go_enter Tryz.func78, Tryz.ntmps78
          go_wp2_with (first | (refine wpl_row rfl 29 _ rfl _ rfl #[.int .i64 M.places, .int .i64 M.any.a0, .int .i64 M.any.a1, .int .i64 M.any.a2, .int .i64 M.any.a3, .int .i64 M.any.a4, .int .i64 M.any.a5, .bool M.any.i, .bool M.any.s, .int .i64 M.mw, .int .i64 M.ms, .int .i64 M.mc, vF, vS] 14 ?_ Tryz.rowMet rfl ?_; (focus exact (by repeat (first | (refine Blk.newAt _ _ _ ?_; first | rfl | (simp; done)) | refine Blk.alloc ?_ _))); simp only [Act.put]))
          have _x := frm2 w #[.int .i64 M.places, .int .i64 M.any.a0, .int .i64 M.any.a1, .int .i64 M.any.a2, .int .i64 M.any.a3, .int .i64 M.any.a4, .int .i64 M.any.a5, .bool M.any.i, .bool M.any.s, .int .i64 M.mw, .int .i64 M.ms, .int .i64 M.mc, vF, vS] 29 #[.int .i64 lw, .int .i64 ls, .int .i64 lc, .bool li, .bool lt] 31
          have HX := Lib.hid _x.1
          have HL := Lib.hid _x.2.1
          have HB := Lib.hid _x.2.2.1
          have zW := _x.2.2.2
          clear _x
          generalize World.alloc (World.alloc w _) _ = W at *
          go_wp2_with (first | (go_at_call 85; (with_reducible refine (HCK.out _ (HA.out.below HB.out)).mono ?_); rintro e w1 ⟨rfl, hb1⟩; have nHX := Lib.hid (HX.out.below hb1); have nHL := Lib.hid (HL.out.below hb1); have nHB := Lib.hid (bthen HB.out hb1); have zz1 := hb1.size; clear HX HL HB hb1; have HX := nHX; have HL := nHL; have HB := nHB; clear nHX nHL nHB; (try clear zHL); have zHL := HL.out.lt; (try clear cHL0); have cHL0 := HL.out.cell 0; (try clear cHL1); have cHL1 := HL.out.cell 1; (try clear cHL2); have cHL2 := HL.out.cell 2) | (go_at_call 82; (with_reducible refine (wwithin_c _ _ _ _).mono ?_); rintro e w1 ⟨rfl, rfl⟩))
          go_ret
          exact ⟨rfl, HB.out⟩
        · rw [if_neg (by decide)]
          go_enter Tryz.func78, Tryz.ntmps78
          go_wp2_with (first | (refine wpl_row rfl 29 _ rfl _ rfl #[.int .i64 M.places, .int .i64 M.any.a0, .int .i64 M.any.a1, .int .i64 M.any.a2, .int .i64 M.any.a3, .int .i64 M.any.a4, .int .i64 M.any.a5, .bool M.any.i, .bool M.any.s, .int .i64 M.mw, .int .i64 M.ms, .int .i64 M.mc, vF, vS] 14 ?_ Tryz.rowMet rfl ?_; (focus exact (by repeat (first | (refine Blk.newAt _ _ _ ?_; first | rfl | (simp; done)) | refine Blk.alloc ?_ _))); simp only [Act.put]))
          have _x := frm2 w #[.int .i64 M.places, .int .i64 M.any.a0, .int .i64 M.any.a1, .int .i64 M.any.a2, .int .i64 M.any.a3, .int .i64 M.any.a4, .int .i64 M.any.a5, .bool M.any.i, .bool M.any.s, .int .i64 M.mw, .int .i64 M.ms, .int .i64 M.mc, vF, vS] 29 #[.int .i64 lw, .int .i64 ls, .int .i64 lc, .bool li, .bool lt] 31
          have HX := Lib.hid _x.1
          have HL := Lib.hid _x.2.1
          have HB := Lib.hid _x.2.2.1
          have zW := _x.2.2.2
          clear _x
          generalize World.alloc (World.alloc w _) _ = W at *
          go_wp2_with (first | (go_at_call 85; (with_reducible refine (HCK.out _ (HA.out.below HB.out)).mono ?_); rintro e w1 ⟨rfl, hb1⟩; have nHX := Lib.hid (HX.out.below hb1); have nHL := Lib.hid (HL.out.below hb1); have nHB := Lib.hid (bthen HB.out hb1); have zz1 := hb1.size; clear HX HL HB hb1; have HX := nHX; have HL := nHL; have HB := nHB; clear nHX nHL nHB; (try clear zHL); have zHL := HL.out.lt; (try clear cHL0); have cHL0 := HL.out.cell 0; (try clear cHL1); have cHL1 := HL.out.cell 1; (try clear cHL2); have cHL2 := HL.out.cell 2) | (go_at_call 82; (with_reducible refine (wwithin_c _ _ _ _).mono ?_); rintro e w1 ⟨rfl, rfl⟩))
          go_ret
          exact ⟨rfl, HB.out⟩
  · rw [MetD.err_t hb] at hck
    have HCK := Lib.hid hck
    clear hck
    rw [if_pos rfl]
    go_enter Tryz.func78, Tryz.ntmps78
    go_wp2_with (first | (refine wpl_row rfl 29 _ rfl _ rfl #[.int .i64 M.places, .int .i64 M.any.a0, .int .i64 M.any.a1, .int .i64 M.any.a2, .int .i64 M.any.a3, .int .i64 M.any.a4, .int .i64 M.any.a5, .bool M.any.i, .bool M.any.s, .int .i64 M.mw, .int .i64 M.ms, .int .i64 M.mc, vF, vS] 14 ?_ Tryz.rowMet rfl ?_; (focus exact (by repeat (first | (refine Blk.newAt _ _ _ ?_; first | rfl | (simp; done)) | refine Blk.alloc ?_ _))); simp only [Act.put]))
    have _x := frm2 w #[.int .i64 M.places, .int .i64 M.any.a0, .int .i64 M.any.a1, .int .i64 M.any.a2, .int .i64 M.any.a3, .int .i64 M.any.a4, .int .i64 M.any.a5, .bool M.any.i, .bool M.any.s, .int .i64 M.mw, .int .i64 M.ms, .int .i64 M.mc, vF, vS] 29 #[.int .i64 lw, .int .i64 ls, .int .i64 lc, .bool li, .bool lt] 31
    have HX := Lib.hid _x.1
    have HL := Lib.hid _x.2.1
    have HB := Lib.hid _x.2.2.1
    have zW := _x.2.2.2
    clear _x
    generalize World.alloc (World.alloc w _) _ = W at *
    go_wp2_with (first | (go_at_call 85; (with_reducible refine (HCK.out _ (HA.out.below HB.out)).mono ?_); rintro e w1 ⟨rfl, hb1⟩; have nHX := Lib.hid (HX.out.below hb1); have nHL := Lib.hid (HL.out.below hb1); have nHB := Lib.hid (bthen HB.out hb1); have zz1 := hb1.size; clear HX HL HB hb1; have HX := nHX; have HL := nHL; have HB := nHB; clear nHX nHL nHB; (try clear zHL); have zHL := HL.out.lt; (try clear cHL0); have cHL0 := HL.out.cell 0; (try clear cHL1); have cHL1 := HL.out.cell 1; (try clear cHL2); have cHL2 := HL.out.cell 2) | (go_at_call 82; (with_reducible refine (wwithin_c _ _ _ _).mono ?_); rintro e w1 ⟨rfl, rfl⟩))
    go_ret
    exact ⟨rfl, HB.out⟩

theorem wcheckOpen_c (M : MetD) (vF vS : Value) (lw ls lc : Int) (li lt : Bool) (p t : Int) (w : World) (hA : MetAt w vF vS M) :
   Calls Tryz.prog 132 #[.agg #[.int .i64 M.places, .int .i64 M.any.a0, .int .i64 M.any.a1, .int .i64 M.any.a2, .int .i64 M.any.a3, .int .i64 M.any.a4, .int .i64 M.any.a5, .bool M.any.i, .bool M.any.s, .int .i64 M.mw, .int .i64 M.ms, .int .i64 M.mc, vF, vS], .agg #[.int .i64 lw, .int .i64 ls, .int .i64 lc, .bool li, .bool lt], .int .i64 p, .int .i64 t] w fun e w' => e = .returned (.int .i64 (opE M lw ls lc p t)) ∧ Below w.heap.size w w' := by
  have HA := Lib.hid hA
  have hmn := fun w1 h => wminima_c M vF vS lw ls lc li lt w1 h
  have hat := fun w1 h => wcheckAt_c M vF vS p t t w1 h
  clear hA
  unfold opE
  by_cases he : minE M lw ls lc = 0
  · rw [if_pos he]
    rw [he] at hmn
    generalize atE M p t = E at *
    have HMN := Lib.hid hmn
    have HAT := Lib.hid hat
    clear hmn hat he
    go_enter Tryz.func132, Tryz.ntmps132
    go_wp2_with (first | (refine wpl_row rfl 29 _ rfl _ rfl #[.int .i64 M.places, .int .i64 M.any.a0, .int .i64 M.any.a1, .int .i64 M.any.a2, .int .i64 M.any.a3, .int .i64 M.any.a4, .int .i64 M.any.a5, .bool M.any.i, .bool M.any.s, .int .i64 M.mw, .int .i64 M.ms, .int .i64 M.mc, vF, vS] 14 ?_ Tryz.rowMet rfl ?_; (focus exact (by repeat (first | (refine Blk.newAt _ _ _ ?_; first | rfl | (simp; done)) | refine Blk.alloc ?_ _))); simp only [Act.put]) | (refine wpl_row rfl 31 _ rfl _ rfl #[.int .i64 lw, .int .i64 ls, .int .i64 lc, .bool li, .bool lt] 5 ?_ Tryz.rowMin rfl ?_; (focus exact (by repeat (first | (refine Blk.newAt _ _ _ ?_; first | rfl | (simp; done)) | refine Blk.alloc ?_ _))); simp only [Act.put]))
    have _x := frm2 w #[.int .i64 M.places, .int .i64 M.any.a0, .int .i64 M.any.a1, .int .i64 M.any.a2, .int .i64 M.any.a3, .int .i64 M.any.a4, .int .i64 M.any.a5, .bool M.any.i, .bool M.any.s, .int .i64 M.mw, .int .i64 M.ms, .int .i64 M.mc, vF, vS] 29 #[.int .i64 lw, .int .i64 ls, .int .i64 lc, .bool li, .bool lt] 31
    have HX := Lib.hid _x.1
    have HL := Lib.hid _x.2.1
    have HB := Lib.hid _x.2.2.1
    have zW := _x.2.2.2
    clear _x
    generalize World.alloc (World.alloc w _) _ = W at *
    go_wp2_with (first | (go_at_call 78; (with_reducible refine (HMN.out _ (HA.out.below HB.out)).mono ?_); rintro e w1 ⟨rfl, hb1⟩; have nHX := Lib.hid (HX.out.below hb1); have nHL := Lib.hid (HL.out.below hb1); have nHB := Lib.hid (bthen HB.out hb1); have zz1 := hb1.size; clear HX HL HB hb1; have HX := nHX; have HL := nHL; have HB := nHB; clear nHX nHL nHB) | (refine wpl_row rfl 29 _ rfl _ rfl #[.int .i64 M.places, .int .i64 M.any.a0, .int .i64 M.any.a1, .int .i64 M.any.a2, .int .i64 M.any.a3, .int .i64 M.any.a4, .int .i64 M.any.a5, .bool M.any.i, .bool M.any.s, .int .i64 M.mw, .int .i64 M.ms, .int .i64 M.mc, vF, vS] 14 HX.out Tryz.rowMet rfl ?_; simp only [Act.put]))
    have hM2 := Lib.hid (fun r : After _ => HX.out.below r.below)
    have hA2 := Lib.hid (fun r : After _ => (HA.out.below HB.out).below r.below)
    refine wp_region_aftert 5 (by kernel_rfl) (by kernel_rfl) ?_
    simp only [List.take_succ_cons, List.take_zero, List.drop_succ_cons, List.drop_zero]
    refine wpq_row rfl 29 _ rfl _ rfl _ 14 (fun _ hw => by obtain ⟨r, rfl⟩ := hw; exact hM2.out r) Tryz.rowMet rfl ?_
    simp only [Act.put, List.setIfInBounds_toArray, List.set_cons_succ, List.set_cons_zero]
    iterate 2 (go_big_quiet_step (fail))
    go_big_quiet_step (first | (go_at_call 41; (with_reducible refine qafter (wat_c _ _ _))))
    go_big_quiet_step (first | (go_at_call 40; (with_reducible refine qafter (HAT.out _ (hA2.out _)))))
    refine wpQuiet_nil ?_
    rintro _ ⟨r, rfl⟩
    have BR := r.below
    go_wp2_with (fail)
    go_ret
    exact ⟨rfl, bthen HB.out BR⟩
  · rw [if_neg he]
    have hez : (minE M lw ls lc != 0) = true := by simpa using he
    generalize minE M lw ls lc = E at *
    have HMN := Lib.hid hmn
    clear hmn hat he
    go_enter Tryz.func132, Tryz.ntmps132
    go_wp2_with (first | (refine wpl_row rfl 29 _ rfl _ rfl #[.int .i64 M.places, .int .i64 M.any.a0, .int .i64 M.any.a1, .int .i64 M.any.a2, .int .i64 M.any.a3, .int .i64 M.any.a4, .int .i64 M.any.a5, .bool M.any.i, .bool M.any.s, .int .i64 M.mw, .int .i64 M.ms, .int .i64 M.mc, vF, vS] 14 ?_ Tryz.rowMet rfl ?_; (focus exact (by repeat (first | (refine Blk.newAt _ _ _ ?_; first | rfl | (simp; done)) | refine Blk.alloc ?_ _))); simp only [Act.put]) | (refine wpl_row rfl 31 _ rfl _ rfl #[.int .i64 lw, .int .i64 ls, .int .i64 lc, .bool li, .bool lt] 5 ?_ Tryz.rowMin rfl ?_; (focus exact (by repeat (first | (refine Blk.newAt _ _ _ ?_; first | rfl | (simp; done)) | refine Blk.alloc ?_ _))); simp only [Act.put]))
    have _x := frm2 w #[.int .i64 M.places, .int .i64 M.any.a0, .int .i64 M.any.a1, .int .i64 M.any.a2, .int .i64 M.any.a3, .int .i64 M.any.a4, .int .i64 M.any.a5, .bool M.any.i, .bool M.any.s, .int .i64 M.mw, .int .i64 M.ms, .int .i64 M.mc, vF, vS] 29 #[.int .i64 lw, .int .i64 ls, .int .i64 lc, .bool li, .bool lt] 31
    have HX := Lib.hid _x.1
    have HL := Lib.hid _x.2.1
    have HB := Lib.hid _x.2.2.1
    have zW := _x.2.2.2
    clear _x
    generalize World.alloc (World.alloc w _) _ = W at *
    go_wp2_with (first | (go_at_call 78; (with_reducible refine (HMN.out _ (HA.out.below HB.out)).mono ?_); rintro e w1 ⟨rfl, hb1⟩; have nHX := Lib.hid (HX.out.below hb1); have nHL := Lib.hid (HL.out.below hb1); have nHB := Lib.hid (bthen HB.out hb1); have zz1 := hb1.size; clear HX HL HB hb1; have HX := nHX; have HL := nHL; have HB := nHB; clear nHX nHL nHB) | (refine wpl_row rfl 29 _ rfl _ rfl #[.int .i64 M.places, .int .i64 M.any.a0, .int .i64 M.any.a1, .int .i64 M.any.a2, .int .i64 M.any.a3, .int .i64 M.any.a4, .int .i64 M.any.a5, .bool M.any.i, .bool M.any.s, .int .i64 M.mw, .int .i64 M.ms, .int .i64 M.mc, vF, vS] 14 HX.out Tryz.rowMet rfl ?_; simp only [Act.put]))
    go_ret
    exact ⟨rfl, HB.out⟩
end Go.Proofs.YtonfnhonbnfdoaaGreat
