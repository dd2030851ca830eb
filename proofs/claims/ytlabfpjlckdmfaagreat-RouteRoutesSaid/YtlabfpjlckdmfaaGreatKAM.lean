/- Texts joined: KAM. -/
import Derived.Test.YtlabfpjlckdmfaaGreatKAL
set_option linter.all false
namespace Go.Proofs.YtlabfpjlckdmfaaGreat
open Go Go.RowKit Go.Proofs
set_option maxRecDepth 100000
set_option maxHeartbeats 8000000
theorem MetD.err_t {M : MetD} (h : M.bad = true) : M.err = 40 := by unfold MetD.err; rw [if_pos h]
theorem MetD.err_f {M : MetD} (h : M.bad = false) : M.err = 0 := by unfold MetD.err; rw [h]; rfl
def atE (M : MetD) (p t : Int) : Int := if M.bad then 40 else if !inB p 0 (M.places - 1) || !inB t 0 2000 then 1 else 0
def minE (M : MetD) (lw ls lc : Int) : Int := if M.bad then 40 else if !inB lw 0 300 || (!inB ls 0 20000 || !inB lc 0 20000) then 41 else 0
def opE (M : MetD) (lw ls lc p t : Int) : Int := if minE M lw ls lc = 0 then atE M p t else minE M lw ls lc
theorem wcheckAt_c (M : MetD) (vF vS : Value) (p t u : Int) (w : World) (hA : MetAt w vF vS M) :
  Calls Tryz.prog 95 #[.agg #[.int .i64 M.places, .int .i64 M.any.a0, .int .i64 M.any.a1, .int .i64 M.any.a2, .int .i64 M.any.a3, .int .i64 M.any.a4, .int .i64 M.any.a5, .bool M.any.i, .bool M.any.s, .int .i64 M.mw, .int .i64 M.ms, .int .i64 M.mc, vF, vS], .agg #[.int .i64 p, .int .i64 t, .int .i64 u]] w fun e w' => e = .returned (.int .i64 (atE M p t)) ∧ Below w.heap.size w w' := by
 have HA := hI9 hA
 have hck := fun w1 h => wCheck_c M vF vS w1 h
 clear hA
 unfold atE
 cases hb : M.bad
 ·rw [MetD.err_f hb] at hck
  have hp := (MetD.ok_of hb).places
  have hp1 := hp.1
  have hp2 := hp.2
  have HCK := hI9 hck
  clear hck hp
  rw [if_neg (by decide)]
  cases b1 : inB p 0 (M.places - 1)
  ·rw [show ∀ b : Bool, (!false || b) = true from fun _ => rfl, if_pos rfl]
   go_enter Tryz.func95, Tryz.ntmps95
   go_wp2_with (first | (refine wpl_row rfl 29 _ rfl _ rfl _ 14 ?_ Tryz.rowMet rfl ?_; (focus exact (by repeat (first | (refine Blk.newAt _ _ _ ?_; first | rfl | (simp; done)) | refine Blk.alloc ?_ _))); simp only [Act.put]))
   have _x := frm2 w #[.int .i64 M.places, .int .i64 M.any.a0, .int .i64 M.any.a1, .int .i64 M.any.a2, .int .i64 M.any.a3, .int .i64 M.any.a4, .int .i64 M.any.a5, .bool M.any.i, .bool M.any.s, .int .i64 M.mw, .int .i64 M.ms, .int .i64 M.mc, vF, vS] 29 #[.int .i64 p, .int .i64 t, .int .i64 u] 149
   have HX := hI9 _x.1
   have HW := hI9 _x.2.1
   have HB := hI9 _x.2.2.1
   have zW := _x.2.2.2
   clear _x
   generalize World.alloc (World.alloc w _) _ = W at *
   go_wp2_with (first | (go_at_call 46; (with_reducible refine (HCK.out _ (HA.out.below HB.out)).mono ?_); rintro e w1 ⟨rfl, hb1⟩; have nHX := hI9 (HX.out.below hb1); have nHW := hI9 (HW.out.below hb1); have nHB := hI9 (bthen HB.out hb1); have zz1 := hb1.size; clear HX HW HB hb1; have HX := nHX; have HW := nHW; have HB := nHB; clear nHX nHW nHB; (try clear zHX); have zHX := HX.out.lt; (try clear cHX0); have cHX0 := HX.out.cell 0; (try clear zHW); have zHW := HW.out.lt; (try clear cHW0); have cHW0 := HW.out.cell 0; (try clear cHW1); have cHW1 := HW.out.cell 1) | (go_at_call 69; (with_reducible refine (wwithin_c _ _ _ _).mono ?_); rintro e w1 ⟨rfl, rfl⟩))
   go_ret
   exact ⟨rfl, HB.out⟩
  ·rw [show ∀ b : Bool, (!true || b) = b from fun _ => rfl]
   cases b2 : inB t 0 2000
   ·rw [if_pos (show (!false) = true from rfl)]
    go_enter Tryz.func95, Tryz.ntmps95
    go_wp2_with (first | (refine wpl_row rfl 29 _ rfl _ rfl _ 14 ?_ Tryz.rowMet rfl ?_; (focus exact (by repeat (first | (refine Blk.newAt _ _ _ ?_; first | rfl | (simp; done)) | refine Blk.alloc ?_ _))); simp only [Act.put]))
    have _x := frm2 w #[.int .i64 M.places, .int .i64 M.any.a0, .int .i64 M.any.a1, .int .i64 M.any.a2, .int .i64 M.any.a3, .int .i64 M.any.a4, .int .i64 M.any.a5, .bool M.any.i, .bool M.any.s, .int .i64 M.mw, .int .i64 M.ms, .int .i64 M.mc, vF, vS] 29 #[.int .i64 p, .int .i64 t, .int .i64 u] 149
    have HX := hI9 _x.1
    have HW := hI9 _x.2.1
    have HB := hI9 _x.2.2.1
    have zW := _x.2.2.2
    clear _x
    generalize World.alloc (World.alloc w _) _ = W at *
    go_wp2_with (first | (go_at_call 46; (with_reducible refine (HCK.out _ (HA.out.below HB.out)).mono ?_); rintro e w1 ⟨rfl, hb1⟩; have nHX := hI9 (HX.out.below hb1); have nHW := hI9 (HW.out.below hb1); have nHB := hI9 (bthen HB.out hb1); have zz1 := hb1.size; clear HX HW HB hb1; have HX := nHX; have HW := nHW; have HB := nHB; clear nHX nHW nHB; (try clear zHX); have zHX := HX.out.lt; (try clear cHX0); have cHX0 := HX.out.cell 0; (try clear zHW); have zHW := HW.out.lt; (try clear cHW0); have cHW0 := HW.out.cell 0; (try clear cHW1); have cHW1 := HW.out.cell 1) | (go_at_call 69; (with_reducible refine (wwithin_c _ _ _ _).mono ?_); rintro e w1 ⟨rfl, rfl⟩))
    go_ret
    exact ⟨rfl, HB.out⟩
   ·rw [if_neg (by decide)]
    go_enter Tryz.func95, Tryz.ntmps95
    go_wp2_with (first | (refine wpl_row rfl 29 _ rfl _ rfl _ 14 ?_ Tryz.rowMet rfl ?_; (focus exact (by repeat (first | (refine Blk.newAt _ _ _ ?_; first | rfl | (simp; done)) | refine Blk.alloc ?_ _))); simp only [Act.put]))
    have _x := frm2 w #[.int .i64 M.places, .int .i64 M.any.a0, .int .i64 M.any.a1, .int .i64 M.any.a2, .int .i64 M.any.a3, .int .i64 M.any.a4, .int .i64 M.any.a5, .bool M.any.i, .bool M.any.s, .int .i64 M.mw, .int .i64 M.ms, .int .i64 M.mc, vF, vS] 29 #[.int .i64 p, .int .i64 t, .int .i64 u] 149
    have HX := hI9 _x.1
    have HW := hI9 _x.2.1
    have HB := hI9 _x.2.2.1
    have zW := _x.2.2.2
    clear _x
    generalize World.alloc (World.alloc w _) _ = W at *
    go_wp2_with (first | (go_at_call 46; (with_reducible refine (HCK.out _ (HA.out.below HB.out)).mono ?_); rintro e w1 ⟨rfl, hb1⟩; have nHX := hI9 (HX.out.below hb1); have nHW := hI9 (HW.out.below hb1); have nHB := hI9 (bthen HB.out hb1); have zz1 := hb1.size; clear HX HW HB hb1; have HX := nHX; have HW := nHW; have HB := nHB; clear nHX nHW nHB; (try clear zHX); have zHX := HX.out.lt; (try clear cHX0); have cHX0 := HX.out.cell 0; (try clear zHW); have zHW := HW.out.lt; (try clear cHW0); have cHW0 := HW.out.cell 0; (try clear cHW1); have cHW1 := HW.out.cell 1) | (go_at_call 69; (with_reducible refine (wwithin_c _ _ _ _).mono ?_); rintro e w1 ⟨rfl, rfl⟩))
    go_ret
    exact ⟨rfl, HB.out⟩
 ·rw [MetD.err_t hb] at hck
  have HCK := hI9 hck
  clear hck
  rw [if_pos rfl]
  go_enter Tryz.func95, Tryz.ntmps95
  go_wp2_with (first | (refine wpl_row rfl 29 _ rfl _ rfl _ 14 ?_ Tryz.rowMet rfl ?_; (focus exact (by repeat (first | (refine Blk.newAt _ _ _ ?_; first | rfl | (simp; done)) | refine Blk.alloc ?_ _))); simp only [Act.put]))
  have _x := frm2 w #[.int .i64 M.places, .int .i64 M.any.a0, .int .i64 M.any.a1, .int .i64 M.any.a2, .int .i64 M.any.a3, .int .i64 M.any.a4, .int .i64 M.any.a5, .bool M.any.i, .bool M.any.s, .int .i64 M.mw, .int .i64 M.ms, .int .i64 M.mc, vF, vS] 29 #[.int .i64 p, .int .i64 t, .int .i64 u] 149
  have HX := hI9 _x.1
  have HW := hI9 _x.2.1
  have HB := hI9 _x.2.2.1
  have zW := _x.2.2.2
  clear _x
  generalize World.alloc (World.alloc w _) _ = W at *
  go_wp2_with (first | (go_at_call 46; (with_reducible refine (HCK.out _ (HA.out.below HB.out)).mono ?_); rintro e w1 ⟨rfl, hb1⟩; have nHX := hI9 (HX.out.below hb1); have nHW := hI9 (HW.out.below hb1); have nHB := hI9 (bthen HB.out hb1); have zz1 := hb1.size; clear HX HW HB hb1; have HX := nHX; have HW := nHW; have HB := nHB; clear nHX nHW nHB; (try clear zHX); have zHX := HX.out.lt; (try clear cHX0); have cHX0 := HX.out.cell 0; (try clear zHW); have zHW := HW.out.lt; (try clear cHW0); have cHW0 := HW.out.cell 0; (try clear cHW1); have cHW1 := HW.out.cell 1) | (go_at_call 69; (with_reducible refine (wwithin_c _ _ _ _).mono ?_); rintro e w1 ⟨rfl, rfl⟩))
  go_ret
  exact ⟨rfl, HB.out⟩
theorem wminima_c (M : MetD) (vF vS : Value) (lw ls lc : Int) (li lt : Bool) (w : World) (hA : MetAt w vF vS M) :
  Calls Tryz.prog 94 #[.agg #[.int .i64 M.places, .int .i64 M.any.a0, .int .i64 M.any.a1, .int .i64 M.any.a2, .int .i64 M.any.a3, .int .i64 M.any.a4, .int .i64 M.any.a5, .bool M.any.i, .bool M.any.s, .int .i64 M.mw, .int .i64 M.ms, .int .i64 M.mc, vF, vS], .agg #[.int .i64 lw, .int .i64 ls, .int .i64 lc, .bool li, .bool lt]] w fun e w' => e = .returned (.int .i64 (minE M lw ls lc)) ∧ Below w.heap.size w w' := by
 have HA := hI9 hA
 have hck := fun w1 h => wCheck_c M vF vS w1 h
 clear hA
 unfold minE
 cases hb : M.bad
 ·rw [MetD.err_f hb] at hck
  have HCK := hI9 hck
  clear hck
  rw [if_neg (by decide)]
  cases b1 : inB lw 0 300
  ·rw [show ∀ b : Bool, (!false || b) = true from fun _ => rfl, if_pos rfl]
   go_enter Tryz.func94, Tryz.ntmps94
   go_wp2_with (first | (refine wpl_row rfl 29 _ rfl _ rfl _ 14 ?_ Tryz.rowMet rfl ?_; (focus exact (by repeat (first | (refine Blk.newAt _ _ _ ?_; first | rfl | (simp; done)) | refine Blk.alloc ?_ _))); simp only [Act.put]))
   have _x := frm2 w #[.int .i64 M.places, .int .i64 M.any.a0, .int .i64 M.any.a1, .int .i64 M.any.a2, .int .i64 M.any.a3, .int .i64 M.any.a4, .int .i64 M.any.a5, .bool M.any.i, .bool M.any.s, .int .i64 M.mw, .int .i64 M.ms, .int .i64 M.mc, vF, vS] 29 #[.int .i64 lw, .int .i64 ls, .int .i64 lc, .bool li, .bool lt] 31
   have HX := hI9 _x.1
   have HL := hI9 _x.2.1
   have HB := hI9 _x.2.2.1
   have zW := _x.2.2.2
   clear _x
   generalize World.alloc (World.alloc w _) _ = W at *
   go_wp2_with (first | (go_at_call 46; (with_reducible refine (HCK.out _ (HA.out.below HB.out)).mono ?_); rintro e w1 ⟨rfl, hb1⟩; have nHX := hI9 (HX.out.below hb1); have nHL := hI9 (HL.out.below hb1); have nHB := hI9 (bthen HB.out hb1); have zz1 := hb1.size; clear HX HL HB hb1; have HX := nHX; have HL := nHL; have HB := nHB; clear nHX nHL nHB; (try clear zHL); have zHL := HL.out.lt; (try clear cHL0); have cHL0 := HL.out.cell 0; (try clear cHL1); have cHL1 := HL.out.cell 1; (try clear cHL2); have cHL2 := HL.out.cell 2) | (go_at_call 69; (with_reducible refine (wwithin_c _ _ _ _).mono ?_); rintro e w1 ⟨rfl, rfl⟩))
   go_ret
   exact ⟨rfl, HB.out⟩
  ·rw [show ∀ b : Bool, (!true || b) = b from fun _ => rfl]
   cases b2 : inB ls 0 20000
   ·rw [show ∀ b : Bool, (!false || b) = true from fun _ => rfl, if_pos rfl]
    go_enter Tryz.func94, Tryz.ntmps94
    go_wp2_with (first | (refine wpl_row rfl 29 _ rfl _ rfl _ 14 ?_ Tryz.rowMet rfl ?_; (focus exact (by repeat (first | (refine Blk.newAt _ _ _ ?_; first | rfl | (simp; done)) | refine Blk.alloc ?_ _))); simp only [Act.put]))
    have _x := frm2 w #[.int .i64 M.places, .int .i64 M.any.a0, .int .i64 M.any.a1, .int .i64 M.any.a2, .int .i64 M.any.a3, .int .i64 M.any.a4, .int .i64 M.any.a5, .bool M.any.i, .bool M.any.s, .int .i64 M.mw, .int .i64 M.ms, .int .i64 M.mc, vF, vS] 29 #[.int .i64 lw, .int .i64 ls, .int .i64 lc, .bool li, .bool lt] 31
    have HX := hI9 _x.1
    have HL := hI9 _x.2.1
    have HB := hI9 _x.2.2.1
    have zW := _x.2.2.2
    clear _x
    generalize World.alloc (World.alloc w _) _ = W at *
    go_wp2_with (first | (go_at_call 46; (with_reducible refine (HCK.out _ (HA.out.below HB.out)).mono ?_); rintro e w1 ⟨rfl, hb1⟩; have nHX := hI9 (HX.out.below hb1); have nHL := hI9 (HL.out.below hb1); have nHB := hI9 (bthen HB.out hb1); have zz1 := hb1.size; clear HX HL HB hb1; have HX := nHX; have HL := nHL; have HB := nHB; clear nHX nHL nHB; (try clear zHL); have zHL := HL.out.lt; (try clear cHL0); have cHL0 := HL.out.cell 0; (try clear cHL1); have cHL1 := HL.out.cell 1; (try clear cHL2); have cHL2 := HL.out.cell 2) | (go_at_call 69; (with_reducible refine (wwithin_c _ _ _ _).mono ?_); rintro e w1 ⟨rfl, rfl⟩))
    go_ret
    exact ⟨rfl, HB.out⟩
   ·rw [show ∀ b : Bool, (!true || b) = b from fun _ => rfl]
    cases b3 : inB lc 0 20000
    ·rw [if_pos (show (!false) = true from rfl)]
     go_enter Tryz.func94, Tryz.ntmps94
     go_wp2_with (first | (refine wpl_row rfl 29 _ rfl _ rfl _ 14 ?_ Tryz.rowMet rfl ?_; (focus exact (by repeat (first | (refine Blk.newAt _ _ _ ?_; first | rfl | (simp; done)) | refine Blk.alloc ?_ _))); simp only [Act.put]))
     have _x := frm2 w #[.int .i64 M.places, .int .i64 M.any.a0, .int .i64 M.any.a1, .int .i64 M.any.a2, .int .i64 M.any.a3, .int .i64 M.any.a4, .int .i64 M.any.a5, .bool M.any.i, .bool M.any.s, .int .i64 M.mw, .int .i64 M.ms, .int .i64 M.mc, vF, vS] 29 #[.int .i64 lw, .int .i64 ls, .int .i64 lc, .bool li, .bool lt] 31
     have HX := hI9 _x.1
     have HL := hI9 _x.2.1
     have HB := hI9 _x.2.2.1
     have zW := _x.2.2.2
     clear _x
     generalize World.alloc (World.alloc w _) _ = W at *
     go_wp2_with (first | (go_at_call 46; (with_reducible refine (HCK.out _ (HA.out.below HB.out)).mono ?_); rintro e w1 ⟨rfl, hb1⟩; have nHX := hI9 (HX.out.below hb1); have nHL := hI9 (HL.out.below hb1); have nHB := hI9 (bthen HB.out hb1); have zz1 := hb1.size; clear HX HL HB hb1; have HX := nHX; have HL := nHL; have HB := nHB; clear nHX nHL nHB; (try clear zHL); have zHL := HL.out.lt; (try clear cHL0); have cHL0 := HL.out.cell 0; (try clear cHL1); have cHL1 := HL.out.cell 1; (try clear cHL2); have cHL2 := HL.out.cell 2) | (go_at_call 69; (with_reducible refine (wwithin_c _ _ _ _).mono ?_); rintro e w1 ⟨rfl, rfl⟩))
     go_ret
     exact ⟨rfl, HB.out⟩
    ·rw [if_neg (by decide)]
     go_enter Tryz.func94, Tryz.ntmps94
     go_wp2_with (first | (refine wpl_row rfl 29 _ rfl _ rfl _ 14 ?_ Tryz.rowMet rfl ?_; (focus exact (by repeat (first | (refine Blk.newAt _ _ _ ?_; first | rfl | (simp; done)) | refine Blk.alloc ?_ _))); simp only [Act.put]))
     have _x := frm2 w #[.int .i64 M.places, .int .i64 M.any.a0, .int .i64 M.any.a1, .int .i64 M.any.a2, .int .i64 M.any.a3, .int .i64 M.any.a4, .int .i64 M.any.a5, .bool M.any.i, .bool M.any.s, .int .i64 M.mw, .int .i64 M.ms, .int .i64 M.mc, vF, vS] 29 #[.int .i64 lw, .int .i64 ls, .int .i64 lc, .bool li, .bool lt] 31
     have HX := hI9 _x.1
     have HL := hI9 _x.2.1
     have HB := hI9 _x.2.2.1
     have zW := _x.2.2.2
     clear _x
     generalize World.alloc (World.alloc w _) _ = W at *
     go_wp2_with (first | (go_at_call 46; (with_reducible refine (HCK.out _ (HA.out.below HB.out)).mono ?_); rintro e w1 ⟨rfl, hb1⟩; have nHX := hI9 (HX.out.below hb1); have nHL := hI9 (HL.out.below hb1); have nHB := hI9 (bthen HB.out hb1); have zz1 := hb1.size; clear HX HL HB hb1; have HX := nHX; have HL := nHL; have HB := nHB; clear nHX nHL nHB; (try clear zHL); have zHL := HL.out.lt; (try clear cHL0); have cHL0 := HL.out.cell 0; (try clear cHL1); have cHL1 := HL.out.cell 1; (try clear cHL2); have cHL2 := HL.out.cell 2) | (go_at_call 69; (with_reducible refine (wwithin_c _ _ _ _).mono ?_); rintro e w1 ⟨rfl, rfl⟩))
     go_ret
     exact ⟨rfl, HB.out⟩
 ·rw [MetD.err_t hb] at hck
  have HCK := hI9 hck
  clear hck
  rw [if_pos rfl]
  go_enter Tryz.func94, Tryz.ntmps94
  go_wp2_with (first | (refine wpl_row rfl 29 _ rfl _ rfl _ 14 ?_ Tryz.rowMet rfl ?_; (focus exact (by repeat (first | (refine Blk.newAt _ _ _ ?_; first | rfl | (simp; done)) | refine Blk.alloc ?_ _))); simp only [Act.put]))
  have _x := frm2 w #[.int .i64 M.places, .int .i64 M.any.a0, .int .i64 M.any.a1, .int .i64 M.any.a2, .int .i64 M.any.a3, .int .i64 M.any.a4, .int .i64 M.any.a5, .bool M.any.i, .bool M.any.s, .int .i64 M.mw, .int .i64 M.ms, .int .i64 M.mc, vF, vS] 29 #[.int .i64 lw, .int .i64 ls, .int .i64 lc, .bool li, .bool lt] 31
  have HX := hI9 _x.1
  have HL := hI9 _x.2.1
  have HB := hI9 _x.2.2.1
  have zW := _x.2.2.2
  clear _x
  generalize World.alloc (World.alloc w _) _ = W at *
  go_wp2_with (first | (go_at_call 46; (with_reducible refine (HCK.out _ (HA.out.below HB.out)).mono ?_); rintro e w1 ⟨rfl, hb1⟩; have nHX := hI9 (HX.out.below hb1); have nHL := hI9 (HL.out.below hb1); have nHB := hI9 (bthen HB.out hb1); have zz1 := hb1.size; clear HX HL HB hb1; have HX := nHX; have HL := nHL; have HB := nHB; clear nHX nHL nHB; (try clear zHL); have zHL := HL.out.lt; (try clear cHL0); have cHL0 := HL.out.cell 0; (try clear cHL1); have cHL1 := HL.out.cell 1; (try clear cHL2); have cHL2 := HL.out.cell 2) | (go_at_call 69; (with_reducible refine (wwithin_c _ _ _ _).mono ?_); rintro e w1 ⟨rfl, rfl⟩))
  go_ret
  exact ⟨rfl, HB.out⟩
theorem wcheckOpen_c (M : MetD) (vF vS : Value) (lw ls lc : Int) (li lt : Bool) (p t : Int) (w : World) (hA : MetAt w vF vS M) :
  Calls Tryz.prog 79 #[.agg #[.int .i64 M.places, .int .i64 M.any.a0, .int .i64 M.any.a1, .int .i64 M.any.a2, .int .i64 M.any.a3, .int .i64 M.any.a4, .int .i64 M.any.a5, .bool M.any.i, .bool M.any.s, .int .i64 M.mw, .int .i64 M.ms, .int .i64 M.mc, vF, vS], .agg #[.int .i64 lw, .int .i64 ls, .int .i64 lc, .bool li, .bool lt], .int .i64 p, .int .i64 t] w fun e w' => e = .returned (.int .i64 (opE M lw ls lc p t)) ∧ Below w.heap.size w w' := by
 have HA := hI9 hA
 have hmn := fun w1 h => wminima_c M vF vS lw ls lc li lt w1 h
 have hat := fun w1 h => wcheckAt_c M vF vS p t t w1 h
 clear hA
 unfold opE
 by_cases he : minE M lw ls lc = 0
 ·rw [if_pos he]
  rw [he] at hmn
  generalize atE M p t = E at *
  have HMN := hI9 hmn
  have HAT := hI9 hat
  clear hmn hat he
  go_enter Tryz.func79, Tryz.ntmps79
  go_wp2_with (first | (refine wpl_row rfl 29 _ rfl _ rfl _ 14 ?_ Tryz.rowMet rfl ?_; (focus exact (by repeat (first | (refine Blk.newAt _ _ _ ?_; first | rfl | (simp; done)) | refine Blk.alloc ?_ _))); simp only [Act.put]) | (refine wpl_row rfl 31 _ rfl _ rfl _ 5 ?_ Tryz.rowMin rfl ?_; (focus exact (by repeat (first | (refine Blk.newAt _ _ _ ?_; first | rfl | (simp; done)) | refine Blk.alloc ?_ _))); simp only [Act.put]))
  have _x := frm2 w #[.int .i64 M.places, .int .i64 M.any.a0, .int .i64 M.any.a1, .int .i64 M.any.a2, .int .i64 M.any.a3, .int .i64 M.any.a4, .int .i64 M.any.a5, .bool M.any.i, .bool M.any.s, .int .i64 M.mw, .int .i64 M.ms, .int .i64 M.mc, vF, vS] 29 #[.int .i64 lw, .int .i64 ls, .int .i64 lc, .bool li, .bool lt] 31
  have HX := hI9 _x.1
  have HL := hI9 _x.2.1
  have HB := hI9 _x.2.2.1
  have zW := _x.2.2.2
  clear _x
  generalize World.alloc (World.alloc w _) _ = W at *
  go_wp2_with (first | (go_at_call 94; (with_reducible refine (HMN.out _ (HA.out.below HB.out)).mono ?_); rintro e w1 ⟨rfl, hb1⟩; have nHX := hI9 (HX.out.below hb1); have nHL := hI9 (HL.out.below hb1); have nHB := hI9 (bthen HB.out hb1); have zz1 := hb1.size; clear HX HL HB hb1; have HX := nHX; have HL := nHL; have HB := nHB; clear nHX nHL nHB) | (refine wpl_row rfl 29 _ rfl _ rfl _ 14 HX.out Tryz.rowMet rfl ?_; simp only [Act.put]))
  have hM2 := hI9 (fun r : After _ => HX.out.below r.below)
  have hA2 := hI9 (fun r : After _ => (HA.out.below HB.out).below r.below)
  refine wp_region_aftert 5 (by kernel_rfl) (by kernel_rfl) ?_
  simp only [List.take_succ_cons, List.take_zero, List.drop_succ_cons, List.drop_zero]
  refine wpq_row rfl 29 _ rfl _ rfl _ 14 (fun _ hw => by obtain ⟨r, rfl⟩ := hw; exact hM2.out r) Tryz.rowMet rfl ?_
  simp only [Act.put, List.setIfInBounds_toArray, List.set_cons_succ, List.set_cons_zero]
  iterate 2 (go_big_quiet_step (fail))
  go_big_quiet_step (first | (go_at_call 96; (with_reducible refine qafter (wat_c _ _ _))))
  go_big_quiet_step (first | (go_at_call 95; (with_reducible refine qafter (HAT.out _ (hA2.out _)))))
  refine wpQuiet_nil ?_
  rintro _ ⟨r, rfl⟩
  have BR := r.below
  go_wp2_with (fail)
  go_ret
  exact ⟨rfl, bthen HB.out BR⟩
 ·rw [if_neg he]
  have hez : (minE M lw ls lc != 0) = true := by simpa using he
  generalize minE M lw ls lc = E at *
  have HMN := hI9 hmn
  clear hmn hat he
  go_enter Tryz.func79, Tryz.ntmps79
  go_wp2_with (first | (refine wpl_row rfl 29 _ rfl _ rfl _ 14 ?_ Tryz.rowMet rfl ?_; (focus exact (by repeat (first | (refine Blk.newAt _ _ _ ?_; first | rfl | (simp; done)) | refine Blk.alloc ?_ _))); simp only [Act.put]) | (refine wpl_row rfl 31 _ rfl _ rfl _ 5 ?_ Tryz.rowMin rfl ?_; (focus exact (by repeat (first | (refine Blk.newAt _ _ _ ?_; first | rfl | (simp; done)) | refine Blk.alloc ?_ _))); simp only [Act.put]))
  have _x := frm2 w #[.int .i64 M.places, .int .i64 M.any.a0, .int .i64 M.any.a1, .int .i64 M.any.a2, .int .i64 M.any.a3, .int .i64 M.any.a4, .int .i64 M.any.a5, .bool M.any.i, .bool M.any.s, .int .i64 M.mw, .int .i64 M.ms, .int .i64 M.mc, vF, vS] 29 #[.int .i64 lw, .int .i64 ls, .int .i64 lc, .bool li, .bool lt] 31
  have HX := hI9 _x.1
  have HL := hI9 _x.2.1
  have HB := hI9 _x.2.2.1
  have zW := _x.2.2.2
  clear _x
  generalize World.alloc (World.alloc w _) _ = W at *
  go_wp2_with (first | (go_at_call 94; (with_reducible refine (HMN.out _ (HA.out.below HB.out)).mono ?_); rintro e w1 ⟨rfl, hb1⟩; have nHX := hI9 (HX.out.below hb1); have nHL := hI9 (HL.out.below hb1); have nHB := hI9 (bthen HB.out hb1); have zz1 := hb1.size; clear HX HL HB hb1; have HX := nHX; have HL := nHL; have HB := nHB; clear nHX nHL nHB) | (refine wpl_row rfl 29 _ rfl _ rfl _ 14 HX.out Tryz.rowMet rfl ?_; simp only [Act.put]))
  go_ret
  exact ⟨rfl, HB.out⟩
end Go.Proofs.YtlabfpjlckdmfaaGreat

namespace Go.Proofs.YtlabfpjlckdmfaaGreat
open Go Go.RowKit Go.Proofs
set_option maxRecDepth 100000
set_option maxHeartbeats 8000000
def openB (x : Sk) (lw ls lc : Int) (li lt : Bool) : Bool := flyB x.a1 x.a2 x.a4 x.i x.s lw ls lc li lt
theorem wopen_c (M : MetD) (vF vS : Value) (lw ls lc : Int) (li lt : Bool) (p t : Int) (w : World) (hM : M.Ok) (hA : MetAt w vF vS M) (ht0 : 0 ≤ t) (ht1 : t ≤ 2000) :
  Calls Tryz.prog 80 #[.agg #[.int .i64 M.places, .int .i64 M.any.a0, .int .i64 M.any.a1, .int .i64 M.any.a2, .int .i64 M.any.a3, .int .i64 M.any.a4, .int .i64 M.any.a5, .bool M.any.i, .bool M.any.s, .int .i64 M.mw, .int .i64 M.ms, .int .i64 M.mc, vF, vS], .agg #[.int .i64 lw, .int .i64 ls, .int .i64 lc, .bool li, .bool lt], .int .i64 p, .int .i64 t] w fun e w' => e = .returned (.bool (openB (M.may p t) lw ls lc li lt)) ∧ Below w.heap.size w w' := by
 have HA := hI9 hA
 have hmy := fun w1 h => may_c M vF vS p t w1 hM h ht0 ht1
 clear hA hM
 rcases hx : M.may p t with ⟨a0, a1, a2, a3, a4, a5, xi, xs⟩
 rw [hx] at hmy
 have hwo := fun w1 => worst_c (Sk.mk a0 a1 a2 a3 a4 a5 xi xs) w1
 dsimp only at hwo
 unfold openB Sk.cells at *
 dsimp only at hmy ⊢
 have HFL := hI9 (fun w1 => flyable_c a1 a2 a4 xi xs lw ls lc li lt w1)
 generalize flyB a1 a2 a4 xi xs lw ls lc li lt = R at *
 have HMY := hI9 hmy
 have HWO := hI9 hwo
 clear hmy hwo hx
 go_enter Tryz.func80, Tryz.ntmps80
 go_wp2_with (first | (refine wpl_row rfl 29 _ rfl _ rfl _ 14 ?_ Tryz.rowMet rfl ?_; (focus exact (by repeat (first | (refine Blk.newAt _ _ _ ?_; first | rfl | (simp; done)) | refine Blk.alloc ?_ _))); simp only [Act.put]))
 have _x := frm2 w #[.int .i64 M.places, .int .i64 M.any.a0, .int .i64 M.any.a1, .int .i64 M.any.a2, .int .i64 M.any.a3, .int .i64 M.any.a4, .int .i64 M.any.a5, .bool M.any.i, .bool M.any.s, .int .i64 M.mw, .int .i64 M.ms, .int .i64 M.mc, vF, vS] 29 #[.int .i64 lw, .int .i64 ls, .int .i64 lc, .bool li, .bool lt] 31
 have HX := hI9 _x.1
 have HL := hI9 _x.2.1
 have HB := hI9 _x.2.2.1
 have zW := _x.2.2.2
 clear _x
 generalize World.alloc (World.alloc w _) _ = W at *
 refine (HMY.out _ (HA.out.below HB.out)).mono ?_
 rintro _ w1 ⟨v, ys, rfl, hb1, -, -⟩
 have nHX := hI9 (HX.out.below hb1)
 have nHL := hI9 (HL.out.below hb1)
 have nHB := hI9 (bthen HB.out hb1)
 clear HX HL HB hb1
 have HX := nHX
 have HL := nHL
 have HB := nHB
 clear nHX nHL nHB
 go_wp2_with (fail)
 have bHS := Blk.new w1 152 #[.int .i64 a0, .int .i64 a1, .int .i64 a2, .int .i64 a3, .int .i64 a4, .int .i64 a5, .bool xi, .bool xs]
 have nHX := hI9 (HX.out.alloc (.cells #[.int .i64 a0, .int .i64 a1, .int .i64 a2, .int .i64 a3, .int .i64 a4, .int .i64 a5, .bool xi, .bool xs] 152))
 have nHL := hI9 (HL.out.alloc (.cells #[.int .i64 a0, .int .i64 a1, .int .i64 a2, .int .i64 a3, .int .i64 a4, .int .i64 a5, .bool xi, .bool xs] 152))
 have nHB := hI9 (bal HB.out (.cells #[.int .i64 a0, .int .i64 a1, .int .i64 a2, .int .i64 a3, .int .i64 a4, .int .i64 a5, .bool xi, .bool xs] 152))
 clear HX HL HB
 have HX := nHX
 have HL := nHL
 have HB := nHB
 clear nHX nHL nHB
 generalize w1.alloc (.cells #[.int .i64 a0, .int .i64 a1, .int .i64 a2, .int .i64 a3, .int .i64 a4, .int .i64 a5, .bool xi, .bool xs] 152) = W2 at *
 generalize w1.heap.size = gHS at *
 have HS := hI9 bHS
 clear bHS
 have hS2 := hI9 (fun r : After _ => HS.out.below r.below)
 have hL2 := hI9 (fun r : After _ => HL.out.below r.below)
 refine wp_region_aftert 4 (by kernel_rfl) (by kernel_rfl) ?_
 simp only [List.take_succ_cons, List.take_zero, List.drop_succ_cons, List.drop_zero]
 refine wpq_row rfl 152 _ rfl _ rfl _ 8 (fun _ hw => by obtain ⟨r, rfl⟩ := hw; exact hS2.out r) Tryz.rowSet rfl ?_
 simp only [Act.put, List.setIfInBounds_toArray, List.set_cons_succ, List.set_cons_zero]
 go_big_quiet_step (first | (go_at_call 99; (with_reducible refine qafter (HWO.out _))))
 refine wpq_row rfl 31 _ rfl _ rfl _ 5 (fun _ hw => by obtain ⟨r, rfl⟩ := hw; exact hL2.out r) Tryz.rowMin rfl ?_
 simp only [Act.put, List.setIfInBounds_toArray, List.set_cons_succ, List.set_cons_zero]
 go_big_quiet_step (first | (go_at_call 98; (with_reducible refine qafter (HFL.out _))))
 refine wpQuiet_nil ?_
 rintro _ ⟨r, rfl⟩
 have BR := r.below
 go_wp2_with (fail)
 go_ret
 exact ⟨rfl, bthen HB.out BR⟩
theorem minE_bad {M : MetD} {lw ls lc : Int} (h : minE M lw ls lc = 0) : M.bad = false := by
 unfold minE at h
 cases hb : M.bad
 ·rfl
 ·rw [hb, if_pos rfl] at h; cases h
theorem opE_ok {M : MetD} {lw ls lc p t : Int} (h : opE M lw ls lc p t = 0) : M.Ok ∧ 0 ≤ t ∧ t ≤ 2000 := by
 unfold opE at h
 by_cases he : minE M lw ls lc = 0
 ·rw [if_pos he] at h
  have hb := minE_bad he
  unfold atE at h
  rw [hb, if_neg (by decide)] at h
  cases b1 : inB p 0 (M.places - 1)
  ·rw [b1] at h; cases h
  ·cases b2 : inB t 0 2000
   ·rw [b1, b2] at h; cases h
   ·exact ⟨MetD.ok_of hb, inB_iff.1 b2⟩
 ·rw [if_neg he] at h; exact absurd h he
def openV (M : MetD) (lw ls lc : Int) (li lt : Bool) (p t : Int) : Bool := decide (opE M lw ls lc p t = 0) && openB (M.may p t) lw ls lc li lt
theorem wOpen_c (M : MetD) (vF vS : Value) (lw ls lc : Int) (li lt : Bool) (p t : Int) (w : World) (hA : MetAt w vF vS M) :
  Calls Tryz.prog 47 #[.agg #[.int .i64 M.places, .int .i64 M.any.a0, .int .i64 M.any.a1, .int .i64 M.any.a2, .int .i64 M.any.a3, .int .i64 M.any.a4, .int .i64 M.any.a5, .bool M.any.i, .bool M.any.s, .int .i64 M.mw, .int .i64 M.ms, .int .i64 M.mc, vF, vS], .agg #[.int .i64 lw, .int .i64 ls, .int .i64 lc, .bool li, .bool lt], .int .i64 p, .int .i64 t] w fun e w' => e = .returned (.tuple #[.bool (openV M lw ls lc li lt p t), .int .i64 (opE M lw ls lc p t)]) ∧ Below w.heap.size w w' := by
 have HA := hI9 hA
 have hco := fun w1 h => wcheckOpen_c M vF vS lw ls lc li lt p t w1 h
 clear hA
 unfold openV
 by_cases he : opE M lw ls lc p t = 0
 ·obtain ⟨hM, ht0, ht1⟩ := opE_ok he
  have hop := fun w1 h => wopen_c M vF vS lw ls lc li lt p t w1 hM h ht0 ht1
  rw [he] at hco ⊢
  rw [show (decide ((0 : Int) = 0) && openB (M.may p t) lw ls lc li lt) = openB (M.may p t) lw ls lc li lt from rfl]
  generalize openB (M.may p t) lw ls lc li lt = R at *
  have HCO := hI9 hco
  have HOP := hI9 hop
  clear hco hop hM he
  go_enter Tryz.func47, Tryz.ntmps47
  go_wp2_with (first | (refine wpl_row rfl 29 _ rfl _ rfl _ 14 ?_ Tryz.rowMet rfl ?_; (focus exact (by repeat (first | (refine Blk.newAt _ _ _ ?_; first | rfl | (simp; done)) | refine Blk.alloc ?_ _))); simp only [Act.put]) | (refine wpl_row rfl 31 _ rfl _ rfl _ 5 ?_ Tryz.rowMin rfl ?_; (focus exact (by repeat (first | (refine Blk.newAt _ _ _ ?_; first | rfl | (simp; done)) | refine Blk.alloc ?_ _))); simp only [Act.put]))
  have _x := frm2 w #[.int .i64 M.places, .int .i64 M.any.a0, .int .i64 M.any.a1, .int .i64 M.any.a2, .int .i64 M.any.a3, .int .i64 M.any.a4, .int .i64 M.any.a5, .bool M.any.i, .bool M.any.s, .int .i64 M.mw, .int .i64 M.ms, .int .i64 M.mc, vF, vS] 29 #[.int .i64 lw, .int .i64 ls, .int .i64 lc, .bool li, .bool lt] 31
  have HX := hI9 _x.1
  have HL := hI9 _x.2.1
  have HB := hI9 _x.2.2.1
  have zW := _x.2.2.2
  clear _x
  generalize World.alloc (World.alloc w _) _ = W at *
  go_wp2_with (first | (go_at_call 79; (with_reducible refine (HCO.out _ (HA.out.below HB.out)).mono ?_); rintro e w1 ⟨rfl, hb1⟩; have nHX := hI9 (HX.out.below hb1); have nHL := hI9 (HL.out.below hb1); have nHB := hI9 (bthen HB.out hb1); have zz1 := hb1.size; clear HX HL HB hb1; have HX := nHX; have HL := nHL; have HB := nHB; clear nHX nHL nHB) | (refine wpl_row rfl 29 _ rfl _ rfl _ 14 HX.out Tryz.rowMet rfl ?_; simp only [Act.put]) | (refine wpl_row rfl 31 _ rfl _ rfl _ 5 HL.out Tryz.rowMin rfl ?_; simp only [Act.put]) | (go_at_call 80; (with_reducible refine (HOP.out _ (HA.out.below HB.out)).mono ?_); rintro e w1 ⟨rfl, hb1⟩; have nHX := hI9 (HX.out.below hb1); have nHL := hI9 (HL.out.below hb1); have nHB := hI9 (bthen HB.out hb1); have zz1 := hb1.size; clear HX HL HB hb1; have HX := nHX; have HL := nHL; have HB := nHB; clear nHX nHL nHB))
  go_ret2
  exact ⟨rfl, HB.out⟩
 ·have hez : (opE M lw ls lc p t != 0) = true := by simpa using he
  rw [show decide (opE M lw ls lc p t = 0) = false from decide_eq_false he, Bool.false_and]
  generalize opE M lw ls lc p t = E at *
  have HCO := hI9 hco
  have HOP := hI9 (fun (w1 : World) (_ : MetAt w1 vF vS M) => True.intro)
  clear hco he
  go_enter Tryz.func47, Tryz.ntmps47
  go_wp2_with (first | (refine wpl_row rfl 29 _ rfl _ rfl _ 14 ?_ Tryz.rowMet rfl ?_; (focus exact (by repeat (first | (refine Blk.newAt _ _ _ ?_; first | rfl | (simp; done)) | refine Blk.alloc ?_ _))); simp only [Act.put]) | (refine wpl_row rfl 31 _ rfl _ rfl _ 5 ?_ Tryz.rowMin rfl ?_; (focus exact (by repeat (first | (refine Blk.newAt _ _ _ ?_; first | rfl | (simp; done)) | refine Blk.alloc ?_ _))); simp only [Act.put]))
  have _x := frm2 w #[.int .i64 M.places, .int .i64 M.any.a0, .int .i64 M.any.a1, .int .i64 M.any.a2, .int .i64 M.any.a3, .int .i64 M.any.a4, .int .i64 M.any.a5, .bool M.any.i, .bool M.any.s, .int .i64 M.mw, .int .i64 M.ms, .int .i64 M.mc, vF, vS] 29 #[.int .i64 lw, .int .i64 ls, .int .i64 lc, .bool li, .bool lt] 31
  have HX := hI9 _x.1
  have HL := hI9 _x.2.1
  have HB := hI9 _x.2.2.1
  have zW := _x.2.2.2
  clear _x
  generalize World.alloc (World.alloc w _) _ = W at *
  go_wp2_with (first | (go_at_call 79; (with_reducible refine (HCO.out _ (HA.out.below HB.out)).mono ?_); rintro e w1 ⟨rfl, hb1⟩; have nHX := hI9 (HX.out.below hb1); have nHL := hI9 (HL.out.below hb1); have nHB := hI9 (bthen HB.out hb1); have zz1 := hb1.size; clear HX HL HB hb1; have HX := nHX; have HL := nHL; have HB := nHB; clear nHX nHL nHB) | (refine wpl_row rfl 29 _ rfl _ rfl _ 14 HX.out Tryz.rowMet rfl ?_; simp only [Act.put]) | (refine wpl_row rfl 31 _ rfl _ rfl _ 5 HL.out Tryz.rowMin rfl ?_; simp only [Act.put]) | (go_at_call 80; (with_reducible refine (HOP.out _ (HA.out.below HB.out)).mono ?_); rintro e w1 ⟨rfl, hb1⟩; have nHX := hI9 (HX.out.below hb1); have nHL := hI9 (HL.out.below hb1); have nHB := hI9 (bthen HB.out hb1); have zz1 := hb1.size; clear HX HL HB hb1; have HX := nHX; have HL := nHL; have HB := nHB; clear nHX nHL nHB))
  go_ret2
  exact ⟨rfl, HB.out⟩
end Go.Proofs.YtlabfpjlckdmfaaGreat

namespace Go.Proofs.YtlabfpjlckdmfaaGreat
open Go Go.RowKit Go.Proofs
set_option maxRecDepth 100000
set_option maxHeartbeats 8000000
end Go.Proofs.YtlabfpjlckdmfaaGreat

namespace Go.Proofs.YtlabfpjlckdmfaaGreat
open Go Go.RowKit Go.Proofs
set_option maxRecDepth 100000
set_option maxHeartbeats 8000000
structure FiK (M : MetD) (vF vS : Value) (lw ls lc : Int) (li lt : Bool) (w wr : World) : Prop where
 b : Below w.heap.size w wr
 m : Blk wr w.heap.size 29 #[.int .i64 M.places, .int .i64 M.any.a0, .int .i64 M.any.a1, .int .i64 M.any.a2, .int .i64 M.any.a3, .int .i64 M.any.a4, .int .i64 M.any.a5, .bool M.any.i, .bool M.any.s, .int .i64 M.mw, .int .i64 M.ms, .int .i64 M.mc, vF, vS]
 l : Blk wr (w.heap.size + 1) 31 #[.int .i64 lw, .int .i64 ls, .int .i64 lc, .bool li, .bool lt]
theorem FiK.grow {M : MetD} {vF vS : Value} {lw ls lc : Int} {li lt : Bool} {w wr w2 : World} (h : FiK M vF vS lw ls lc li lt w wr) (hb : Below wr.heap.size wr w2) : FiK M vF vS lw ls lc li lt w w2 :=
 ⟨bthen h.b hb, h.m.below hb, h.l.below hb⟩
end Go.Proofs.YtlabfpjlckdmfaaGreat

namespace Go.Proofs.YtlabfpjlckdmfaaGreat
open Go Go.RowKit Go.Proofs
set_option maxRecDepth 100000
set_option maxHeartbeats 8000000
theorem RecsAt.frame {w w' : World} {A : Option Addr} {n k : Nat} {V : Nat → Nat → Value} (h : RecsAt w A n k V) (hs : w.heap.size ≤ w'.heap.size) (hf : 0 < n → ∀ b off, A = some ⟨b, off, none⟩ → w'.heap[b]? = w.heap[b]?) : RecsAt w' A n k V := by
 intro hn
 obtain ⟨b, off, rfl, hb, hc⟩ := h hn
 refine ⟨b, off, rfl, by omega, fun i hi j hj => ?_⟩
 rw [← hc i hi j hj]
 exact World.cell?_of_block (w := w) (hf hn b off rfl)
theorem Tryz.fcU : Tryz.prog.underlying 26 = some (.slice 98) := by kernel_rfl
def MetD.far (M : MetD) : Bool := decide (50 < M.n) || decide (30 < M.m)
theorem Tryz.sizeMet : (Tryz.prog.info? 29).map (·.size) = some 14 := by kernel_rfl
theorem MetAt.setRow {w : World} {vF vS : Value} {M : MetD} (h : MetAt w vF vS M) {g : Nat} (h1 : ∀ b, some b = vF.ownBlock → b ≠ g) (h2 : ∀ b, some b = vS.ownBlock → b ≠ g) (us : Array Value) : MetAt (w.setRow g us) vF vS M := by
 obtain ⟨⟨A, c, rfl, q1, q2, q3⟩, ⟨A', c', rfl, k1, k2, k3⟩⟩ := h
 exact ⟨⟨A, c, rfl, q1, q2, q3.frame (by simp [World.setRow]) (fun _ b off e => setRow_other _ _ _ _ (h1 b (by rw [e]; rfl)))⟩, ⟨A', c', rfl, k1, k2, k3.frame (by simp [World.setRow]) (fun _ b off e => setRow_other _ _ _ _ (h2 b (by rw [e]; rfl)))⟩⟩
end Go.Proofs.YtlabfpjlckdmfaaGreat
