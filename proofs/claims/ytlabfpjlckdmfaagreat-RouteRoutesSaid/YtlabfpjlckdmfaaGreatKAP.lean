/- Texts joined: KAP. -/
import Derived.Test.YtlabfpjlckdmfaaGreatKZI
import Derived.Test.YtlabfpjlckdmfaaGreatKAN
set_option linter.all false
namespace Go.Proofs.YtlabfpjlckdmfaaGreat
open Go Go.RowKit Go.Proofs
set_option maxRecDepth 100000
set_option maxHeartbeats 8000000
theorem rw_checkTick_c (M : MetD) (vF vS : Value) (p t : Int) (w : World) (hA : MetAt w vF vS M) :
  Calls Tryz.prog 114 #[.agg #[.int .i64 M.places, .int .i64 M.any.a0, .int .i64 M.any.a1, .int .i64 M.any.a2, .int .i64 M.any.a3, .int .i64 M.any.a4, .int .i64 M.any.a5, .bool M.any.i, .bool M.any.s, .int .i64 M.mw, .int .i64 M.ms, .int .i64 M.mc, vF, vS], .int .i64 p, .int .i64 t] w fun e w' => e = .returned (.int .i64 (atE M p t)) ∧ Below w.heap.size w w' := by
 have HA := hI9 hA
 have hck := fun w1 h => rw_Check_c M vF vS w1 h
 clear hA
 unfold atE
 cases hb : M.bad
 ·rw [MetD.err_f hb] at hck
  have hp := (MetD.ok_of hb).places
  have hp1 := hp.1
  have hp2 := hp.2
  have HCK := hI9 hck
  clear hck hp
  rw [if_neg (by decide)]
  cases b1 : inB p 0 (M.places - 1)
  ·rw [show ∀ b : Bool, (!false || b) = true from fun _ => rfl, if_pos rfl]
   go_enter Tryz.func114, Tryz.ntmps114
   go_wp2_with (fail)
   have _x := frm1 w #[.int .i64 M.places, .int .i64 M.any.a0, .int .i64 M.any.a1, .int .i64 M.any.a2, .int .i64 M.any.a3, .int .i64 M.any.a4, .int .i64 M.any.a5, .bool M.any.i, .bool M.any.s, .int .i64 M.mw, .int .i64 M.ms, .int .i64 M.mc, vF, vS] 29
   have HX := hI9 _x.1
   have HB := hI9 _x.2.1
   have zW := _x.2.2
   clear _x
   generalize World.alloc w _ = W at *
   go_wp2_with (first | (refine wpl_row rfl 29 _ rfl _ rfl _ 14 HX.out Tryz.rowMet rfl ?_; simp only [Act.put]) | (go_at_call 19; (with_reducible refine (HCK.out _ (HA.out.below HB.out)).mono ?_); rintro e w1 ⟨rfl, hb1⟩; have nHX := hI9 (HX.out.below hb1); have nHB := hI9 (bthen HB.out hb1); have zz1 := hb1.size; clear HX HB hb1; have HX := nHX; have HB := nHB; clear nHX nHB; (try clear zHX); have zHX := HX.out.lt; (try clear cHX0); have cHX0 := HX.out.cell 0) | (go_at_call 39; (with_reducible refine (rw_from_c _ _ _ _).mono ?_); rintro e w1 ⟨rfl, rfl⟩))
   go_ret
   exact ⟨rfl, HB.out⟩
  ·rw [show ∀ b : Bool, (!true || b) = b from fun _ => rfl]
   cases b2 : inB t 0 2000
   ·rw [if_pos (show (!false) = true from rfl)]
    go_enter Tryz.func114, Tryz.ntmps114
    go_wp2_with (fail)
    have _x := frm1 w #[.int .i64 M.places, .int .i64 M.any.a0, .int .i64 M.any.a1, .int .i64 M.any.a2, .int .i64 M.any.a3, .int .i64 M.any.a4, .int .i64 M.any.a5, .bool M.any.i, .bool M.any.s, .int .i64 M.mw, .int .i64 M.ms, .int .i64 M.mc, vF, vS] 29
    have HX := hI9 _x.1
    have HB := hI9 _x.2.1
    have zW := _x.2.2
    clear _x
    generalize World.alloc w _ = W at *
    go_wp2_with (first | (refine wpl_row rfl 29 _ rfl _ rfl _ 14 HX.out Tryz.rowMet rfl ?_; simp only [Act.put]) | (go_at_call 19; (with_reducible refine (HCK.out _ (HA.out.below HB.out)).mono ?_); rintro e w1 ⟨rfl, hb1⟩; have nHX := hI9 (HX.out.below hb1); have nHB := hI9 (bthen HB.out hb1); have zz1 := hb1.size; clear HX HB hb1; have HX := nHX; have HB := nHB; clear nHX nHB; (try clear zHX); have zHX := HX.out.lt; (try clear cHX0); have cHX0 := HX.out.cell 0) | (go_at_call 39; (with_reducible refine (rw_from_c _ _ _ _).mono ?_); rintro e w1 ⟨rfl, rfl⟩))
    go_ret
    exact ⟨rfl, HB.out⟩
   ·rw [if_neg (by decide)]
    go_enter Tryz.func114, Tryz.ntmps114
    go_wp2_with (fail)
    have _x := frm1 w #[.int .i64 M.places, .int .i64 M.any.a0, .int .i64 M.any.a1, .int .i64 M.any.a2, .int .i64 M.any.a3, .int .i64 M.any.a4, .int .i64 M.any.a5, .bool M.any.i, .bool M.any.s, .int .i64 M.mw, .int .i64 M.ms, .int .i64 M.mc, vF, vS] 29
    have HX := hI9 _x.1
    have HB := hI9 _x.2.1
    have zW := _x.2.2
    clear _x
    generalize World.alloc w _ = W at *
    go_wp2_with (first | (refine wpl_row rfl 29 _ rfl _ rfl _ 14 HX.out Tryz.rowMet rfl ?_; simp only [Act.put]) | (go_at_call 19; (with_reducible refine (HCK.out _ (HA.out.below HB.out)).mono ?_); rintro e w1 ⟨rfl, hb1⟩; have nHX := hI9 (HX.out.below hb1); have nHB := hI9 (bthen HB.out hb1); have zz1 := hb1.size; clear HX HB hb1; have HX := nHX; have HB := nHB; clear nHX nHB; (try clear zHX); have zHX := HX.out.lt; (try clear cHX0); have cHX0 := HX.out.cell 0) | (go_at_call 39; (with_reducible refine (rw_from_c _ _ _ _).mono ?_); rintro e w1 ⟨rfl, rfl⟩))
    go_ret
    exact ⟨rfl, HB.out⟩
 ·rw [MetD.err_t hb] at hck
  have HCK := hI9 hck
  clear hck
  rw [if_pos rfl]
  go_enter Tryz.func114, Tryz.ntmps114
  go_wp2_with (fail)
  have _x := frm1 w #[.int .i64 M.places, .int .i64 M.any.a0, .int .i64 M.any.a1, .int .i64 M.any.a2, .int .i64 M.any.a3, .int .i64 M.any.a4, .int .i64 M.any.a5, .bool M.any.i, .bool M.any.s, .int .i64 M.mw, .int .i64 M.ms, .int .i64 M.mc, vF, vS] 29
  have HX := hI9 _x.1
  have HB := hI9 _x.2.1
  have zW := _x.2.2
  clear _x
  generalize World.alloc w _ = W at *
  go_wp2_with (first | (refine wpl_row rfl 29 _ rfl _ rfl _ 14 HX.out Tryz.rowMet rfl ?_; simp only [Act.put]) | (go_at_call 19; (with_reducible refine (HCK.out _ (HA.out.below HB.out)).mono ?_); rintro e w1 ⟨rfl, hb1⟩; have nHX := hI9 (HX.out.below hb1); have nHB := hI9 (bthen HB.out hb1); have zz1 := hb1.size; clear HX HB hb1; have HX := nHX; have HB := nHB; clear nHX nHB; (try clear zHX); have zHX := HX.out.lt; (try clear cHX0); have cHX0 := HX.out.cell 0) | (go_at_call 39; (with_reducible refine (rw_from_c _ _ _ _).mono ?_); rintro e w1 ⟨rfl, rfl⟩))
  go_ret
  exact ⟨rfl, HB.out⟩
theorem rw_CheckMinima_c (M : MetD) (vF vS : Value) (lw ls lc : Int) (li lt : Bool) (w : World) (hA : MetAt w vF vS M) :
  Calls Tryz.prog 37 #[.agg #[.int .i64 M.places, .int .i64 M.any.a0, .int .i64 M.any.a1, .int .i64 M.any.a2, .int .i64 M.any.a3, .int .i64 M.any.a4, .int .i64 M.any.a5, .bool M.any.i, .bool M.any.s, .int .i64 M.mw, .int .i64 M.ms, .int .i64 M.mc, vF, vS], .agg #[.int .i64 lw, .int .i64 ls, .int .i64 lc, .bool li, .bool lt]] w fun e w' => e = .returned (.int .i64 (minE M lw ls lc)) ∧ Below w.heap.size w w' := by
 have HA := hI9 hA
 have hck := fun w1 h => rw_Check_c M vF vS w1 h
 clear hA
 unfold minE
 cases hb : M.bad
 ·rw [MetD.err_f hb] at hck
  have HCK := hI9 hck
  clear hck
  rw [if_neg (by decide)]
  cases b1 : inB lw 0 300
  ·rw [show ∀ b : Bool, (!false || b) = true from fun _ => rfl, if_pos rfl]
   go_enter Tryz.func37, Tryz.ntmps37
   go_wp2_with (fail)
   have _x := frm2 w #[.int .i64 M.places, .int .i64 M.any.a0, .int .i64 M.any.a1, .int .i64 M.any.a2, .int .i64 M.any.a3, .int .i64 M.any.a4, .int .i64 M.any.a5, .bool M.any.i, .bool M.any.s, .int .i64 M.mw, .int .i64 M.ms, .int .i64 M.mc, vF, vS] 29 #[.int .i64 lw, .int .i64 ls, .int .i64 lc, .bool li, .bool lt] 31
   have HX := hI9 _x.1
   have HL := hI9 _x.2.1
   have HB := hI9 _x.2.2.1
   have zW := _x.2.2.2
   clear _x
   generalize World.alloc (World.alloc w _) _ = W at *
   go_wp2_with (first | (refine wpl_row rfl 29 _ rfl _ rfl _ 14 HX.out Tryz.rowMet rfl ?_; simp only [Act.put]) | (go_at_call 19; (with_reducible refine (HCK.out _ (HA.out.below HB.out)).mono ?_); rintro e w1 ⟨rfl, hb1⟩; have nHX := hI9 (HX.out.below hb1); have nHL := hI9 (HL.out.below hb1); have nHB := hI9 (bthen HB.out hb1); have zz1 := hb1.size; clear HX HL HB hb1; have HX := nHX; have HL := nHL; have HB := nHB; clear nHX nHL nHB; (try clear zHL); have zHL := HL.out.lt; (try clear cHL0); have cHL0 := HL.out.cell 0; (try clear cHL1); have cHL1 := HL.out.cell 1; (try clear cHL2); have cHL2 := HL.out.cell 2) | (go_at_call 39; (with_reducible refine (rw_from_c _ _ _ _).mono ?_); rintro e w1 ⟨rfl, rfl⟩))
   go_ret
   exact ⟨rfl, HB.out⟩
  ·rw [show ∀ b : Bool, (!true || b) = b from fun _ => rfl]
   cases b2 : inB ls 0 20000
   ·rw [show ∀ b : Bool, (!false || b) = true from fun _ => rfl, if_pos rfl]
    go_enter Tryz.func37, Tryz.ntmps37
    go_wp2_with (fail)
    have _x := frm2 w #[.int .i64 M.places, .int .i64 M.any.a0, .int .i64 M.any.a1, .int .i64 M.any.a2, .int .i64 M.any.a3, .int .i64 M.any.a4, .int .i64 M.any.a5, .bool M.any.i, .bool M.any.s, .int .i64 M.mw, .int .i64 M.ms, .int .i64 M.mc, vF, vS] 29 #[.int .i64 lw, .int .i64 ls, .int .i64 lc, .bool li, .bool lt] 31
    have HX := hI9 _x.1
    have HL := hI9 _x.2.1
    have HB := hI9 _x.2.2.1
    have zW := _x.2.2.2
    clear _x
    generalize World.alloc (World.alloc w _) _ = W at *
    go_wp2_with (first | (refine wpl_row rfl 29 _ rfl _ rfl _ 14 HX.out Tryz.rowMet rfl ?_; simp only [Act.put]) | (go_at_call 19; (with_reducible refine (HCK.out _ (HA.out.below HB.out)).mono ?_); rintro e w1 ⟨rfl, hb1⟩; have nHX := hI9 (HX.out.below hb1); have nHL := hI9 (HL.out.below hb1); have nHB := hI9 (bthen HB.out hb1); have zz1 := hb1.size; clear HX HL HB hb1; have HX := nHX; have HL := nHL; have HB := nHB; clear nHX nHL nHB; (try clear zHL); have zHL := HL.out.lt; (try clear cHL0); have cHL0 := HL.out.cell 0; (try clear cHL1); have cHL1 := HL.out.cell 1; (try clear cHL2); have cHL2 := HL.out.cell 2) | (go_at_call 39; (with_reducible refine (rw_from_c _ _ _ _).mono ?_); rintro e w1 ⟨rfl, rfl⟩))
    go_ret
    exact ⟨rfl, HB.out⟩
   ·rw [show ∀ b : Bool, (!true || b) = b from fun _ => rfl]
    cases b3 : inB lc 0 20000
    ·rw [if_pos (show (!false) = true from rfl)]
     go_enter Tryz.func37, Tryz.ntmps37
     go_wp2_with (fail)
     have _x := frm2 w #[.int .i64 M.places, .int .i64 M.any.a0, .int .i64 M.any.a1, .int .i64 M.any.a2, .int .i64 M.any.a3, .int .i64 M.any.a4, .int .i64 M.any.a5, .bool M.any.i, .bool M.any.s, .int .i64 M.mw, .int .i64 M.ms, .int .i64 M.mc, vF, vS] 29 #[.int .i64 lw, .int .i64 ls, .int .i64 lc, .bool li, .bool lt] 31
     have HX := hI9 _x.1
     have HL := hI9 _x.2.1
     have HB := hI9 _x.2.2.1
     have zW := _x.2.2.2
     clear _x
     generalize World.alloc (World.alloc w _) _ = W at *
     go_wp2_with (first | (refine wpl_row rfl 29 _ rfl _ rfl _ 14 HX.out Tryz.rowMet rfl ?_; simp only [Act.put]) | (go_at_call 19; (with_reducible refine (HCK.out _ (HA.out.below HB.out)).mono ?_); rintro e w1 ⟨rfl, hb1⟩; have nHX := hI9 (HX.out.below hb1); have nHL := hI9 (HL.out.below hb1); have nHB := hI9 (bthen HB.out hb1); have zz1 := hb1.size; clear HX HL HB hb1; have HX := nHX; have HL := nHL; have HB := nHB; clear nHX nHL nHB; (try clear zHL); have zHL := HL.out.lt; (try clear cHL0); have cHL0 := HL.out.cell 0; (try clear cHL1); have cHL1 := HL.out.cell 1; (try clear cHL2); have cHL2 := HL.out.cell 2) | (go_at_call 39; (with_reducible refine (rw_from_c _ _ _ _).mono ?_); rintro e w1 ⟨rfl, rfl⟩))
     go_ret
     exact ⟨rfl, HB.out⟩
    ·rw [if_neg (by decide)]
     go_enter Tryz.func37, Tryz.ntmps37
     go_wp2_with (fail)
     have _x := frm2 w #[.int .i64 M.places, .int .i64 M.any.a0, .int .i64 M.any.a1, .int .i64 M.any.a2, .int .i64 M.any.a3, .int .i64 M.any.a4, .int .i64 M.any.a5, .bool M.any.i, .bool M.any.s, .int .i64 M.mw, .int .i64 M.ms, .int .i64 M.mc, vF, vS] 29 #[.int .i64 lw, .int .i64 ls, .int .i64 lc, .bool li, .bool lt] 31
     have HX := hI9 _x.1
     have HL := hI9 _x.2.1
     have HB := hI9 _x.2.2.1
     have zW := _x.2.2.2
     clear _x
     generalize World.alloc (World.alloc w _) _ = W at *
     go_wp2_with (first | (refine wpl_row rfl 29 _ rfl _ rfl _ 14 HX.out Tryz.rowMet rfl ?_; simp only [Act.put]) | (go_at_call 19; (with_reducible refine (HCK.out _ (HA.out.below HB.out)).mono ?_); rintro e w1 ⟨rfl, hb1⟩; have nHX := hI9 (HX.out.below hb1); have nHL := hI9 (HL.out.below hb1); have nHB := hI9 (bthen HB.out hb1); have zz1 := hb1.size; clear HX HL HB hb1; have HX := nHX; have HL := nHL; have HB := nHB; clear nHX nHL nHB; (try clear zHL); have zHL := HL.out.lt; (try clear cHL0); have cHL0 := HL.out.cell 0; (try clear cHL1); have cHL1 := HL.out.cell 1; (try clear cHL2); have cHL2 := HL.out.cell 2) | (go_at_call 39; (with_reducible refine (rw_from_c _ _ _ _).mono ?_); rintro e w1 ⟨rfl, rfl⟩))
     go_ret
     exact ⟨rfl, HB.out⟩
 ·rw [MetD.err_t hb] at hck
  have HCK := hI9 hck
  clear hck
  rw [if_pos rfl]
  go_enter Tryz.func37, Tryz.ntmps37
  go_wp2_with (fail)
  have _x := frm2 w #[.int .i64 M.places, .int .i64 M.any.a0, .int .i64 M.any.a1, .int .i64 M.any.a2, .int .i64 M.any.a3, .int .i64 M.any.a4, .int .i64 M.any.a5, .bool M.any.i, .bool M.any.s, .int .i64 M.mw, .int .i64 M.ms, .int .i64 M.mc, vF, vS] 29 #[.int .i64 lw, .int .i64 ls, .int .i64 lc, .bool li, .bool lt] 31
  have HX := hI9 _x.1
  have HL := hI9 _x.2.1
  have HB := hI9 _x.2.2.1
  have zW := _x.2.2.2
  clear _x
  generalize World.alloc (World.alloc w _) _ = W at *
  go_wp2_with (first | (refine wpl_row rfl 29 _ rfl _ rfl _ 14 HX.out Tryz.rowMet rfl ?_; simp only [Act.put]) | (go_at_call 19; (with_reducible refine (HCK.out _ (HA.out.below HB.out)).mono ?_); rintro e w1 ⟨rfl, hb1⟩; have nHX := hI9 (HX.out.below hb1); have nHL := hI9 (HL.out.below hb1); have nHB := hI9 (bthen HB.out hb1); have zz1 := hb1.size; clear HX HL HB hb1; have HX := nHX; have HL := nHL; have HB := nHB; clear nHX nHL nHB; (try clear zHL); have zHL := HL.out.lt; (try clear cHL0); have cHL0 := HL.out.cell 0; (try clear cHL1); have cHL1 := HL.out.cell 1; (try clear cHL2); have cHL2 := HL.out.cell 2) | (go_at_call 39; (with_reducible refine (rw_from_c _ _ _ _).mono ?_); rintro e w1 ⟨rfl, rfl⟩))
  go_ret
  exact ⟨rfl, HB.out⟩
theorem rw_CheckOpen_c (M : MetD) (vF vS : Value) (lw ls lc : Int) (li lt : Bool) (p t : Int) (w : World) (hA : MetAt w vF vS M) :
  Calls Tryz.prog 102 #[.agg #[.int .i64 M.places, .int .i64 M.any.a0, .int .i64 M.any.a1, .int .i64 M.any.a2, .int .i64 M.any.a3, .int .i64 M.any.a4, .int .i64 M.any.a5, .bool M.any.i, .bool M.any.s, .int .i64 M.mw, .int .i64 M.ms, .int .i64 M.mc, vF, vS], .agg #[.int .i64 lw, .int .i64 ls, .int .i64 lc, .bool li, .bool lt], .int .i64 p, .int .i64 t] w fun e w' => e = .returned (.int .i64 (opE M lw ls lc p t)) ∧ Below w.heap.size w w' := by
 have HA := hI9 hA
 have hmn := fun w1 h => rw_CheckMinima_c M vF vS lw ls lc li lt w1 h
 have hat := fun w1 h => rw_checkTick_c M vF vS p t w1 h
 clear hA
 unfold opE
 by_cases he : minE M lw ls lc = 0
 ·rw [if_pos he]
  rw [he] at hmn
  generalize atE M p t = E at *
  have HMN := hI9 hmn
  have HAT := hI9 hat
  clear hmn hat he
  go_enter Tryz.func102, Tryz.ntmps102
  go_wp2_with (fail)
  have _x := frm2 w #[.int .i64 M.places, .int .i64 M.any.a0, .int .i64 M.any.a1, .int .i64 M.any.a2, .int .i64 M.any.a3, .int .i64 M.any.a4, .int .i64 M.any.a5, .bool M.any.i, .bool M.any.s, .int .i64 M.mw, .int .i64 M.ms, .int .i64 M.mc, vF, vS] 29 #[.int .i64 lw, .int .i64 ls, .int .i64 lc, .bool li, .bool lt] 31
  have HX := hI9 _x.1
  have HL := hI9 _x.2.1
  have HB := hI9 _x.2.2.1
  have zW := _x.2.2.2
  clear _x
  generalize World.alloc (World.alloc w _) _ = W at *
  go_wp2_with (first | (refine wpl_row rfl 29 _ rfl _ rfl _ 14 HX.out Tryz.rowMet rfl ?_; simp only [Act.put]) | (refine wpl_row rfl 31 _ rfl _ rfl _ 5 HL.out Tryz.rowMin rfl ?_; simp only [Act.put]) | (go_at_call 37; (with_reducible refine (HMN.out _ (HA.out.below HB.out)).mono ?_); rintro e w1 ⟨rfl, hb1⟩; have nHX := hI9 (HX.out.below hb1); have nHL := hI9 (HL.out.below hb1); have nHB := hI9 (bthen HB.out hb1); have zz1 := hb1.size; clear HX HL HB hb1; have HX := nHX; have HL := nHL; have HB := nHB; clear nHX nHL nHB) | (go_at_call 114; (with_reducible refine (HAT.out _ (HA.out.below HB.out)).mono ?_); rintro e w1 ⟨rfl, hb1⟩; have nHX := hI9 (HX.out.below hb1); have nHL := hI9 (HL.out.below hb1); have nHB := hI9 (bthen HB.out hb1); have zz1 := hb1.size; clear HX HL HB hb1; have HX := nHX; have HL := nHL; have HB := nHB; clear nHX nHL nHB))
  go_ret
  exact ⟨rfl, HB.out⟩
 ·rw [if_neg he]
  have hez : (minE M lw ls lc != 0) = true := by simpa using he
  generalize minE M lw ls lc = E at *
  have HMN := hI9 hmn
  have HAT := hI9 hat
  clear hmn hat he
  go_enter Tryz.func102, Tryz.ntmps102
  go_wp2_with (fail)
  have _x := frm2 w #[.int .i64 M.places, .int .i64 M.any.a0, .int .i64 M.any.a1, .int .i64 M.any.a2, .int .i64 M.any.a3, .int .i64 M.any.a4, .int .i64 M.any.a5, .bool M.any.i, .bool M.any.s, .int .i64 M.mw, .int .i64 M.ms, .int .i64 M.mc, vF, vS] 29 #[.int .i64 lw, .int .i64 ls, .int .i64 lc, .bool li, .bool lt] 31
  have HX := hI9 _x.1
  have HL := hI9 _x.2.1
  have HB := hI9 _x.2.2.1
  have zW := _x.2.2.2
  clear _x
  generalize World.alloc (World.alloc w _) _ = W at *
  go_wp2_with (first | (refine wpl_row rfl 29 _ rfl _ rfl _ 14 HX.out Tryz.rowMet rfl ?_; simp only [Act.put]) | (refine wpl_row rfl 31 _ rfl _ rfl _ 5 HL.out Tryz.rowMin rfl ?_; simp only [Act.put]) | (go_at_call 37; (with_reducible refine (HMN.out _ (HA.out.below HB.out)).mono ?_); rintro e w1 ⟨rfl, hb1⟩; have nHX := hI9 (HX.out.below hb1); have nHL := hI9 (HL.out.below hb1); have nHB := hI9 (bthen HB.out hb1); have zz1 := hb1.size; clear HX HL HB hb1; have HX := nHX; have HL := nHL; have HB := nHB; clear nHX nHL nHB) | (go_at_call 114; (with_reducible refine (HAT.out _ (HA.out.below HB.out)).mono ?_); rintro e w1 ⟨rfl, hb1⟩; have nHX := hI9 (HX.out.below hb1); have nHL := hI9 (HL.out.below hb1); have nHB := hI9 (bthen HB.out hb1); have zz1 := hb1.size; clear HX HL HB hb1; have HX := nHX; have HL := nHL; have HB := nHB; clear nHX nHL nHB))
  go_ret
  exact ⟨rfl, HB.out⟩
end Go.Proofs.YtlabfpjlckdmfaaGreat

namespace Go.Proofs.YtlabfpjlckdmfaaGreat
open Go Go.RowKit Go.Proofs
set_option maxRecDepth 100000
set_option maxHeartbeats 8000000
def lgJ (x y a b : Int) : Bool := ((x == a) && (y == b)) || ((x == b) && (y == a))
def legK (S : Tab) (a b : Int) : Nat → Int
 | 0 => -1
 | k + 1 => if lgJ (S k 0) (S k 1) a b = true ∧ (legK S a b k < 0 ∨ S k 2 < legK S a b k) then S k 2 else legK S a b k
theorem stpT_at {t : Tab} {a b i j : Nat} {x : Int} : stpT t a b x i j = if i = a ∧ j = b then (if t i j < 0 ∨ x < t i j then x else t i j) else t i j := by
 unfold stpT
 by_cases h : i = a ∧ j = b
 ·rw [if_pos h, if_pos h, h.1, h.2]
 ·rw [if_neg h, if_neg h]
theorem lgT_leg {P l : Nat} {S : Tab} (h : NetOk P S l) (a b : Nat) : ∀ k, k ≤ l → lgT S k a b = legK S a b k
 | 0, _ => rfl
 | k + 1, hk => by
  have ih := lgT_leg h a b k (by omega)
  have ha := h.a k (by omega)
  have hb := h.b k (by omega)
  have hne := h.ne k (by omega)
  show stpT (stpT (lgT S k) (S k 0).toNat (S k 1).toNat (S k 2)) (S k 1).toNat (S k 0).toNat (S k 2) a b = if lgJ (S k 0) (S k 1) a b = true ∧ (legK S a b k < 0 ∨ S k 2 < legK S a b k) then S k 2 else legK S a b k
  rw [stpT_at, stpT_at, ih]
  have hJ : lgJ (S k 0) (S k 1) a b = true ↔ (a = (S k 0).toNat ∧ b = (S k 1).toNat) ∨ (a = (S k 1).toNat ∧ b = (S k 0).toNat) := by
   unfold lgJ
   simp only [Bool.or_eq_true, Bool.and_eq_true, beq_iff_eq]
   omega
  generalize legK S a b k = q at *
  by_cases h1 : a = (S k 0).toNat ∧ b = (S k 1).toNat
  ·have h2 : ¬ (a = (S k 1).toNat ∧ b = (S k 0).toNat) := by omega
   have hj := hJ.2 (Or.inl h1)
   rw [if_neg h2, if_pos h1]
   by_cases h3 : q < 0 ∨ S k 2 < q
   ·rw [if_pos h3, if_pos ⟨hj, h3⟩]
   ·rw [if_neg h3, if_neg (fun h => h3 h.2)]
  ·rw [if_neg h1]
   by_cases h2 : a = (S k 1).toNat ∧ b = (S k 0).toNat
   ·have hj := hJ.2 (Or.inr h2)
    rw [if_pos h2]
    by_cases h3 : q < 0 ∨ S k 2 < q
    ·rw [if_pos h3, if_pos ⟨hj, h3⟩]
    ·rw [if_neg h3, if_neg (fun h => h3 h.2)]
   ·rw [if_neg h2, if_neg (fun h => (hJ.1 h.1).elim h1 h2)]
theorem r5within_c (n lo hi : Int) (w : World) :
  Calls Tryz.prog 20 #[.int .i64 n, .int .i64 lo, .int .i64 hi] w fun e w' => e = .returned (.bool (inB n lo hi)) ∧ w = w' := by
 by_cases h : lo ≤ n
 ·go_enter Tryz.func20, Tryz.ntmps20
  go_wp2
  go_ret
  exact ⟨ret_bool (by simp [inB, h]), rfl⟩
 ·have h2 : n < lo := by omega
  go_enter Tryz.func20, Tryz.ntmps20
  go_wp2
  go_ret
  exact ⟨ret_bool (by simp [inB]; omega), rfl⟩
theorem r5leg_c (A : Option Addr) (n c : Nat) (S : Tab) (a b : Int) (w : World) (hc1 : n ≤ c) (hc2 : c ≤ 9223372036854775807) (hL : RecsAt w A n 3 (nV S)) :
  Calls Tryz.prog 59 #[.slice A n c, .int .i64 a, .int .i64 b] w fun e w' => e = .returned (.int .i64 (legK S a b n)) ∧ RowKit.Below w.heap.size w w' := by
 have HL := hI9 hL
 clear hL
 go_enter Tryz.func59, Tryz.ntmps59
 go_wp2_with (fail)
 go_loopg [7, 8] n (fun gy best iv wr => ∃ k : Nat, iv = .int .i64 k ∧ best = .int .i64 (legK S a b k) ∧ k ≤ n ∧ n - k ≤ gy ∧ Hid (RowKit.Below w.heap.size w wr))
 case atStart => exact ⟨0, rfl, rfl, Nat.zero_le _, Nat.le_refl _, hI9 (RowKit.Below.refl _ _)⟩
 case round =>
  obtain ⟨k, rfl, rfl, hk, hgy, HB⟩ := hrel
  by_cases hlt : k < n
  case neg =>
   obtain rfl : n = k := by omega
   go_wp2_with (fail)
   go_ret
   exact ⟨rfl, HB.out⟩
  have hltz : (k : Int) < (n : Int) := by omega
  obtain ⟨bs, os, rfl, hbs, hcs⟩ := HL.out (by omega)
  have c0 : wr.cell? ⟨bs, os + k * 3, none⟩ = some (.int .i64 (S k 0)) := (HB.out.cell (p := ⟨bs, os + k * 3 + 0, none⟩) hbs).trans (hcs k hlt 0 (by omega))
  have c1 : wr.cell? ⟨bs, os + k * 3 + 1, none⟩ = some (.int .i64 (S k 1)) := (HB.out.cell (p := ⟨bs, os + k * 3 + 1, none⟩) hbs).trans (hcs k hlt 1 (by omega))
  have c2 : wr.cell? ⟨bs, os + k * 3 + 2, none⟩ = some (.int .i64 (S k 2)) := (HB.out.cell (p := ⟨bs, os + k * 3 + 2, none⟩) hbs).trans (hcs k hlt 2 (by omega))
  clear hcs
  obtain ⟨x0, e0⟩ : ∃ x, x = S k 0 := ⟨_, rfl⟩
  obtain ⟨x1, e1⟩ : ∃ x, x = S k 1 := ⟨_, rfl⟩
  obtain ⟨x2, e2⟩ : ∃ x, x = S k 2 := ⟨_, rfl⟩
  obtain ⟨q, e3⟩ : ∃ x, x = legK S a b k := ⟨_, rfl⟩
  rw [← e0] at c0
  rw [← e1] at c1
  rw [← e2] at c2
  rw [← e3]
  have HQ := hI9 (And.intro e0.symm (And.intro e1.symm (And.intro e2.symm e3.symm)))
  clear e0 e1 e2 e3
  cases q1 : (x0 == a)
  ·cases q3 : (x0 == b)
   ·skip
    have HE := hI9 (show legK S a b (k + 1) = q from by
     show (if lgJ (S k 0) (S k 1) a b = true ∧ (legK S a b k < 0 ∨ S k 2 < legK S a b k) then S k 2 else legK S a b k) = q
     rw [HQ.out.1, HQ.out.2.1, HQ.out.2.2.1, HQ.out.2.2.2]
     exact if_neg (fun h => by simp [lgJ, q1, q3] at h))
    go_wp2_with (fail)
    go_roundg (n - (k + 1))
    case measure => omega
    case rel => exact ⟨k + 1, by first | rfl | go_num | (congr 1; omega), by rw [HE.out], by omega, Nat.le_refl _, hI9 (bal HB.out _)⟩
   ·cases q4 : (x1 == a)
    ·skip
     have HE := hI9 (show legK S a b (k + 1) = q from by
      show (if lgJ (S k 0) (S k 1) a b = true ∧ (legK S a b k < 0 ∨ S k 2 < legK S a b k) then S k 2 else legK S a b k) = q
      rw [HQ.out.1, HQ.out.2.1, HQ.out.2.2.1, HQ.out.2.2.2]
      exact if_neg (fun h => by simp [lgJ, q1, q3, q4] at h))
     go_wp2_with (fail)
     go_roundg (n - (k + 1))
     case measure => omega
     case rel => exact ⟨k + 1, by first | rfl | go_num | (congr 1; omega), by rw [HE.out], by omega, Nat.le_refl _, hI9 (bal HB.out _)⟩
    ·skip
     by_cases h3 : q < 0
     case pos =>
      have HE := hI9 (show legK S a b (k + 1) = x2 from by
       show (if lgJ (S k 0) (S k 1) a b = true ∧ (legK S a b k < 0 ∨ S k 2 < legK S a b k) then S k 2 else legK S a b k) = x2
       rw [HQ.out.1, HQ.out.2.1, HQ.out.2.2.1, HQ.out.2.2.2]
       exact if_pos ⟨by simp [lgJ, q1, q3, q4], Or.inl h3⟩)
      go_wp2_with (fail)
      go_roundg (n - (k + 1))
      case measure => omega
      case rel => exact ⟨k + 1, by first | rfl | go_num | (congr 1; omega), by rw [HE.out], by omega, Nat.le_refl _, hI9 (bal HB.out _)⟩
     case neg =>
      by_cases h4 : x2 < q
      case pos =>
       have HE := hI9 (show legK S a b (k + 1) = x2 from by
        show (if lgJ (S k 0) (S k 1) a b = true ∧ (legK S a b k < 0 ∨ S k 2 < legK S a b k) then S k 2 else legK S a b k) = x2
        rw [HQ.out.1, HQ.out.2.1, HQ.out.2.2.1, HQ.out.2.2.2]
        exact if_pos ⟨by simp [lgJ, q1, q3, q4], Or.inr h4⟩)
       go_wp2_with (fail)
       go_roundg (n - (k + 1))
       case measure => omega
       case rel => exact ⟨k + 1, by first | rfl | go_num | (congr 1; omega), by rw [HE.out], by omega, Nat.le_refl _, hI9 (bal HB.out _)⟩
      case neg =>
       have HE := hI9 (show legK S a b (k + 1) = q from by
        show (if lgJ (S k 0) (S k 1) a b = true ∧ (legK S a b k < 0 ∨ S k 2 < legK S a b k) then S k 2 else legK S a b k) = q
        rw [HQ.out.1, HQ.out.2.1, HQ.out.2.2.1, HQ.out.2.2.2]
        exact if_neg (fun h => h.2.elim (fun h => absurd h (by omega)) (fun h => absurd h (by omega))))
       go_wp2_with (fail)
       go_roundg (n - (k + 1))
       case measure => omega
       case rel => exact ⟨k + 1, by first | rfl | go_num | (congr 1; omega), by rw [HE.out], by omega, Nat.le_refl _, hI9 (bal HB.out _)⟩
  ·cases q2 : (x1 == b)
   ·cases q3 : (x0 == b)
    ·skip
     have HE := hI9 (show legK S a b (k + 1) = q from by
      show (if lgJ (S k 0) (S k 1) a b = true ∧ (legK S a b k < 0 ∨ S k 2 < legK S a b k) then S k 2 else legK S a b k) = q
      rw [HQ.out.1, HQ.out.2.1, HQ.out.2.2.1, HQ.out.2.2.2]
      exact if_neg (fun h => by simp [lgJ, q1, q2, q3] at h))
     go_wp2_with (fail)
     go_roundg (n - (k + 1))
     case measure => omega
     case rel => exact ⟨k + 1, by first | rfl | go_num | (congr 1; omega), by rw [HE.out], by omega, Nat.le_refl _, hI9 (bal HB.out _)⟩
    ·cases q4 : (x1 == a)
     ·skip
      have HE := hI9 (show legK S a b (k + 1) = q from by
       show (if lgJ (S k 0) (S k 1) a b = true ∧ (legK S a b k < 0 ∨ S k 2 < legK S a b k) then S k 2 else legK S a b k) = q
       rw [HQ.out.1, HQ.out.2.1, HQ.out.2.2.1, HQ.out.2.2.2]
       exact if_neg (fun h => by simp [lgJ, q1, q2, q3, q4] at h))
      go_wp2_with (fail)
      go_roundg (n - (k + 1))
      case measure => omega
      case rel => exact ⟨k + 1, by first | rfl | go_num | (congr 1; omega), by rw [HE.out], by omega, Nat.le_refl _, hI9 (bal HB.out _)⟩
     ·skip
      by_cases h3 : q < 0
      case pos =>
       have HE := hI9 (show legK S a b (k + 1) = x2 from by
        show (if lgJ (S k 0) (S k 1) a b = true ∧ (legK S a b k < 0 ∨ S k 2 < legK S a b k) then S k 2 else legK S a b k) = x2
        rw [HQ.out.1, HQ.out.2.1, HQ.out.2.2.1, HQ.out.2.2.2]
        exact if_pos ⟨by simp [lgJ, q1, q2, q3, q4], Or.inl h3⟩)
       go_wp2_with (fail)
       go_roundg (n - (k + 1))
       case measure => omega
       case rel => exact ⟨k + 1, by first | rfl | go_num | (congr 1; omega), by rw [HE.out], by omega, Nat.le_refl _, hI9 (bal HB.out _)⟩
      case neg =>
       by_cases h4 : x2 < q
       case pos =>
        have HE := hI9 (show legK S a b (k + 1) = x2 from by
         show (if lgJ (S k 0) (S k 1) a b = true ∧ (legK S a b k < 0 ∨ S k 2 < legK S a b k) then S k 2 else legK S a b k) = x2
         rw [HQ.out.1, HQ.out.2.1, HQ.out.2.2.1, HQ.out.2.2.2]
         exact if_pos ⟨by simp [lgJ, q1, q2, q3, q4], Or.inr h4⟩)
        go_wp2_with (fail)
        go_roundg (n - (k + 1))
        case measure => omega
        case rel => exact ⟨k + 1, by first | rfl | go_num | (congr 1; omega), by rw [HE.out], by omega, Nat.le_refl _, hI9 (bal HB.out _)⟩
       case neg =>
        have HE := hI9 (show legK S a b (k + 1) = q from by
         show (if lgJ (S k 0) (S k 1) a b = true ∧ (legK S a b k < 0 ∨ S k 2 < legK S a b k) then S k 2 else legK S a b k) = q
         rw [HQ.out.1, HQ.out.2.1, HQ.out.2.2.1, HQ.out.2.2.2]
         exact if_neg (fun h => h.2.elim (fun h => absurd h (by omega)) (fun h => absurd h (by omega))))
        go_wp2_with (fail)
        go_roundg (n - (k + 1))
        case measure => omega
        case rel => exact ⟨k + 1, by first | rfl | go_num | (congr 1; omega), by rw [HE.out], by omega, Nat.le_refl _, hI9 (bal HB.out _)⟩
   ·skip
    by_cases h3 : q < 0
    case pos =>
     have HE := hI9 (show legK S a b (k + 1) = x2 from by
      show (if lgJ (S k 0) (S k 1) a b = true ∧ (legK S a b k < 0 ∨ S k 2 < legK S a b k) then S k 2 else legK S a b k) = x2
      rw [HQ.out.1, HQ.out.2.1, HQ.out.2.2.1, HQ.out.2.2.2]
      exact if_pos ⟨by simp [lgJ, q1, q2], Or.inl h3⟩)
     go_wp2_with (fail)
     go_roundg (n - (k + 1))
     case measure => omega
     case rel => exact ⟨k + 1, by first | rfl | go_num | (congr 1; omega), by rw [HE.out], by omega, Nat.le_refl _, hI9 (bal HB.out _)⟩
    case neg =>
     by_cases h4 : x2 < q
     case pos =>
      have HE := hI9 (show legK S a b (k + 1) = x2 from by
       show (if lgJ (S k 0) (S k 1) a b = true ∧ (legK S a b k < 0 ∨ S k 2 < legK S a b k) then S k 2 else legK S a b k) = x2
       rw [HQ.out.1, HQ.out.2.1, HQ.out.2.2.1, HQ.out.2.2.2]
       exact if_pos ⟨by simp [lgJ, q1, q2], Or.inr h4⟩)
      go_wp2_with (fail)
      go_roundg (n - (k + 1))
      case measure => omega
      case rel => exact ⟨k + 1, by first | rfl | go_num | (congr 1; omega), by rw [HE.out], by omega, Nat.le_refl _, hI9 (bal HB.out _)⟩
     case neg =>
      have HE := hI9 (show legK S a b (k + 1) = q from by
       show (if lgJ (S k 0) (S k 1) a b = true ∧ (legK S a b k < 0 ∨ S k 2 < legK S a b k) then S k 2 else legK S a b k) = q
       rw [HQ.out.1, HQ.out.2.1, HQ.out.2.2.1, HQ.out.2.2.2]
       exact if_neg (fun h => h.2.elim (fun h => absurd h (by omega)) (fun h => absurd h (by omega))))
      go_wp2_with (fail)
      go_roundg (n - (k + 1))
      case measure => omega
      case rel => exact ⟨k + 1, by first | rfl | go_num | (congr 1; omega), by rw [HE.out], by omega, Nat.le_refl _, hI9 (bal HB.out _)⟩
end Go.Proofs.YtlabfpjlckdmfaaGreat
