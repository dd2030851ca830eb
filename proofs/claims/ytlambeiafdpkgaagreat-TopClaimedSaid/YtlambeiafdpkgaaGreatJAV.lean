/- Texts joined: JAV. -/
import Derived.Test.YtlambeiafdpkgaaGreatRwB
import Derived.Test.YtlambeiafdpkgaaGreatJAR
import Derived.Test.YtlambeiafdpkgaaGreatJAL
import Derived.Test.YtlambeiafdpkgaaGreatJAT
import Derived.Test.YtlambeiafdpkgaaGreatJAA
import Derived.Test.YtlambeiafdpkgaaGreatJAU
import Derived.Great.CaseRows
import Derived.Deep.WholeRow
set_option linter.all false
namespace Go.Proofs.YtlambeiafdpkgaaGreat
open Go Go.RowKit Go.Proofs
set_option maxRecDepth 100000
set_option maxHeartbeats 8000000
theorem rw_CheckMinima_c (M : MetD) (vF vS : Value) (lw ls lc : Int) (li lt : Bool) (w : World) (hA : MetAt w vF vS M) :
  Calls Tryz.prog 51 #[.agg #[.int .i64 M.places, .int .i64 M.any.a0, .int .i64 M.any.a1, .int .i64 M.any.a2, .int .i64 M.any.a3, .int .i64 M.any.a4, .int .i64 M.any.a5, .bool M.any.i, .bool M.any.s, .int .i64 M.mw, .int .i64 M.ms, .int .i64 M.mc, vF, vS], .agg #[.int .i64 lw, .int .i64 ls, .int .i64 lc, .bool li, .bool lt]] w fun e w' => e = .returned (.int .i64 (minE M lw ls lc)) ∧ Below w.heap.size w w' := by
 have HA := hI9 hA
 have hck := fun w1 h => rw_Check_c M vF vS w1 h
 clear hA
 unfold minE
 cases hb : M.bad
 ·rw [MetD.err_f hb] at hck
  have HCK := hI9 hck
  clear hck
  rw [if_neg (by decide)]
  cases b1 : inB lw 0 300
  ·rw [show ∀ b : Bool, (!false || b) = true from fun _ => rfl, if_pos rfl]
   go_enter Tryz.func51, Tryz.ntmps51
   go_wp2_with (fail)
   have _x := frm2 w #[.int .i64 M.places, .int .i64 M.any.a0, .int .i64 M.any.a1, .int .i64 M.any.a2, .int .i64 M.any.a3, .int .i64 M.any.a4, .int .i64 M.any.a5, .bool M.any.i, .bool M.any.s, .int .i64 M.mw, .int .i64 M.ms, .int .i64 M.mc, vF, vS] 34 #[.int .i64 lw, .int .i64 ls, .int .i64 lc, .bool li, .bool lt] 41
   have HX := hI9 _x.1
   have HL := hI9 _x.2.1
   have HB := hI9 _x.2.2.1
   have zW := _x.2.2.2
   clear _x
   generalize World.alloc (World.alloc w _) _ = W at *
   go_wp2_with (first | (refine wpl_row rfl 34 _ rfl _ rfl _ 14 HX.out Tryz.rowMet rfl ?_; simp only [Act.put]) | (go_at_call 48; (with_reducible refine (HCK.out _ (HA.out.below HB.out)).mono ?_); rintro e w1 ⟨rfl, hb1⟩; have nHX := hI9 (HX.out.below hb1); have nHL := hI9 (HL.out.below hb1); have nHB := hI9 (bthen HB.out hb1); have zz1 := hb1.size; clear HX HL HB hb1; have HX := nHX; have HL := nHL; have HB := nHB; clear nHX nHL nHB; (try clear zHL); have zHL := HL.out.lt; (try clear cHL0); have cHL0 := HL.out.cell 0; (try clear cHL1); have cHL1 := HL.out.cell 1; (try clear cHL2); have cHL2 := HL.out.cell 2) | (go_at_call 99; (with_reducible refine (rw_from_c _ _ _ _).mono ?_); rintro e w1 ⟨rfl, rfl⟩))
   go_ret
   exact ⟨rfl, HB.out⟩
  ·rw [show ∀ b : Bool, (!true || b) = b from fun _ => rfl]
   cases b2 : inB ls 0 20000
   ·rw [show ∀ b : Bool, (!false || b) = true from fun _ => rfl, if_pos rfl]
    go_enter Tryz.func51, Tryz.ntmps51
    go_wp2_with (fail)
    have _x := frm2 w #[.int .i64 M.places, .int .i64 M.any.a0, .int .i64 M.any.a1, .int .i64 M.any.a2, .int .i64 M.any.a3, .int .i64 M.any.a4, .int .i64 M.any.a5, .bool M.any.i, .bool M.any.s, .int .i64 M.mw, .int .i64 M.ms, .int .i64 M.mc, vF, vS] 34 #[.int .i64 lw, .int .i64 ls, .int .i64 lc, .bool li, .bool lt] 41
    have HX := hI9 _x.1
    have HL := hI9 _x.2.1
    have HB := hI9 _x.2.2.1
    have zW := _x.2.2.2
    clear _x
    generalize World.alloc (World.alloc w _) _ = W at *
    go_wp2_with (first | (refine wpl_row rfl 34 _ rfl _ rfl _ 14 HX.out Tryz.rowMet rfl ?_; simp only [Act.put]) | (go_at_call 48; (with_reducible refine (HCK.out _ (HA.out.below HB.out)).mono ?_); rintro e w1 ⟨rfl, hb1⟩; have nHX := hI9 (HX.out.below hb1); have nHL := hI9 (HL.out.below hb1); have nHB := hI9 (bthen HB.out hb1); have zz1 := hb1.size; clear HX HL HB hb1; have HX := nHX; have HL := nHL; have HB := nHB; clear nHX nHL nHB; (try clear zHL); have zHL := HL.out.lt; (try clear cHL0); have cHL0 := HL.out.cell 0; (try clear cHL1); have cHL1 := HL.out.cell 1; (try clear cHL2); have cHL2 := HL.out.cell 2) | (go_at_call 99; (with_reducible refine (rw_from_c _ _ _ _).mono ?_); rintro e w1 ⟨rfl, rfl⟩))
    go_ret
    exact ⟨rfl, HB.out⟩
   ·rw [show ∀ b : Bool, (!true || b) = b from fun _ => rfl]
    cases b3 : inB lc 0 20000
    ·rw [if_pos (show (!false) = true from rfl)]
     go_enter Tryz.func51, Tryz.ntmps51
     go_wp2_with (fail)
     have _x := frm2 w #[.int .i64 M.places, .int .i64 M.any.a0, .int .i64 M.any.a1, .int .i64 M.any.a2, .int .i64 M.any.a3, .int .i64 M.any.a4, .int .i64 M.any.a5, .bool M.any.i, .bool M.any.s, .int .i64 M.mw, .int .i64 M.ms, .int .i64 M.mc, vF, vS] 34 #[.int .i64 lw, .int .i64 ls, .int .i64 lc, .bool li, .bool lt] 41
     have HX := hI9 _x.1
     have HL := hI9 _x.2.1
     have HB := hI9 _x.2.2.1
     have zW := _x.2.2.2
     clear _x
     generalize World.alloc (World.alloc w _) _ = W at *
     go_wp2_with (first | (refine wpl_row rfl 34 _ rfl _ rfl _ 14 HX.out Tryz.rowMet rfl ?_; simp only [Act.put]) | (go_at_call 48; (with_reducible refine (HCK.out _ (HA.out.below HB.out)).mono ?_); rintro e w1 ⟨rfl, hb1⟩; have nHX := hI9 (HX.out.below hb1); have nHL := hI9 (HL.out.below hb1); have nHB := hI9 (bthen HB.out hb1); have zz1 := hb1.size; clear HX HL HB hb1; have HX := nHX; have HL := nHL; have HB := nHB; clear nHX nHL nHB; (try clear zHL); have zHL := HL.out.lt; (try clear cHL0); have cHL0 := HL.out.cell 0; (try clear cHL1); have cHL1 := HL.out.cell 1; (try clear cHL2); have cHL2 := HL.out.cell 2) | (go_at_call 99; (with_reducible refine (rw_from_c _ _ _ _).mono ?_); rintro e w1 ⟨rfl, rfl⟩))
     go_ret
     exact ⟨rfl, HB.out⟩
    ·rw [if_neg (by decide)]
     go_enter Tryz.func51, Tryz.ntmps51
     go_wp2_with (fail)
     have _x := frm2 w #[.int .i64 M.places, .int .i64 M.any.a0, .int .i64 M.any.a1, .int .i64 M.any.a2, .int .i64 M.any.a3, .int .i64 M.any.a4, .int .i64 M.any.a5, .bool M.any.i, .bool M.any.s, .int .i64 M.mw, .int .i64 M.ms, .int .i64 M.mc, vF, vS] 34 #[.int .i64 lw, .int .i64 ls, .int .i64 lc, .bool li, .bool lt] 41
     have HX := hI9 _x.1
     have HL := hI9 _x.2.1
     have HB := hI9 _x.2.2.1
     have zW := _x.2.2.2
     clear _x
     generalize World.alloc (World.alloc w _) _ = W at *
     go_wp2_with (first | (refine wpl_row rfl 34 _ rfl _ rfl _ 14 HX.out Tryz.rowMet rfl ?_; simp only [Act.put]) | (go_at_call 48; (with_reducible refine (HCK.out _ (HA.out.below HB.out)).mono ?_); rintro e w1 ⟨rfl, hb1⟩; have nHX := hI9 (HX.out.below hb1); have nHL := hI9 (HL.out.below hb1); have nHB := hI9 (bthen HB.out hb1); have zz1 := hb1.size; clear HX HL HB hb1; have HX := nHX; have HL := nHL; have HB := nHB; clear nHX nHL nHB; (try clear zHL); have zHL := HL.out.lt; (try clear cHL0); have cHL0 := HL.out.cell 0; (try clear cHL1); have cHL1 := HL.out.cell 1; (try clear cHL2); have cHL2 := HL.out.cell 2) | (go_at_call 99; (with_reducible refine (rw_from_c _ _ _ _).mono ?_); rintro e w1 ⟨rfl, rfl⟩))
     go_ret
     exact ⟨rfl, HB.out⟩
 ·rw [MetD.err_t hb] at hck
  have HCK := hI9 hck
  clear hck
  rw [if_pos rfl]
  go_enter Tryz.func51, Tryz.ntmps51
  go_wp2_with (fail)
  have _x := frm2 w #[.int .i64 M.places, .int .i64 M.any.a0, .int .i64 M.any.a1, .int .i64 M.any.a2, .int .i64 M.any.a3, .int .i64 M.any.a4, .int .i64 M.any.a5, .bool M.any.i, .bool M.any.s, .int .i64 M.mw, .int .i64 M.ms, .int .i64 M.mc, vF, vS] 34 #[.int .i64 lw, .int .i64 ls, .int .i64 lc, .bool li, .bool lt] 41
  have HX := hI9 _x.1
  have HL := hI9 _x.2.1
  have HB := hI9 _x.2.2.1
  have zW := _x.2.2.2
  clear _x
  generalize World.alloc (World.alloc w _) _ = W at *
  go_wp2_with (first | (refine wpl_row rfl 34 _ rfl _ rfl _ 14 HX.out Tryz.rowMet rfl ?_; simp only [Act.put]) | (go_at_call 48; (with_reducible refine (HCK.out _ (HA.out.below HB.out)).mono ?_); rintro e w1 ⟨rfl, hb1⟩; have nHX := hI9 (HX.out.below hb1); have nHL := hI9 (HL.out.below hb1); have nHB := hI9 (bthen HB.out hb1); have zz1 := hb1.size; clear HX HL HB hb1; have HX := nHX; have HL := nHL; have HB := nHB; clear nHX nHL nHB; (try clear zHL); have zHL := HL.out.lt; (try clear cHL0); have cHL0 := HL.out.cell 0; (try clear cHL1); have cHL1 := HL.out.cell 1; (try clear cHL2); have cHL2 := HL.out.cell 2) | (go_at_call 99; (with_reducible refine (rw_from_c _ _ _ _).mono ?_); rintro e w1 ⟨rfl, rfl⟩))
  go_ret
  exact ⟨rfl, HB.out⟩
end Go.Proofs.YtlambeiafdpkgaaGreat

namespace Go.Proofs.YtlambeiafdpkgaaGreat
open Go Go.RowKit Go.Proofs
set_option maxRecDepth 100000
set_option maxHeartbeats 8000000
end Go.Proofs.YtlambeiafdpkgaaGreat

namespace Go.Proofs.YtlambeiafdpkgaaGreat
open Go Go.RowKit Go.Proofs
set_option maxRecDepth 100000
set_option maxHeartbeats 8000000
end Go.Proofs.YtlambeiafdpkgaaGreat

namespace Go.Proofs.YtlambeiafdpkgaaGreat
open Go Go.RowKit Go.Proofs
set_option maxRecDepth 100000
set_option maxHeartbeats 8000000
structure FwK (F : FliD) (vR : Value) (lt : Tab) (i : Nat) (vA : Value) (w wr : World) : Prop where
 b : RowKit.Below w.heap.size w wr
 f : Blk wr w.heap.size 70 #[vR, .int .i64 F.dep, .int .i64 F.fuel, .int .i64 F.burn, .int .i64 F.res]
 o : wr.ownsRow w.heap.size 3 1 vA i ((List.range i).map fun j => .int .i64 (F.at_ lt j))
theorem FwK.below {F : FliD} {vR : Value} {lt : Tab} {i : Nat} {vA : Value} {w wr w2 : World} (h : FwK F vR lt i vA w wr) (hb : RowKit.Below wr.heap.size wr w2) : FwK F vR lt i vA w w2 :=
 ⟨bthen h.b hb, h.f.below hb, ownsRow_below h.o hb⟩
theorem FwK.step {F : FliD} {vR : Value} {lt : Tab} {i : Nat} {vA vB : Value} {w wr w1 w2 : World} (h : FwK F vR lt i vA w wr) (hb : RowKit.Below wr.heap.size wr w1) (ho : w2.ownsRow w.heap.size 3 1 vB (i + 1) ((List.range i).map (fun j => .int .i64 (F.at_ lt j)) ++ [.int .i64 (F.at_ lt i)]))
  (hg : w1.grownBy w2 vA.ownBlock) : FwK F vR lt (i + 1) vB w w2 := by
 have h1 := h.below hb
 have hvo : ∀ b, some b = vA.ownBlock → w.heap.size ≤ b := fun b q => (ownLt h1.o q).1
 refine ⟨h1.b.trans (belowGrew hg h1.b.size hvo), h1.f.grew hg (own_blk_ne h1.o h1.f (by decide)), ?_⟩
 rw [show (List.range (i + 1)).map (fun j => Value.int .i64 (F.at_ lt j)) = (List.range i).map (fun j => .int .i64 (F.at_ lt j)) ++ [.int .i64 (F.at_ lt i)] by rw [List.range_succ, List.map_append]; rfl]
 exact ho
end Go.Proofs.YtlambeiafdpkgaaGreat

namespace Go.Proofs.YtlambeiafdpkgaaGreat
open Go Go.RowKit Go.Proofs
set_option maxRecDepth 100000
set_option maxHeartbeats 8000000
end Go.Proofs.YtlambeiafdpkgaaGreat

namespace Go.Proofs.YtlambeiafdpkgaaGreat
open Go Go.RowKit Go.Proofs
set_option maxRecDepth 100000
set_option maxHeartbeats 8000000
def TabV (w : World) (v : Value) (P : Nat) (t : Tab) : Prop := ∃ g c lo hi r, v = .slice (some ⟨g, 0, none⟩) P c ∧ Sq w 3 lo hi g r P t
theorem TabV.below {w w' : World} {v : Value} {P : Nat} {t : Tab} (h : TabV w v P t) (hb : RowKit.Below w.heap.size w w') : TabV w' v P t := by
 obtain ⟨g, c, lo, hi, r, e, h⟩ := h
 exact ⟨g, c, lo, hi, r, e, h.below hb⟩
end Go.Proofs.YtlambeiafdpkgaaGreat

namespace Go.Proofs.YtlambeiafdpkgaaGreat
open Go Go.RowKit Go.Proofs
set_option maxRecDepth 100000
set_option maxHeartbeats 8000000
structure SqG (w0 w : World) (v : Value) (i n : Nat) (t : Tab) (r cp : Nat → Nat) : Prop where
 b : Below w0.heap.size w0 w
 o : w.ownsRow w0.heap.size 35 1 v i ((List.range i).map fun k => .slice (some ⟨r k, 0, none⟩) n (cp k))
 rk : ∀ k, k < i → w0.heap.size ≤ r k ∧ (n ≤ cp k ∧ cp k ≤ 9223372036854775807) ∧ ∃ cs, Blk w (r k) 3 cs ∧ ∀ j, j < n → cs[j]? = some (.int .i64 (t k j))
 d : ∀ j, j < i → ∀ k, k < i → r j = r k → j = k
theorem SqG.below {w0 w w' : World} {v : Value} {i n : Nat} {t : Tab} {r cp : Nat → Nat} (h : SqG w0 w v i n t r cp) (hb : Below w.heap.size w w') : SqG w0 w' v i n t r cp :=
 ⟨bthen h.b hb, ownsRow_below h.o hb, fun k hk => ⟨(h.rk k hk).1, (h.rk k hk).2.1, (h.rk k hk).2.2.imp fun cs q => ⟨q.1.below hb, q.2⟩⟩, h.d⟩
theorem SqG.step {w0 w w1 w2 : World} {v v' : Value} {i n g cg : Nat} {t : Tab} {r cp : Nat → Nat} {cs : Array Value} (h : SqG w0 w v i n t r cp) (hb : Below w.heap.size w w1) (hg : w.heap.size ≤ g) (hcg : n ≤ cg ∧ cg ≤ 9223372036854775807) (hB : Blk w1 g 3 cs) (hcs : ∀ j, j < n → cs[j]? = some (.int .i64 (t i j)))
  (ho : w2.ownsRow w0.heap.size 35 1 v' (i + 1) ((List.range i).map (fun k => .slice (some ⟨r k, 0, none⟩) n (cp k)) ++ [.slice (some ⟨g, 0, none⟩) n cg])) (hgr : w1.grownBy w2 v.ownBlock) :
  SqG w0 w2 v' (i + 1) n t (fun k => if k = i then g else r k) (fun k => if k = i then cg else cp k) := by
 have h1 := h.below hb
 have hvo : ∀ b, some b = v.ownBlock → w0.heap.size ≤ b := fun b q => (ownLt h1.o q).1
 have hbs := h.b.size
 have hold : ∀ k, k < i → r k < w.heap.size := fun k hk => by obtain ⟨cs, q, -⟩ := (h.rk k hk).2.2; exact q.lt
 refine ⟨h1.b.trans (belowGrew hgr h1.b.size hvo), ?_, fun k hk => ?_, fun j hj k hk e => ?_⟩
 ·have e : (List.range (i + 1)).map (fun k => Value.slice (some ⟨(if k = i then g else r k), 0, none⟩) n (if k = i then cg else cp k)) = (List.range i).map (fun k => .slice (some ⟨r k, 0, none⟩) n (cp k)) ++ [.slice (some ⟨g, 0, none⟩) n cg] := by
   rw [List.range_succ, List.map_append]
   congr 1
   ·refine List.map_congr_left fun k hk => ?_
    rw [if_neg (by have := List.mem_range.1 hk; omega), if_neg (by have := List.mem_range.1 hk; omega)]
   ·simp
  rw [e]; exact ho
 ·show w0.heap.size ≤ (if k = i then g else r k) ∧ (n ≤ (if k = i then cg else cp k) ∧ (if k = i then cg else cp k) ≤ _) ∧ ∃ cs, Blk w2 (if k = i then g else r k) 3 cs ∧ _
  by_cases e : k = i
  ·rw [if_pos e, if_pos e, e]
   exact ⟨by omega, hcg, cs, hB.grew hgr (own_blk_ne h1.o hB (by decide)), hcs⟩
  ·rw [if_neg e, if_neg e]
   obtain ⟨q1, q2, cs', q3, q4⟩ := h1.rk k (by omega)
   exact ⟨q1, q2, cs', q3.grew hgr (own_blk_ne h1.o q3 (by decide)), q4⟩
 ·by_cases e1 : j = i
  ·by_cases e2 : k = i
   ·omega
   ·rw [if_pos e1, if_neg e2] at e; have := hold k (by omega); omega
  ·by_cases e2 : k = i
   ·rw [if_neg e1, if_pos e2] at e; have := hold j (by omega); omega
   ·rw [if_neg e1, if_neg e2] at e; exact h.d j (by omega) k (by omega) e
structure TmK (M : MetD) (vF vS : Value) (P : Nat) (t : Tab) (i : Nat) (v : Value) (r cp : Nat → Nat) (w wr : World) : Prop where
 x : Blk wr w.heap.size 34 #[.int .i64 M.places, .int .i64 M.any.a0, .int .i64 M.any.a1, .int .i64 M.any.a2, .int .i64 M.any.a3, .int .i64 M.any.a4, .int .i64 M.any.a5, .bool M.any.i, .bool M.any.s, .int .i64 M.mw, .int .i64 M.ms, .int .i64 M.mc, vF, vS]
 g : SqG w wr v i P t r cp
theorem TmK.below {M : MetD} {vF vS : Value} {P : Nat} {t : Tab} {i : Nat} {v : Value} {r cp : Nat → Nat} {w wr w2 : World} (h : TmK M vF vS P t i v r cp w wr) (hb : RowKit.Below wr.heap.size wr w2) : TmK M vF vS P t i v r cp w w2 := ⟨h.x.below hb, h.g.below hb⟩
structure TiK (M : MetD) (vF vS : Value) (P gT : Nat) (rT : Nat → Nat) (lo hi : Nat) (tt : Tab) (w wr : World) : Prop where
 b : RowKit.Below w.heap.size w wr
 x : Blk wr w.heap.size 34 #[.int .i64 M.places, .int .i64 M.any.a0, .int .i64 M.any.a1, .int .i64 M.any.a2, .int .i64 M.any.a3, .int .i64 M.any.a4, .int .i64 M.any.a5, .bool M.any.i, .bool M.any.s, .int .i64 M.mw, .int .i64 M.ms, .int .i64 M.mc, vF, vS]
 t : Sq wr 3 lo hi gT rT P tt
theorem TiK.below {M : MetD} {vF vS : Value} {P gT lo hi : Nat} {rT : Nat → Nat} {tt : Tab} {w wr w2 : World} (h : TiK M vF vS P gT rT lo hi tt w wr) (hb : RowKit.Below wr.heap.size wr w2) : TiK M vF vS P gT rT lo hi tt w w2 := ⟨bthen h.b hb, h.x.below hb, h.t.below hb⟩
theorem TiK.set_ {M : MetD} {vF vS : Value} {P gT lo hi : Nat} {rT : Nat → Nat} {tt : Tab} {w wr : World} (h : TiK M vF vS P gT rT lo hi tt w wr) (hlo : w.heap.size ≤ lo) {a b : Nat} (ha : a < P) {x : Int} (hx : tt a b < 0 ∨ x < tt a b) : TiK M vF vS P gT rT lo hi (stpT tt a b x) w (wr.setCell ⟨rT a, b, none⟩ (.int .i64 x)) := by
 have q := h.t.rl a ha
 refine ⟨bset h.b (by omega) _, h.x.far' (h.t.ne h.x ha (by decide)) _, ?_⟩
 have := h.t.set_ (b := b) ha x
 rw [show (fun i j => if i = a ∧ j = b then x else tt i j) = stpT tt a b x by funext i j; unfold stpT; rw [if_pos hx]] at this
 exact this
end Go.Proofs.YtlambeiafdpkgaaGreat

namespace Go.Proofs.YtlambeiafdpkgaaGreat
open Go Go.RowKit Go.Proofs
set_option maxRecDepth 100000
set_option maxHeartbeats 8000000
end Go.Proofs.YtlambeiafdpkgaaGreat

namespace Go.Proofs.YtlambeiafdpkgaaGreat
open Go Go.RowKit Go.Proofs
set_option maxRecDepth 100000
set_option maxHeartbeats 8000000
def FliD.lasts (F : FliD) (t : Int) : Bool := decide (F.res ≤ F.fuel - F.burn * (t - F.dep))
end Go.Proofs.YtlambeiafdpkgaaGreat

namespace Go.Proofs.YtlambeiafdpkgaaGreat
open Go Go.RowKit Go.Proofs
set_option maxRecDepth 100000
set_option maxHeartbeats 8000000
def FliD.ix (F : FliD) (lt : Tab) (t : Int) : Nat → Nat
 | 0 => 0
 | i + 1 => if t < F.at_ lt (i + 1) then F.ix lt t i else i + 1
def FliD.reach (F : FliD) (lt tt : Tab) (t : Int) (p : Nat) : Int × Bool × Bool :=
 let i := F.ix lt t (F.m - 1)
 let bh := tt (F.R i).toNat p
 let back := t + (t - F.at_ lt i) + bh
 if t = F.at_ lt i then (back, decide (F.at_ lt i < t), decide (0 ≤ bh))
 else
  let ah := tt (F.R (i + 1)).toNat p
  if back < F.at_ lt (i + 1) + ah then (back, decide (F.at_ lt i < t), decide (0 ≤ bh)) else (F.at_ lt (i + 1) + ah, false, decide (0 ≤ ah))
end Go.Proofs.YtlambeiafdpkgaaGreat

namespace Go.Proofs.YtlambeiafdpkgaaGreat
open Go Go.RowKit Go.Proofs
def rlxV (u v x : Int) : Int := if 0 ≤ u ∧ 0 ≤ v then (if x < 0 ∨ u + v < x then u + v else x) else x
theorem rlxV_r (x : Int) : rlxV x 0 x = x := by unfold rlxV; split <;> (try split) <;> omega
theorem rlxV_l (x : Int) : rlxV 0 x x = x := by unfold rlxV; split <;> (try split) <;> omega
theorem flB_at {t : Tab} {y a : Nat} (h0 : t y y = 0) : ∀ b i j, flB y a b t i j = if i = a ∧ j < b then rlxV (t a y) (t y j) (t a j) else t i j
 | 0, i, j => by rw [if_neg (by omega)]; rfl
 | b + 1, i, j => by
  have e1 : flB y a b t a y = t a y := by
   rw [flB_at h0 b a y]
   split
   ·rw [h0]; exact rlxV_r _
   ·rfl
  have e2 : flB y a b t y b = t y b := by rw [flB_at h0 b y b, if_neg (by omega)]
  have e3 : flB y a b t a b = t a b := by rw [flB_at h0 b a b, if_neg (by omega)]
  have hs : flS (flB y a b t) y a b i j = if i = a ∧ j = b then rlxV (t a y) (t y b) (t a b) else flB y a b t i j := by
   unfold flS stpT rlxV
   rw [e1, e2]
   by_cases q : i = a ∧ j = b
   ·obtain ⟨rfl, rfl⟩ := q
    rw [if_pos (show i = i ∧ j = j from ⟨rfl, rfl⟩)]
    split
    ·show (if i = i ∧ j = j then _ else _) = _
     rw [if_pos (show i = i ∧ j = j from ⟨rfl, rfl⟩), e3]
    ·exact e3
   ·rw [if_neg q]
    split
    ·show (if i = a ∧ j = b then _ else _) = _
     rw [if_neg q]
    ·rfl
  refine hs.trans ?_
  by_cases q : i = a ∧ j = b
  ·rw [if_pos q, if_pos (show i = a ∧ j < b + 1 by omega), q.2]
  ·rw [if_neg q, flB_at h0 b i j]
   by_cases q2 : i = a ∧ j < b
   ·rw [if_pos q2, if_pos (show i = a ∧ j < b + 1 by omega)]
   ·rw [if_neg q2, if_neg (show ¬ (i = a ∧ j < b + 1) by omega)]
theorem flA_at {t : Tab} {y n : Nat} (hy : y < n) (h0 : t y y = 0) : ∀ a i j, j < n → flA n y a t i j = if i < a then rlxV (t i y) (t y j) (t i j) else t i j
 | 0, i, j, _ => by rw [if_neg (by omega)]; rfl
 | a + 1, i, j, hj => by
  have row : ∀ j, j < n → flA n y a t y j = t y j := fun j hj => by
   rw [flA_at hy h0 a y j hj]
   split
   ·rw [h0]; exact rlxV_l _
   ·rfl
  have e1 : flA n y a t a y = t a y := by rw [flA_at hy h0 a a y hy, if_neg (by omega)]
  show flB y a n (flA n y a t) i j = _
  rw [flB_at (by rw [row y hy]; exact h0) n i j, e1, row j hj]
  by_cases q : i = a
  ·subst q
   rw [if_pos ⟨rfl, hj⟩, if_pos (by omega), flA_at hy h0 i i j hj, if_neg (by omega)]
  ·rw [if_neg (fun h => q h.1), flA_at hy h0 a i j hj]
   by_cases q2 : i < a
   ·rw [if_pos q2, if_pos (by omega)]
   ·rw [if_neg q2, if_neg (by omega)]
structure TriT (n k : Nat) (t0 t : Tab) : Prop where
 lo : ∀ i j, i < n → j < n → -1 ≤ t i j
 dg : ∀ i, i < n → t i i = 0
 off : ∀ i j, i < n → j < n → i ≠ j → t i j ≠ 0
 sym : ∀ i j, i < n → j < n → t i j = t j i
 tri : ∀ i j c, i < n → j < n → c < k → c < n → 0 ≤ t i c → 0 ≤ t c j → 0 ≤ t i j ∧ t i j ≤ t i c + t c j
 leg : ∀ i j, i < n → j < n → 0 ≤ t0 i j → 0 ≤ t i j ∧ t i j ≤ t0 i j
theorem rlxV_cases (u v x : Int) (hx : -1 ≤ x) : (0 ≤ u ∧ 0 ≤ v ∧ (x < 0 ∨ u + v < x) ∧ rlxV u v x = u + v) ∨ ((u < 0 ∨ v < 0 ∨ 0 ≤ x ∧ x ≤ u + v) ∧ rlxV u v x = x) := by
 unfold rlxV
 split
 ·split
  ·left; omega
  ·right; omega
 ·right; omega
theorem TriT.step {n k : Nat} {t0 t : Tab} (h : TriT n k t0 t) (hk : k < n) : TriT n (k + 1) t0 (flA n k n t) := by
 have hA : ∀ i j, i < n → j < n → flA n k n t i j = rlxV (t i k) (t k j) (t i j) := fun i j hi hj => by
  rw [flA_at hk (h.dg k hk) n i j hj, if_pos hi]
 have hC := fun i j (hi : i < n) (hj : j < n) => rlxV_cases (t i k) (t k j) (t i j) (h.lo i j hi hj)
 refine ⟨fun i j hi hj => ?_, fun i hi => ?_, fun i j hi hj hne => ?_, fun i j hi hj => ?_, fun i j c hi hj hc hcn => ?_, fun i j hi hj h0 => ?_⟩
 ·rw [hA i j hi hj]
  have := h.lo i j hi hj
  rcases hC i j hi hj with q | q <;> omega
 ·rw [hA i i hi hi]
  have := h.dg i hi
  have := h.lo i k hi hk
  have := h.lo k i hk hi
  rcases hC i i hi hi with q | q <;> omega
 ·rw [hA i j hi hj]
  have h1 := h.off i j hi hj hne
  by_cases q1 : i = k
  ·subst q1
   have := h.dg i hi
   rcases hC i j hi hj with q | q <;> omega
  ·have h2 := h.off i k hi hk q1
   rcases hC i j hi hj with q | q <;> omega
 ·rw [hA i j hi hj, hA j i hj hi, h.sym i k hi hk, h.sym k j hk hj, h.sym i j hi hj]
  have d1 := h.lo j i hj hi
  rcases rlxV_cases (t k i) (t j k) (t j i) d1 with q | q <;> rcases rlxV_cases (t j k) (t k i) (t j i) d1 with p | p <;> omega
 ·rw [hA i j hi hj, hA i c hi hcn, hA c j hcn hj]
  have d1 := h.lo i j hi hj
  have d2 := h.dg k hk
  have l1 := h.lo i c hi hcn
  have l2 := h.lo c j hcn hj
  by_cases q1 : c = k
  ·subst q1
   have e1 : rlxV (t i c) (t c c) (t i c) = t i c := by rw [d2]; exact rlxV_r _
   have e2 : rlxV (t c c) (t c j) (t c j) = t c j := by rw [d2]; exact rlxV_l _
   rw [e1, e2]
   rcases hC i j hi hj with q | q <;> omega
  ·have k1 := h.tri i j c hi hj (by omega) hcn
   have k2 := h.tri i k c hi hk (by omega) hcn
   have k3 := h.tri k j c hk hj (by omega) hcn
   rcases hC i j hi hj with q | q <;> rcases hC i c hi hcn with p | p <;> rcases hC c j hcn hj with r | r <;> omega
 ·rw [hA i j hi hj]
  have h1 := h.leg i j hi hj h0
  rcases hC i j hi hj with q | q <;> omega
theorem TriT.all {n : Nat} {t0 : Tab} (h : TriT n 0 t0 t0) : ∀ k, k ≤ n → TriT n k t0 (flO n k t0)
 | 0, _ => h
 | k + 1, hk => TriT.step (TriT.all h k (by omega)) (by omega)
end Go.Proofs.YtlambeiafdpkgaaGreat

namespace Go.Proofs.YtlambeiafdpkgaaGreat
open Go Go.RowKit Go.Proofs
structure HavD where
 p : Nat
 t : Int
 b : Bool
def hvz : HavD := ⟨0, 0, false⟩
def hvx (l : List HavD) (i : Nat) : HavD := l.getD i hvz
def nHv (f : Nat → HavD) : Nat → Nat → Value
 | i, 0 => .int .i64 (f i).p
 | i, 1 => .int .i64 (f i).t
 | i, _ + 2 => .bool (f i).b
def minH (f : Nat → HavD) : Nat → HavD
 | 0 => f 0
 | i + 1 => if (f (i + 1)).t < (minH f i).t then f (i + 1) else minH f i
def bestL (l : List HavD) : Option HavD := if l.length = 0 then none else some (minH (hvx l) (l.length - 1))
def FliD.havB (F : FliD) (lt tt : Tab) (op : Nat → Int → Bool) (t : Int) (dry : Bool) (p : Nat) : Bool := (F.reach lt tt t p).2.2 && (op p (F.reach lt tt t p).1 && (dry || F.lasts (F.reach lt tt t p).1))
def FliD.hav1 (F : FliD) (lt tt : Tab) (t : Int) (p : Nat) : HavD := ⟨p, (F.reach lt tt t p).1, (F.reach lt tt t p).2.1⟩
def FliD.havK (F : FliD) (lt tt : Tab) (op : Nat → Int → Bool) (t : Int) (dry : Bool) : Nat → List HavD
 | 0 => []
 | k + 1 => if F.havB lt tt op t dry k then F.havK lt tt op t dry k ++ [F.hav1 lt tt t k] else F.havK lt tt op t dry k
def FliD.arr (F : FliD) (lt : Tab) : Int := F.at_ lt (F.m - 1)
def FliD.ticks (F : FliD) (lt : Tab) : Nat := (F.arr lt - F.dep + 1).toNat
def hvL (l : List HavD) : List Value := l.flatMap fun h => [.int .i64 h.p, .int .i64 h.t, .bool h.b]
theorem hvL_snoc (l : List HavD) (h : HavD) : hvL (l ++ [h]) = hvL l ++ [.int .i64 h.p, .int .i64 h.t, .bool h.b] := by simp [hvL]
theorem hvL_take (l : List HavD) : ∀ n, n ≤ l.length → hvL (l.take n) = (List.range (n * 3)).map fun q => nHv (hvx l) (q / 3) (q % 3)
 | 0, _ => by simp [hvL]
 | n + 1, h => by
  have hn : n < l.length := by omega
  rw [List.take_succ_eq_append_getElem hn, hvL_snoc, hvL_take l n (by omega), show (n + 1) * 3 = n * 3 + 1 + 1 + 1 by omega, List.range_succ, List.range_succ, List.range_succ]
  simp only [List.map_append, List.map_cons, List.map_nil, List.append_assoc, List.cons_append, List.nil_append]
  rw [show n * 3 / 3 = n by omega, show n * 3 % 3 = 0 by omega, show (n * 3 + 1) / 3 = n by omega, show (n * 3 + 1) % 3 = 1 by omega, show (n * 3 + 1 + 1) / 3 = n by omega, show (n * 3 + 1 + 1) % 3 = 2 by omega]
  have e : hvx l n = l[n] := by simp [hvx, List.getD_eq_getElem?_getD, List.getElem?_eq_getElem hn]
  simp only [nHv, e]
theorem hvL_eq (l : List HavD) : hvL l = (List.range (l.length * 3)).map fun q => nHv (hvx l) (q / 3) (q % 3) := by
 have := hvL_take l l.length (Nat.le_refl _)
 rwa [List.take_length] at this
end Go.Proofs.YtlambeiafdpkgaaGreat

namespace Go.Proofs.YtlambeiafdpkgaaGreat
open Go Go.RowKit Go.Proofs
set_option maxRecDepth 100000
set_option maxHeartbeats 8000000
end Go.Proofs.YtlambeiafdpkgaaGreat

namespace Go.Proofs.YtlambeiafdpkgaaGreat
open Go Go.RowKit Go.Proofs
set_option maxRecDepth 100000
set_option maxHeartbeats 8000000
def SlH (w : World) (v : Value) (l : List HavD) : Prop := ∃ A c, v = .slice A l.length c ∧ l.length ≤ c ∧ c ≤ 9223372036854775807 ∧ RecsAt w A l.length 3 (nHv (hvx l))
theorem SlH.below {w w' : World} {v : Value} {l : List HavD} (h : SlH w v l) (hb : RowKit.Below w.heap.size w w') : SlH w' v l := by
 obtain ⟨A, c, e, q1, q2, h⟩ := h
 exact ⟨A, c, e, q1, q2, h.below hb⟩
theorem SlH.of_owns {w : World} {base : Nat} {v : Value} {l : List HavD} (h : w.ownsRow base 80 3 v l.length (hvL l)) : SlH w v l := by
 rw [hvL_eq] at h
 exact RecsAt.of_owns (by omega) h
structure HvK (l : List HavD) (vO : Value) (w wr : World) : Prop where
 b : RowKit.Below w.heap.size w wr
 o : wr.ownsRow w.heap.size 80 3 vO l.length (hvL l)
theorem HvK.below {l : List HavD} {vO : Value} {w wr w2 : World} (h : HvK l vO w wr) (hb : RowKit.Below wr.heap.size wr w2) : HvK l vO w w2 := ⟨bthen h.b hb, ownsRow_below h.o hb⟩
end Go.Proofs.YtlambeiafdpkgaaGreat

namespace Go.Proofs.YtlambeiafdpkgaaGreat
open Go Go.RowKit Go.Proofs
set_option maxRecDepth 100000
set_option maxHeartbeats 8000000
end Go.Proofs.YtlambeiafdpkgaaGreat

namespace Go.Proofs.YtlambeiafdpkgaaGreat
open Go Go.RowKit Go.Proofs
set_option maxRecDepth 100000
set_option maxHeartbeats 8000000
def prfR (bf : Int → Option HavD) : Nat → Int → List HavD → List HavD × Int × Bool
 | 0, _, l => (l, 0, true)
 | n + 1, t, l => match bf t with
  | none => ([], t, false)
  | some h => prfR bf n (t + 1) (l ++ [h])
def FliD.prf (F : FliD) (lt tt : Tab) (op : Nat → Int → Bool) (P : Nat) : List HavD × Int × Bool := prfR (fun t => bestL (F.havK lt tt op t false P)) (F.ticks lt) F.dep []
end Go.Proofs.YtlambeiafdpkgaaGreat

namespace Go.Proofs.YtlambeiafdpkgaaGreat
open Go Go.RowKit Go.Proofs
set_option maxRecDepth 100000
def FliD.need (F : FliD) (h : HavD) : Int := F.res + F.burn * (h.t - F.dep)
end Go.Proofs.YtlambeiafdpkgaaGreat

namespace Go.Proofs.YtlambeiafdpkgaaGreat
open Go Go.RowKit Go.Proofs
end Go.Proofs.YtlambeiafdpkgaaGreat

namespace Go.Proofs.YtlambeiafdpkgaaGreat
open Go Go.RowKit Go.Proofs
set_option maxRecDepth 100000
set_option maxHeartbeats 8000000
end Go.Proofs.YtlambeiafdpkgaaGreat

namespace Go.Proofs.YtlambeiafdpkgaaGreat
open Go Go.RowKit Go.Proofs
set_option maxRecDepth 100000
set_option maxHeartbeats 8000000
end Go.Proofs.YtlambeiafdpkgaaGreat

namespace Go.Proofs.YtlambeiafdpkgaaGreat
open Go Go.RowKit Go.Proofs
set_option maxRecDepth 100000
set_option maxHeartbeats 8000000
end Go.Proofs.YtlambeiafdpkgaaGreat

namespace Go.Proofs.YtlambeiafdpkgaaGreat
open Go Go.RowKit Go.Proofs
set_option maxRecDepth 100000
end Go.Proofs.YtlambeiafdpkgaaGreat

namespace Go.Proofs.YtlambeiafdpkgaaGreat
open Go Go.RowKit Go.Proofs
set_option maxRecDepth 100000
set_option maxHeartbeats 8000000
end Go.Proofs.YtlambeiafdpkgaaGreat

namespace Go.Proofs.YtlambeiafdpkgaaGreat
open Go Go.RowKit Go.Proofs
set_option maxRecDepth 100000
set_option maxHeartbeats 8000000
section
variable {P : Program} {ops : Array Oper} {rest : List Oper} {o : Oper} {a : Act} {w : World}
end
structure ReK (M : MetD) (vF vS : Value) (w wr : World) : Prop where
 b : Below w.heap.size w wr
 m : Blk wr w.heap.size 34 #[.int .i64 M.places, .int .i64 M.any.a0, .int .i64 M.any.a1, .int .i64 M.any.a2, .int .i64 M.any.a3, .int .i64 M.any.a4, .int .i64 M.any.a5, .bool M.any.i, .bool M.any.s, .int .i64 M.mw, .int .i64 M.ms, .int .i64 M.mc, vF, vS]
theorem ReK.grow {M : MetD} {vF vS : Value} {w wr w2 : World} (h : ReK M vF vS w wr) (hb : Below wr.heap.size wr w2) : ReK M vF vS w w2 := ⟨bthen h.b hb, h.m.below hb⟩
end Go.Proofs.YtlambeiafdpkgaaGreat

namespace Go.Proofs.YtlambeiafdpkgaaGreat
open Go Go.RowKit Go.Proofs
set_option maxRecDepth 100000
set_option maxHeartbeats 8000000
def EmptyW (v : Value) (w : World) : Prop := ∃ g, v = .slice (some ⟨g, 0, none⟩) 0 0 ∧ Blk w g 157 #[]
theorem EmptyW.below {v : Value} {w w' : World} (h : EmptyW v w) (hb : Below w.heap.size w w') : EmptyW v w' := by
 obtain ⟨g, e, h⟩ := h
 exact ⟨g, e, h.below hb⟩
def WesV (n : Nat) (G : Nat → Nat → Int) (H : Nat → Nat → Bool) (v : Value) (w : World) : Prop := ∃ A' c', v = .slice A' n c' ∧ RecsAt w A' n 5 (weV G H)
theorem WesV.below {n : Nat} {G : Nat → Nat → Int} {H : Nat → Nat → Bool} {v : Value} {w w' : World} (h : WesV n G H v w) (hb : Below w.heap.size w w') : WesV n G H v w' := by
 obtain ⟨A', c', e, h⟩ := h
 exact ⟨A', c', e, h.below hb⟩
end Go.Proofs.YtlambeiafdpkgaaGreat

namespace Go.Proofs.YtlambeiafdpkgaaGreat
open Go Go.RowKit Go.Proofs
set_option maxRecDepth 100000
end Go.Proofs.YtlambeiafdpkgaaGreat

namespace Go.Proofs.YtlambeiafdpkgaaGreat
open Go Go.RowKit Go.Proofs
set_option maxRecDepth 100000
theorem whyE_zero {D : DekD} {M : MetD} {Mo : MovD} {a : AppD} {t : Int} (hs : scE D M Mo = 0) (ha : appE M a = 0) (h0 : 0 ≤ t) (h1 : t ≤ 2000) : whyE D M Mo a t = 0 := by
 unfold whyE caE
 rw [if_pos hs, if_pos ha, inB_iff.2 ⟨h0, h1⟩]
 rfl
end Go.Proofs.YtlambeiafdpkgaaGreat

namespace Go.Proofs.YtlambeiafdpkgaaGreat
open Go Go.RowKit Go.Proofs
set_option maxRecDepth 100000
set_option maxHeartbeats 8000000
end Go.Proofs.YtlambeiafdpkgaaGreat
