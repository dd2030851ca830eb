/- Contracts: Bound, made, Part of package spans. -/
import Derived.Test.YtechkkgmdjgddaaGreatSpJ
set_option linter.all false
namespace Go.Proofs.YtechkkgmdjgddaaGreat
open Go Go.RowKit Go.Proofs

theorem Blk.newAt {g : Nat} (W : World) (t : TypeId) (cs : Array Value) (hg : g = W.heap.size) : Blk (W.alloc (.cells cs t)) g t cs := by rw [hg]; exact Blk.new W t cs

noncomputable def bndLo (T : Tbl) (xl xh yl yh : Int) : Int := match leastO (cornersL T (stopsL T.X xl xh) (stopsL T.Y yl yh)) with | some p => p.n / p.d | none => 0
noncomputable def bndHi (T : Tbl) (xl xh yl yh : Int) : Int := match mostO (cornersL T (stopsL T.X xl xh) (stopsL T.Y yl yh)) with | some p => cdiv p.n p.d | none => 0
theorem bndLo_eq {T : Tbl} {xl xh yl yh : Int} {p : Pt} (h : leastO (cornersL T (stopsL T.X xl xh) (stopsL T.Y yl yh)) = some p) : bndLo T xl xh yl yh = p.n / p.d := by unfold bndLo; rw [h]
theorem bndHi_eq {T : Tbl} {xl xh yl yh : Int} {p : Pt} (h : mostO (cornersL T (stopsL T.X xl xh) (stopsL T.Y yl yh)) = some p) : bndHi T xl xh yl yh = cdiv p.n p.d := by unfold bndHi; rw [h]

/-- A table on which a box lies. -/
structure Fits (T : Tbl) (xl xh yl yh : Int) : Prop where
  t : tblB T = true
  vx : vspan xl xh = true
  vy : vspan yl yh = true
  lx : liesB T.X xl xh = true
  ly : liesB T.Y yl yh = true
theorem vspan_le {l h : Int} (v : vspan l h = true) : l ≤ h := by unfold vspan at v; simp only [Bool.and_eq_true, inB, decide_eq_true_eq] at v; omega
theorem Fits.cp {T : Tbl} {xl xh yl yh : Int} (h : Fits T xl xh yl yh) : cpE T xl xh yl yh = 0 := by simp [cpE, h.t, h.vx, h.vy, h.lx, h.ly]

set_option maxHeartbeats 1600000 in
theorem Bound_c (x y v : Value) (T : Tbl) (xl xh yl yh : Int) (w : World) (hT : TblAt w x y v T) (hF : Fits T xl xh yl yh) :
   Calls Tryz.prog 13 #[.agg #[x, y, v], .agg #[.int .i64 xl, .int .i64 xh], .agg #[.int .i64 yl, .int .i64 yh]] w fun e w' => e = .returned (.tuple #[.agg #[.int .i64 (bndLo T xl xh yl yh), .int .i64 (bndHi T xl xh yl yh)], .int .i64 0]) ∧ Below w.heap.size w w' := by
  have e1 := hF.cp
  have HF := Lib.hid hF
  clear hF
  go_enter Tryz.func13, Tryz.ntmps13
  go_wp2_with (first | (go_at_call 36; (with_reducible refine (checkPoints_c x y v T xl xh yl yh _ (hT.below (by repeat' (first | exact Below.refl _ _ | assumption | refine Below.drew ?_ | refine bdn ?_ _ | refine bal ?_ _ | refine Below.setCell ?_ (by first | (simp; done) | omega | (simp; omega)) _)))).mono ?_); rintro e u1 ⟨rfl, hu1⟩; have uB := bthen (show Below w.heap.size w _ from (by repeat' (first | exact Below.refl _ _ | assumption | refine Below.drew ?_ | refine bdn ?_ _ | refine bal ?_ _ | refine Below.setCell ?_ (by first | (simp; done) | omega | (simp; omega)) _))) hu1; have hz0 := hu1.size; (try simp at hz0); have rB := Lib.hid (Blk.below (Blk.new _ 29 #[.int .i64 0, .int .i64 0]) hu1); obtain ⟨hc1, hf1⟩ := bcell hu1; clear hu1) | (go_at_call 37; (with_reducible refine (extremes_c x y v T xl xh yl yh _ (hT.below uB) HF.out.t (vspan_le HF.out.vx) (vspan_le HF.out.vy) HF.out.lx HF.out.ly).mono ?_); rintro e w1 ⟨p, q, rfl, hp, hq, hb1⟩; have hB1 := bthen uB hb1; have hz1 := hb1.size; have rC := Lib.hid (rB.out.below hb1); clear rB))
  have R := (rC.out.alloc (.cells #[.int .i64 p.x, .int .i64 p.y, .int .i64 p.n, .int .i64 p.d] 72)).alloc (.cells #[.int .i64 q.x, .int .i64 q.y, .int .i64 q.n, .int .i64 q.d] 72)
  have P1 := (Blk.new w1 72 #[.int .i64 p.x, .int .i64 p.y, .int .i64 p.n, .int .i64 p.d]).alloc (.cells #[.int .i64 q.x, .int .i64 q.y, .int .i64 q.n, .int .i64 q.d] 72)
  have P2 := Blk.new (w1.alloc (.cells #[.int .i64 p.x, .int .i64 p.y, .int .i64 p.n, .int .i64 p.d] 72)) 72 #[.int .i64 q.x, .int .i64 q.y, .int .i64 q.n, .int .i64 q.d]
  simp only [World.size_alloc] at R P2
  have BZ := bal (bal hB1 (.cells #[.int .i64 p.x, .int .i64 p.y, .int .i64 p.n, .int .i64 p.d] 72)) (.cells #[.int .i64 q.x, .int .i64 q.y, .int .i64 q.n, .int .i64 q.d] 72)
  have hn := bndLo_eq hp
  have hm := bndHi_eq hq
  have pn := p.hn
  have pd := p.hd
  have qn := q.hn
  have qd := q.hd
  generalize bndLo T xl xh yl yh = lo at *
  generalize bndHi T xl xh yl yh = hi at *
  subst hn
  subst hm
  generalize (w1.alloc (.cells #[.int .i64 p.x, .int .i64 p.y, .int .i64 p.n, .int .i64 p.d] 72)).alloc (.cells #[.int .i64 q.x, .int .i64 q.y, .int .i64 q.n, .int .i64 q.d] 72) = Z at *
  have f1 : ∀ r : After Z, r.w.cell? ⟨w1.heap.size, 2, none⟩ = some (.int .i64 p.n) := fun r => (P1.below r.below).cell 2
  have f2 : ∀ r : After Z, r.w.cell? ⟨w1.heap.size, 3, none⟩ = some (.int .i64 p.d) := fun r => (P1.below r.below).cell 3
  have f3 : ∀ r : After Z, r.w.cell? ⟨w1.heap.size + 1, 2, none⟩ = some (.int .i64 q.n) := fun r => (P2.below r.below).cell 2
  have f4 : ∀ r : After Z, r.w.cell? ⟨w1.heap.size + 1, 3, none⟩ = some (.int .i64 q.d) := fun r => (P2.below r.below).cell 3
  refine wp_region_aftert 11 (by kernel_rfl) (by kernel_rfl) ?_
  simp only [List.take_succ_cons, List.take_zero, List.drop_succ_cons, List.drop_zero]
  repeat (go_big_quiet_step (first | (go_at_call 38; (with_reducible refine qafter_same (floor_c p.n p.d _ (by omega) (by omega) pd.1 (by omega)))) | (go_at_call 39; (with_reducible refine qafter (up_c q.n q.d _ (by omega) (by omega) qd.1 (by omega))))))
  refine wpQuiet_nil ?_
  rintro _ ⟨r, rfl⟩
  have R' := R.below r.below
  have g0 : r.w.cell? ⟨w.heap.size + 1 + 1 + 1, 0, none⟩ = some (.int .i64 0) := R'.cell 0
  have g1 : r.w.cell? ⟨w.heap.size + 1 + 1 + 1, 1, none⟩ = some (.int .i64 0) := R'.cell 1
  have g2 := fun i => R'.frozen i
  clear f1 f2 f3 f4
  have BR := bthen BZ r.below
  go_wp2
  exact bodyPost_ret (v := .tuple #[.agg #[.int .i64 (p.n / p.d), .int .i64 (cdiv q.n q.d)], .int .i64 0]) (by simp (maxDischargeDepth := 9) [results, Tryz.results13, go_sem, g0, g1]) rfl ⟨by rw [bndLo_eq hp, bndHi_eq hq], bset (bset BR (by omega) _) (by omega) _⟩

/-- The values of Part: what made says of a rounded multiple. -/
def partLo (lo num den : Int) : Int := lo * num / den
def partHi (hi num den : Int) : Int := cdiv (hi * num) den

theorem spanned1v_c (b c : Nat) (lo hi : Int) (w : World) (h0 : w.cell? ⟨b, 0, none⟩ = some (.int .i64 lo)) (h1 : w.cell? ⟨b, 1, none⟩ = some (.int .i64 hi)) :
   Calls Tryz.prog 64 #[.slice (some ⟨b, 0, none⟩) 1 c] w fun e w' => e = .returned (.int .i64 (spanE (!vspan lo hi))) ∧ Below w.heap.size w w' := by
  have h := spanned_c (some ⟨b, 0, none⟩) 1 c (fun _ => lo) (fun _ => hi) w (by omega)
    (fun _ => ⟨b, 0, rfl, blk_lt h0, fun k hk => by
      obtain rfl : k = 0 := by omega
      simpa using ⟨h0, h1⟩⟩)
  rw [anyBad1] at h
  exact h

theorem vspan_bd {l h : Int} (v : vspan l h = true) : -1000000000 ≤ l ∧ l ≤ h ∧ h ≤ 1000000000 := by unfold vspan at v; simp only [Bool.and_eq_true, inB, decide_eq_true_eq] at v; omega

end Go.Proofs.YtechkkgmdjgddaaGreat
