/- Contracts: wake of package rotor; what a rotor's value reads as. -/
import Derived.Test.YtechkkgmdjgddaaGreatRoB
import Derived.Test.YtechkkgmdjgddaaGreatBas
set_option linter.all false
namespace Go.Proofs.YtechkkgmdjgddaaGreat
open Go Go.RowKit Go.Proofs

structure Tabs where
  h : Tbl
  g : Tbl
  l : Tbl
  p : Tbl
  n : Tbl
  a : Tbl
  c : Tbl
  d : Tbl

structure RotAt (w : World) (hx hy hv gx gy gv lx ly lv px py pv nx ny nv ax ay av cx cy cv dx dy dv : Value) (cl bu : Int) (S : Tabs) : Prop where
  h : TblAt w hx hy hv S.h
  g : TblAt w gx gy gv S.g
  l : TblAt w lx ly lv S.l
  p : TblAt w px py pv S.p
  n : TblAt w nx ny nv S.n
  a : TblAt w ax ay av S.a
  c : TblAt w cx cy cv S.c
  d : TblAt w dx dy dv S.d
  cl : I64 cl
  bu : I64 bu
theorem RotAt.below {w w' : World} {hx hy hv gx gy gv lx ly lv px py pv nx ny nv ax ay av cx cy cv dx dy dv : Value} {cl bu : Int} {S : Tabs} (h : RotAt w hx hy hv gx gy gv lx ly lv px py pv nx ny nv ax ay av cx cy cv dx dy dv cl bu S) (hb : Below w.heap.size w w') : RotAt w' hx hy hv gx gy gv lx ly lv px py pv nx ny nv ax ay av cx cy cv dx dy dv cl bu S :=
  ⟨h.h.below hb, h.g.below hb, h.l.below hb, h.p.below hb, h.n.below hb, h.a.below hb, h.c.below hb, h.d.below hb, h.cl, h.bu⟩

theorem TblAt.s1 {w : World} {x y v : Value} {T : Tbl} (h : TblAt w x y v T) : IsSl x := by obtain ⟨A, c, e, -⟩ := h.x; exact ⟨_, _, _, e⟩
theorem TblAt.s2 {w : World} {x y v : Value} {T : Tbl} (h : TblAt w x y v T) : IsSl y := by obtain ⟨A, c, e, -⟩ := h.y; exact ⟨_, _, _, e⟩
theorem TblAt.s3 {w : World} {x y v : Value} {T : Tbl} (h : TblAt w x y v T) : IsSl v := by obtain ⟨A, c, vs, e, -⟩ := h.v; exact ⟨_, _, _, e⟩

set_option maxRecDepth 100000
set_option maxHeartbeats 4000000

theorem Tryz.rowMach : RowTy Tryz.prog 51 34 := ⟨by kernel_rfl, by kernel_rfl⟩

theorem Tryz.fldLo (a b : Int) (w : World) : (Instr.field 29 (.agg #[.int .i64 a, .int .i64 b]) 0).run Tryz.prog w = .ok (.int .i64 a) w := by kernel_rfl
theorem Tryz.fldHi (a b : Int) (w : World) : (Instr.field 29 (.agg #[.int .i64 a, .int .i64 b]) 1).run Tryz.prog w = .ok (.int .i64 b) w := by kernel_rfl

noncomputable def wakeB (A C : Tbl) (wl wh sl sh kl kh : Int) : Bool := decide (bndLo A sl sh wl wh ≤ kh) && decide (kl ≤ bndHi C sl sh wl wh)

end Go.Proofs.YtechkkgmdjgddaaGreat

/- Contracts: needs, margin, rate of package rotor. -/
namespace Go.Proofs.YtechkkgmdjgddaaGreat
open Go Go.RowKit Go.Proofs
set_option maxRecDepth 100000
set_option maxHeartbeats 4000000

noncomputable def rateV (P L : Tbl) (wl wh tl th el eh cl n : Int) : Int := (bndLo P tl th el eh - bndHi L n n wl wh) / cl

theorem rate_c (hx hy hv gx gy gv lx ly lv px py pv nx ny nv ax ay av cx cy cv dx dy dv : Value) (cl bu wl wh tl th el eh nl nh : Int) (n : Int) (S : Tabs) (w : World) (hR : RotAt w hx hy hv gx gy gv lx ly lv px py pv nx ny nv ax ay av cx cy cv dx dy dv cl bu S) (hP : Fits S.p tl th el eh) (hL : Fits S.l n n wl wh) (hc : inB cl 1 1000 = true)
    (b1 : -4000000 ≤ bndLo S.p tl th el eh ∧ bndLo S.p tl th el eh ≤ 4000000) (b2 : -4000000 ≤ bndHi S.l n n wl wh ∧ bndHi S.l n n wl wh ≤ 4000000) :
   Calls Tryz.prog 23 #[.agg #[hx, hy, hv, gx, gy, gv, lx, ly, lv, px, py, pv, nx, ny, nv, ax, ay, av, cx, cy, cv, dx, dy, dv, .int .i64 cl, .int .i64 bu, .int .i64 wl, .int .i64 wh, .int .i64 tl, .int .i64 th, .int .i64 el, .int .i64 eh, .int .i64 nl, .int .i64 nh], .int .i64 n] w fun e w' => e = .returned (.int .i64 (rateV S.p S.l wl wh tl th el eh cl n)) ∧ Below w.heap.size w w' := by
  have HP := Lib.hid hP
  have HL := Lib.hid hL
  have HR := Lib.hid hR
  have hc' := inB_iff.1 hc
  have F := Lib.hid (fun w => ro_floor_c (bndLo S.p tl th el eh - bndHi S.l n n wl wh) cl w (by omega) (by omega) (by omega) (by omega))
  have F2 : bndLo S.p tl th el eh - bndHi S.l n n wl wh ≥ -8000000 ∧ bndLo S.p tl th el eh - bndHi S.l n n wl wh ≤ 8000000 := by omega
  clear hP hL hR hc
  unfold rateV
  have q1 := Tryz.fldLo
  have q2 := Tryz.fldHi
  have b : Blk (w.alloc (.cells #[hx, hy, hv, gx, gy, gv, lx, ly, lv, px, py, pv, nx, ny, nv, ax, ay, av, cx, cy, cv, dx, dy, dv, .int .i64 cl, .int .i64 bu, .int .i64 wl, .int .i64 wh, .int .i64 tl, .int .i64 th, .int .i64 el, .int .i64 eh, .int .i64 nl, .int .i64 nh] 51)) w.heap.size 51 #[hx, hy, hv, gx, gy, gv, lx, ly, lv, px, py, pv, nx, ny, nv, ax, ay, av, cx, cy, cv, dx, dy, dv, .int .i64 cl, .int .i64 bu, .int .i64 wl, .int .i64 wh, .int .i64 tl, .int .i64 th, .int .i64 el, .int .i64 eh, .int .i64 nl, .int .i64 nh] := (by repeat (first | (refine Blk.newAt _ _ _ ?_; first | rfl | (simp; done)) | refine Blk.alloc ?_ _))
  have hM := Lib.hid (fun r : After (w.alloc (.cells #[hx, hy, hv, gx, gy, gv, lx, ly, lv, px, py, pv, nx, ny, nv, ax, ay, av, cx, cy, cv, dx, dy, dv, .int .i64 cl, .int .i64 bu, .int .i64 wl, .int .i64 wh, .int .i64 tl, .int .i64 th, .int .i64 el, .int .i64 eh, .int .i64 nl, .int .i64 nh] 51)) => b.below r.below)
  have hRr := Lib.hid (fun r : After (w.alloc (.cells #[hx, hy, hv, gx, gy, gv, lx, ly, lv, px, py, pv, nx, ny, nv, ax, ay, av, cx, cy, cv, dx, dy, dv, .int .i64 cl, .int .i64 bu, .int .i64 wl, .int .i64 wh, .int .i64 tl, .int .i64 th, .int .i64 el, .int .i64 eh, .int .i64 nl, .int .i64 nh] 51)) => HR.out.below ((show Below w.heap.size w (w.alloc (.cells #[hx, hy, hv, gx, gy, gv, lx, ly, lv, px, py, pv, nx, ny, nv, ax, ay, av, cx, cy, cv, dx, dy, dv, .int .i64 cl, .int .i64 bu, .int .i64 wl, .int .i64 wh, .int .i64 tl, .int .i64 th, .int .i64 el, .int .i64 eh, .int .i64 nl, .int .i64 nh] 51)) from bal (Below.refl _ _) _).trans (r.below.mono (by simp))))
  have fc : ∀ r : After (w.alloc (.cells #[hx, hy, hv, gx, gy, gv, lx, ly, lv, px, py, pv, nx, ny, nv, ax, ay, av, cx, cy, cv, dx, dy, dv, .int .i64 cl, .int .i64 bu, .int .i64 wl, .int .i64 wh, .int .i64 tl, .int .i64 th, .int .i64 el, .int .i64 eh, .int .i64 nl, .int .i64 nh] 51)), r.w.cell? ⟨w.heap.size, 24, none⟩ = some (.int .i64 cl) := fun r => (b.below r.below).cell 24
  clear b
  go_enter Tryz.func23, Tryz.ntmps23
  go_wp2
  refine wp_region_aftert 15 (by kernel_rfl) (by kernel_rfl) ?_
  simp only [List.take_succ_cons, List.take_zero, List.drop_succ_cons, List.drop_zero]
  repeat (first | (refine wpq_row rfl 51 (.tmp 2) rfl _ rfl _ 34 (fun _ hw => by obtain ⟨r, rfl⟩ := hw; exact hM.out r) Tryz.rowMach rfl ?_; simp only [Act.put, List.setIfInBounds_toArray, List.set_cons_succ, List.set_cons_zero]) | go_big_quiet_step (first | (go_at_call 33; (with_reducible refine qafter (power_c _ _ _ _ _ _ _ _ _ _ _ _ _ _ _ _ _ _ _ _ _ _ _ _ _ _ _ _ _ _ _ _ _ _ HR.out.p.s1 HR.out.p.s2 HR.out.p.s3 _))) | (go_at_call 34; (with_reducible refine qafter (level_c _ _ _ _ _ _ _ _ _ _ _ _ _ _ _ _ _ _ _ _ _ _ _ _ _ _ _ _ _ _ _ _ _ _ HR.out.l.s1 HR.out.l.s2 HR.out.l.s3 _ _ _))) | (go_at_call 35; (with_reducible refine qafter (one_c _ _))) | (go_at_call 28; (with_reducible refine qafter (ro_bound_c _ _ _ S.p _ _ _ _ _ (hRr.out _).p HP.out))) | (go_at_call 28; (with_reducible refine qafter (ro_bound_c _ _ _ S.l _ _ _ _ _ (hRr.out _).l HL.out))) | (go_at_call 47; (with_reducible refine qafter_same (F.out _)))))
  refine wpQuiet_nil ?_
  rintro _ ⟨r, rfl⟩
  have BR := (show Below w.heap.size w (w.alloc (.cells #[hx, hy, hv, gx, gy, gv, lx, ly, lv, px, py, pv, nx, ny, nv, ax, ay, av, cx, cy, cv, dx, dy, dv, .int .i64 cl, .int .i64 bu, .int .i64 wl, .int .i64 wh, .int .i64 tl, .int .i64 th, .int .i64 el, .int .i64 eh, .int .i64 nl, .int .i64 nh] 51)) from bal (Below.refl _ _) _).trans (r.below.mono (by simp))
  go_wp2
  go_ret
  exact ⟨rfl, BR⟩
end Go.Proofs.YtechkkgmdjgddaaGreat

/- Contracts: the limits of a table, package rotor. -/
namespace Go.Proofs.YtechkkgmdjgddaaGreat
open Go Go.RowKit Go.Proofs
set_option maxRecDepth 100000
set_option maxHeartbeats 4000000

theorem right1_c (n lo hi : Int) (b : Nat) (w : World) (h3 : w.cell? ⟨b, 3, none⟩ = some (.int .i64 lo)) (h4 : w.cell? ⟨b, 4, none⟩ = some (.int .i64 hi)) :
   Calls Tryz.prog 102 #[.int .i64 n, .pointer (some ⟨b, 0, none⟩)] w fun e w' => e = .returned (.bool (!inB n lo hi)) ∧ Below w.heap.size w w' := by
  cases h : inB n lo hi
  all_goals
    go_enter Tryz.func102, Tryz.ntmps102
    go_wp2_with (first | (go_at_call 80; (with_reducible refine (ro_within_c _ _ _ _).mono ?_); rintro e w1 ⟨rfl, rfl⟩))
    go_ret
    exact ⟨rfl, (by repeat' (first | exact Below.refl _ _ | assumption | refine Below.drew ?_ | refine bdn ?_ _ | refine bal ?_ _ | refine Below.setCell ?_ (by first | (simp; done) | omega | (simp; omega)) _))⟩

/-- A row with a number outside of the limits. -/
def rowOff (lo hi : Int) (xs : List Int) : Bool := (List.range xs.length).any fun i => !inB (nth xs i) lo hi
theorem cell_lt {w : World} {b o : Nat} {v : Value} (h : w.cell? ⟨b, o, none⟩ = some v) : b < w.heap.size := blk_lt h

theorem right2_c (v : Value) (xs : List Int) (lo hi : Int) (b b2 : Nat) (w : World) (hv : Ints w v xs)
    (h3 : w.cell? ⟨b, 3, none⟩ = some (.int .i64 lo)) (h4 : w.cell? ⟨b, 4, none⟩ = some (.int .i64 hi))
    (hf : w.cell? ⟨b2, 0, none⟩ = some (.func (.func 102) #[] #[.pointer (some ⟨b, 0, none⟩)])) :
   Calls Tryz.prog 103 #[v, .pointer (some ⟨b2, 0, none⟩)] w fun e w' => e = .returned (.bool (rowOff lo hi xs)) ∧ Below w.heap.size w w' := by
  obtain ⟨A, c, rfl, hc1, hc2, _, hA⟩ := hv
  have hcf := cfInt_c A xs.length c (nth xs) 102 #[.pointer (some ⟨b, 0, none⟩)] (fun i => !inB (nth xs i) lo hi) w (by omega) (enters_of Tryz.func102 (by kernel_rfl) rfl) hA
    (fun W i _ hb => right1_c (nth xs i) lo hi b W ((hb.cell (p := ⟨b, 3, none⟩) (cell_lt h3)).trans h3) ((hb.cell (p := ⟨b, 4, none⟩) (cell_lt h4)).trans h4))
  have HC := Lib.hid hcf
  clear hcf h3 h4 hA
  unfold rowOff
  generalize ((List.range xs.length).any fun i => !inB (nth xs i) lo hi) = r at *
  cases r
  all_goals
    go_enter Tryz.func103, Tryz.ntmps103
    go_wp2_with (first | (go_at_call 87; (with_reducible refine HC.out.mono ?_); rintro e w1 ⟨rfl, hb1⟩))
    go_ret
    exact ⟨rfl, hb1⟩

def offB (lo hi : Int) (V : List (List Int)) : Bool := (List.range V.length).any fun i => rowOff lo hi (nthR V i)
def rightB (T : Tbl) (lo hi : Int) : Bool := tblB T && !offB lo hi T.V

theorem rows_any (v : Value) (V : List (List Int)) (lo hi : Int) (b b2 : Nat) (w : World) (hv : Rows w v V)
    (h3 : w.cell? ⟨b, 3, none⟩ = some (.int .i64 lo)) (h4 : w.cell? ⟨b, 4, none⟩ = some (.int .i64 hi))
    (hf : w.cell? ⟨b2, 0, none⟩ = some (.func (.func 102) #[] #[.pointer (some ⟨b, 0, none⟩)])) :
   Calls Tryz.prog 89 #[v, .func (.func 103) #[] #[.pointer (some ⟨b2, 0, none⟩)]] w fun e w' => e = .returned (.bool (offB lo hi V)) ∧ Below w.heap.size w w' := by
  obtain ⟨A, c, vs, rfl, hc1, hc2, hA, hrow⟩ := hv
  exact cfRow_c A V.length c vs 103 #[.pointer (some ⟨b2, 0, none⟩)] (fun i => rowOff lo hi (nthR V i)) w (by omega) (enters_of Tryz.func103 (by kernel_rfl) rfl) hA
    (fun W i hi' hb => right2_c (vs i) (nthR V i) lo hi b b2 W ((hrow i hi').below hb) ((hb.cell (p := ⟨b, 3, none⟩) (cell_lt h3)).trans h3) ((hb.cell (p := ⟨b, 4, none⟩) (cell_lt h4)).trans h4) ((hb.cell (p := ⟨b2, 0, none⟩) (cell_lt hf)).trans hf))

theorem right_c (x y v : Value) (T : Tbl) (lo hi : Int) (w : World) (hT : TblAt w x y v T) :
   Calls Tryz.prog 78 #[.agg #[x, y, v, .int .i64 lo, .int .i64 hi]] w fun e w' => e = .returned (.bool (rightB T lo hi)) ∧ Below w.heap.size w w' := by
  have e1 := tblE_t
  have e2 := tblE_f
  have HT := Lib.hid hT
  clear hT
  unfold rightB
  cases h1 : tblB T
  · go_enter Tryz.func78, Tryz.ntmps78
    go_wp2_with (first | (go_at_call 63; (with_reducible refine (CheckTable_c _ _ _ T _ (HT.out.below (by repeat' (first | exact Below.refl _ _ | assumption | refine Below.drew ?_ | refine bdn ?_ _ | refine bal ?_ _ | refine Below.setCell ?_ (by first | (simp; done) | omega | (simp; omega)) _)))).mono ?_); rintro e w1 ⟨rfl, hb1⟩; have hB1 := bthen (show Below w.heap.size w _ from (by repeat' (first | exact Below.refl _ _ | assumption | refine Below.drew ?_ | refine bdn ?_ _ | refine bal ?_ _ | refine Below.setCell ?_ (by first | (simp; done) | omega | (simp; omega)) _))) hb1; have hz1 := hb1.size; (try simp at hz1); obtain ⟨hc1, hf1⟩ := bcell hb1; first | (have hE1 := bthen2 hE (by repeat' (first | exact Below.refl _ _ | refine Below.drew ?_ | refine bdn ?_ _ | refine bal ?_ _ | refine Below.setCell ?_ (by first | (simp; done) | omega | (simp; omega)) _)) hb1; clear hE; have hE := hE1; clear hE1; obtain ⟨hd1, hg1⟩ := bcell hE) | (have hE := hb1)))
    go_ret
    exact ⟨ret_bool (by simp), (by repeat' (first | exact Below.refl _ _ | assumption | refine Below.drew ?_ | refine bdn ?_ _ | refine bal ?_ _ | refine Below.setCell ?_ (by first | (simp; done) | omega | (simp; omega)) _))⟩
  · cases h2 : offB lo hi T.V
    all_goals
      go_enter Tryz.func78, Tryz.ntmps78
      go_wp2_with (first | (go_at_call 63; (with_reducible refine (CheckTable_c _ _ _ T _ (HT.out.below (by repeat' (first | exact Below.refl _ _ | assumption | refine Below.drew ?_ | refine bdn ?_ _ | refine bal ?_ _ | refine Below.setCell ?_ (by first | (simp; done) | omega | (simp; omega)) _)))).mono ?_); rintro e w1 ⟨rfl, hb1⟩; have hB1 := bthen (show Below w.heap.size w _ from (by repeat' (first | exact Below.refl _ _ | assumption | refine Below.drew ?_ | refine bdn ?_ _ | refine bal ?_ _ | refine Below.setCell ?_ (by first | (simp; done) | omega | (simp; omega)) _))) hb1; have hz1 := hb1.size; (try simp at hz1); obtain ⟨hc1, hf1⟩ := bcell hb1; have R1 := Lib.hid (show Blk w1 w.heap.size 98 #[x, y, v, .int .i64 lo, .int .i64 hi] from Blk.below (by repeat (first | (refine Blk.newAt _ _ _ ?_; first | rfl | (simp; done)) | refine Blk.alloc ?_ _)) hb1); have R2 := Lib.hid (show w1.cell? ⟨w.heap.size + 1, 0, none⟩ = some (.func (.func 102) #[] #[.pointer (some ⟨w.heap.size, 0, none⟩)]) from (Blk.below (show Blk _ (w.heap.size + 1) 104 #[.func (.func 102) #[] #[.pointer (some ⟨w.heap.size, 0, none⟩)]] from (by repeat (first | (refine Blk.newAt _ _ _ ?_; first | rfl | (simp; done)) | refine Blk.alloc ?_ _))) hb1).cell 0)) | (go_at_call 89; (with_reducible refine (rows_any _ T.V lo hi _ _ _ (HT.out.v.below (by repeat' (first | exact Below.refl _ _ | assumption | refine Below.drew ?_ | refine bdn ?_ _ | refine bal ?_ _ | refine Below.setCell ?_ (by first | (simp; done) | omega | (simp; omega)) _))) (R1.out.cell 3) (R1.out.cell 4) R2.out).mono ?_); rintro e w2 ⟨rfl, hb2⟩; have hB2 := bthen hB1 hb2))
      go_ret
      exact ⟨rfl, hB2⟩
end Go.Proofs.YtechkkgmdjgddaaGreat

/- Contracts: slices.Equal, package rotor's Check. -/
namespace Go.Proofs.YtechkkgmdjgddaaGreat
open Go Go.RowKit Go.Proofs
set_option maxRecDepth 100000
set_option maxHeartbeats 4000000

theorem ext_nth {xs ys : List Int} (h : xs.length = ys.length) (hk : ∀ j, j < xs.length → nth xs j = nth ys j) : xs = ys := by
  apply List.ext_getElem h
  intro i h1 h2
  have := hk i h1
  rwa [nth_getElem xs i h1, nth_getElem ys i h2] at this

theorem equal_c (v u : Value) (xs ys : List Int) (w : World) (hv : Ints w v xs) (hu : Ints w u ys) :
   Calls Tryz.prog 79 #[v, u] w fun e w' => e = .returned (.bool (decide (xs = ys))) ∧ Below w.heap.size w w' := by
  obtain ⟨A, c, rfl, hc1, hc2, _, hA⟩ := hv
  obtain ⟨A', c', rfl, hc1', hc2', _, hA'⟩ := hu
  by_cases hl : xs.length = ys.length
  · have hb : ((xs.length : Int) != (ys.length : Int)) = false := by simp [hl]
    have HL := Lib.hid hl
    rw [← hl] at hc1' hA' ⊢
    clear hl hb
    generalize hn : xs.length = n at *
    have HN := Lib.hid hn
    clear hn
    have hn9 : (n : Int) ≤ 9223372036854775807 := by omega
    have hb2 : ((n : Int) != (n : Int)) = false := by simp
    go_enter Tryz.func79, Tryz.ntmps79
    go_wp2
    go_loopw [5, 13] (fun _ s wr => ∃ k : Nat, k ≤ n ∧ s = .int .i64 k ∧ Hid (Below w.heap.size w wr) ∧ Hid (∀ j, j < k → nth xs j = nth ys j)) (fun _ i _ => n - (intOf i).toNat)
    case atStart => exact ⟨0, by omega, rfl, Below.refl _ _, fun j hj => absurd hj (by omega)⟩
    case round =>
      obtain ⟨k, hk, rfl, hB, hF⟩ := hrel
      by_cases hlt : k < n
      · obtain ⟨b, off, rfl, hb1, hc⟩ := hA (by omega)
        obtain ⟨b', off', rfl, hb1', hc'⟩ := hA' (by omega)
        have hck := (hB.out.cell (p := ⟨b, off + k, none⟩) hb1).trans (hc k hlt)
        have hck' := (hB.out.cell (p := ⟨b', off' + k, none⟩) hb1').trans (hc' k hlt)
        clear hc hA hc' hA'
        by_cases he : nth xs k = nth ys k
        · have hne : (nth xs k != nth ys k) = false := by simp [he]
          go_wp2
          go_quiet (fail)
          go_wp2
          go_roundw
          case rel => exact ⟨k + 1, by omega, by go_num, bdn hB.out _, fun j hj => by
            by_cases e : j = k
            · subst e; exact he
            · exact hF.out j (by omega)⟩
          case measure => simp [intOf]; omega
        · have hne : (nth xs k != nth ys k) = true := by simp [he]
          go_wp2
          go_quiet (fail)
          go_wp2
          go_ret
          exact ⟨ret_bool (by simp only [Bool.false_eq, decide_eq_false_iff_not]; intro e; exact he (by rw [e])), bdn hB.out _⟩
      · obtain rfl : k = n := by omega
        clear hA hA'
        go_wp2
        go_ret
        exact ⟨ret_bool (by simp only [Bool.true_eq, decide_eq_true_eq]; exact ext_nth (HN.out.trans HL.out) (fun j hj => hF.out j (by rw [← HN.out]; exact hj))), hB.out⟩
  · have hb : ((xs.length : Int) != (ys.length : Int)) = true := by simp; omega
    have hne : ¬ xs = ys := fun e => hl (by rw [e])
    go_enter Tryz.func79, Tryz.ntmps79
    go_wp2
    go_ret
    exact ⟨ret_bool (by simp [hne]), Below.refl _ _⟩
end Go.Proofs.YtechkkgmdjgddaaGreat
