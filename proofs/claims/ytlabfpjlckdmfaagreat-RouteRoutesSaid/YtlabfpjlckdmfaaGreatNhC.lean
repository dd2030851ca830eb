import Derived.Test.YtlabfpjlckdmfaaGreatNhB
import Derived.Test.YtlabfpjlckdmfaaGreatKZH
import Derived.Test.YtlabfpjlckdmfaaGreatKAW
import Derived.Test.YtlabfpjlckdmfaaGreatKAY
import Derived.Test.YtlabfpjlckdmfaaGreatKAU
import Derived.Test.YtlabfpjlckdmfaaGreatKAQ
import Derived.Test.YtlabfpjlckdmfaaGreatKAA
import Derived.Test.YtlabfpjlckdmfaaGreatKAN
set_option linter.all false
namespace Go.Proofs.YtlabfpjlckdmfaaGreat
open Go Go.RowKit Go.Proofs
set_option maxRecDepth 100000
set_option maxHeartbeats 80000000
def rbR (A : Option Addr) (n c : Nat) (F : FliD) (vX vB : Value) (tX tB : Int) (bA oA l cA i lx lb : Nat) (nB pA q1 pB pC q2 : Bool) : Nat → Value → World → Prop := fun k v _ => (([fun v => v = vB, fun v => v = .bool nB, fun v => v = .bool nB, fun v => (nB = false → v = .slice A n c), fun v => (nB = false → v = .agg #[vX, .int .i64 F.dep, .int .i64 F.fuel, .int .i64 F.burn, .int .i64 F.res]), fun v => (nB = false → v = .int .i64 tX), fun v => (nB = false → v = .slice A n c), fun v => (nB = false → v = .agg #[vB, .int .i64 F.dep, .int .i64 F.fuel, .int .i64 F.burn, .int .i64 F.res]), fun v => (nB = false → v = .int .i64 tB), fun v => (nB = false → v = .bool pA), fun v => v = .bool q1, fun v => v = .bool q1, fun v => (q1 = false → v = .slice A n c), fun v => (q1 = false → v = .agg #[vX, .int .i64 F.dep, .int .i64 F.fuel, .int .i64 F.burn, .int .i64 F.res]), fun v => (q1 = false → v = .int .i64 tX), fun v => (q1 = false → v = .slice A n c), fun v => (q1 = false → v = .agg #[vB, .int .i64 F.dep, .int .i64 F.fuel, .int .i64 F.burn, .int .i64 F.res]), fun v => (q1 = false → v = .int .i64 tB), fun v => (q1 = false → v = .bool pB), fun v => v = (bif q1 then undef else .bool pB), fun v => (q1 = false → pB = true → v = .slice (some ⟨bA, oA, none⟩) l cA), fun v => (q1 = false → pB = true → v = .int .i64 (i : Int)), fun v => (q1 = false → pB = true → v = .pointer (some ⟨bA, oA + i, none⟩)), fun v => (q1 = false → pB = true → v = vX), fun v => (q1 = false → pB = true → v = .int .i64 (lx : Int)), fun v => (q1 = false → pB = true → v = vB), fun v => (q1 = false → pB = true → v = .int .i64 (lb : Int)), fun v => (q1 = false → pB = true → v = .bool pC), fun v => (q1 = false → v = .bool q2)] : List (Value → Prop))[k]?.getD (fun _ => True)) v
theorem rbR_below {A : Option Addr} {n c : Nat} {F : FliD} {vX vB : Value} {tX tB : Int} {bA oA l cA i lx lb : Nat} {nB pA q1 pB pC q2 : Bool} (k : Nat) (v : Value) (w w' : World) (_ : Below w.heap.size w w') (h : rbR A n c F vX vB tX tB bA oA l cA i lx lb nB pA q1 pB pC q2 k v w) : rbR A n c F vX vB tX tB bA oA l cA i lx lb nB pA q1 pB pC q2 k v w' := h
def BestAt (w : World) (v : Value) (b : Option (List Nat)) : Prop := (b = none → v = .slice none 0 0) ∧ ∀ xs, b = some xs → (∃ A c, v = .slice (some A) xs.length c) ∧ SlT w v xs.length (rF xs)
theorem BestAt.below {w w' : World} {v : Value} {b : Option (List Nat)} (h : BestAt w v b) (hb : RowKit.Below w.heap.size w w') : BestAt w' v b := ⟨h.1, fun xs e => ⟨(h.2 xs e).1, (h.2 xs e).2.below hb⟩⟩
theorem BestAt.form {w : World} {v : Value} {b : Option (List Nat)} (h : BestAt w v b) : ∃ A c, v = .slice A (b.getD []).length c ∧ A.isNone = b.isNone := by
 cases b with
 | none => exact ⟨none, 0, h.1 rfl, rfl⟩
 | some xs =>
  obtain ⟨⟨A, c, e⟩, -⟩ := h.2 xs rfl
  exact ⟨some A, c, e, rfl⟩
theorem SlT.other {w w' : World} {v : Value} {n : Nat} {R : Nat → Int} {g : Nat} {cs : Array Value} {T : TypeId} (h : SlT w v n R) (hg : Blk w g T cs) (hT : T ≠ 3) (hs : w.heap.size ≤ w'.heap.size) (hk : ∀ k, k ≠ g → w'.heap[k]? = w.heap[k]?) : SlT w' v n R := by
 have hk2 : ∀ b, some b = v.ownBlock → w'.heap[b]? = w.heap[b]? := fun b e => by
  obtain ⟨cs2, hc⟩ := h.2 b e
  refine hk b fun q => ?_
  subst q
  exact blk_ne (show Blk w b 3 cs2 from hc) hg (Ne.symm hT) rfl
 refine ⟨?_, fun b e => by rw [hk2 b e]; exact h.2 b e⟩
 obtain ⟨A, c, rfl, q1, q2, hA⟩ := h.1
 refine ⟨A, c, rfl, q1, q2, fun hn => ?_⟩
 obtain ⟨b, off, rfl, hb, hc⟩ := hA hn
 refine ⟨b, off, rfl, Nat.lt_of_lt_of_le hb hs, fun i hi j hj => ?_⟩
 rw [← hc i hi j hj]
 exact World.cell?_of_block (hk2 b rfl)
theorem SlS.other {w w' : World} {v : Value} {L : List (List Nat)} {g : Nat} {cs : Array Value} {T : TypeId} (h : SlS w v L) (hg : Blk w g T cs) (hT : T ≠ 3) (hT2 : T ≠ 35) (hs : w.heap.size ≤ w'.heap.size) (hk : ∀ k, k ≠ g → w'.heap[k]? = w.heap[k]?) : SlS w' v L := by
 obtain ⟨A, c, vs, e, q1, q2, q3, q4, q5⟩ := h
 refine ⟨A, c, vs, e, q1, q2, ⟨q3.1, fun i u xs h1 h2 => (q3.2 i u xs h1 h2).other hg hT hs hk⟩, q4, fun hn => ?_⟩
 obtain ⟨b, off, e, hlt, hty, hc⟩ := q5 hn
 have hb : w'.heap[b]? = w.heap[b]? := hk b fun q => by
  subst q
  obtain ⟨cs2, hc2⟩ := hty
  exact blk_ne (show Blk w b 35 cs2 from hc2) hg (Ne.symm hT2) rfl
 exact ⟨b, off, e, Nat.lt_of_lt_of_le hlt hs, by rw [hb]; exact hty, fun i u hi => (World.cell?_of_block (a := ⟨b, off + i, none⟩) hb).trans (hc i u hi)⟩
def CellAt (w : World) (b off : Nat) (u : Value) : Prop := b < w.heap.size ∧ w.cell? ⟨b, off, none⟩ = some u
theorem CellAt.below {w w' : World} {b off : Nat} {u : Value} (h : CellAt w b off u) (hb : RowKit.Below w.heap.size w w') : CellAt w' b off u := ⟨Nat.lt_of_lt_of_le h.1 hb.size, (hb.cell (p := ⟨b, off, none⟩) h.1).trans h.2⟩
theorem BestAt.other {w w' : World} {v : Value} {b : Option (List Nat)} {g : Nat} {cs : Array Value} {T : TypeId} (h : BestAt w v b) (hg : Blk w g T cs) (hT : T ≠ 3) (hs : w.heap.size ≤ w'.heap.size) (hk : ∀ k, k ≠ g → w'.heap[k]? = w.heap[k]?) : BestAt w' v b := ⟨h.1, fun xs e => ⟨(h.2 xs e).1, (h.2 xs e).2.other hg hT hs hk⟩⟩
theorem Tryz.fliNe : 37 ≠ 3 ∧ 37 ≠ 35 := by decide
theorem FliD.betR_is {F : FliD} {lt : Tab} {bo : Option (List Nat)} {xs : List Nat} : F.betR lt bo xs = ((bo.isNone || decide (F.finR lt xs < F.finR lt (bo.getD []))) || ((F.finR lt xs == F.finR lt (bo.getD [])) && decide (xs.length < (bo.getD []).length))) := by
 cases bo with
 | none => rfl
 | some bs =>
  show (decide (F.finR lt xs < F.finR lt bs) || (decide (F.finR lt xs = F.finR lt bs) && decide (xs.length < bs.length))) = ((false || decide (F.finR lt xs < F.finR lt bs)) || (decide (F.finR lt xs = F.finR lt bs) && decide (xs.length < bs.length)))
  rw [Bool.false_or]
theorem best_form {w : World} {A : Option Addr} {l c : Nat} {R : Nat → Int} (h : SlT w (.slice A l c) l R) (hl : 0 < l) : ∃ A' c', Value.slice A l c = .slice (some A') l c' := by
 obtain ⟨⟨A2, c2, e, -, -, h2⟩, -⟩ := h
 obtain ⟨b, off, rfl, -⟩ := h2 hl
 exact ⟨_, _, e⟩
structure RrK (M : MetD) (vF vS : Value) (lw ls lc : Int) (li lb : Bool) (F : FliD) (L : List (List Nat)) (vAll : Value) (B gX : Nat) (w wr : World) (vB : Value) (b : Option (List Nat)) : Prop where
 bl : RowKit.Below B w wr
 x : Blk wr gX 29 #[.int .i64 M.places, .int .i64 M.any.a0, .int .i64 M.any.a1, .int .i64 M.any.a2, .int .i64 M.any.a3, .int .i64 M.any.a4, .int .i64 M.any.a5, .bool M.any.i, .bool M.any.s, .int .i64 M.mw, .int .i64 M.ms, .int .i64 M.mc, vF, vS]
 i : Blk wr (gX + 1) 31 #[.int .i64 lw, .int .i64 ls, .int .i64 lc, .bool li, .bool lb]
 y : ∃ vr, Blk wr (gX + 2) 37 #[vr, .int .i64 F.dep, .int .i64 F.fuel, .int .i64 F.burn, .int .i64 F.res]
 s : SlS wr vAll L
 vb : BestAt wr vB b
 hB : B ≤ gX
theorem RrK.below {M : MetD} {vF vS : Value} {lw ls lc : Int} {li lb : Bool} {F : FliD} {L : List (List Nat)} {vAll : Value} {B gX : Nat} {w wr w' : World} {vB : Value} {b : Option (List Nat)} (h : RrK M vF vS lw ls lc li lb F L vAll B gX w wr vB b) (hb : RowKit.Below wr.heap.size wr w') : RrK M vF vS lw ls lc li lb F L vAll B gX w w' vB b := by
 obtain ⟨vr, hy⟩ := h.y
 exact ⟨h.bl.trans (hb.mono (by have := h.x.lt; have := h.hB; omega)), h.x.below hb, h.i.below hb, ⟨vr, hy.below hb⟩, h.s.below hb, h.vb.below hb, h.hB⟩
theorem FliD.safe_way5 {M : MetD} {vF vS : Value} {lw ls lc : Int} {li lb : Bool} {A : Option Addr} {n c : Nat} {S : Tab} {F : FliD} {xs : List Nat} (vR : Value) (w : World) (hnm : netME M lw ls lc S n = 0) (hok : (F.wayR xs).okB M.places.toNat (lgT S n) = true) (hM : MetAt w vF vS M) (hc1 : n ≤ c) (hc2 : c ≤ 9223372036854775807) (hL : RecsAt w A n 3 (nV S)) (hR : SlI w vR xs.length (rF xs)) :
  Calls Tryz.prog 35 #[.agg #[.int .i64 M.places, .int .i64 M.any.a0, .int .i64 M.any.a1, .int .i64 M.any.a2, .int .i64 M.any.a3, .int .i64 M.any.a4, .int .i64 M.any.a5, .bool M.any.i, .bool M.any.s, .int .i64 M.mw, .int .i64 M.ms, .int .i64 M.mc, vF, vS], .agg #[.int .i64 lw, .int .i64 ls, .int .i64 lc, .bool li, .bool lb], .slice A n c, .agg #[vR, .int .i64 F.dep, .int .i64 F.fuel, .int .i64 F.burn, .int .i64 F.res]] w fun e w' => (∃ z : Int, e = .returned (.int .i64 z) ∧ (decide (0 ≤ z)) = !(F.goodR M.places.toNat (lgT S n) (timT S n M.places.toNat) (opM M lw ls lc li lb) xs)) ∧ RowKit.Below w.heap.size w w' := by
 refine (r5safe_c M vF vS lw ls lc li lb A n c S (F.wayR xs) vR w hM hc1 hc2 hL hR (nf_mk hnm hok)).mono ?_
 rintro e w1 ⟨rfl, hb⟩
 refine ⟨⟨_, rfl, ?_⟩, hb⟩
 unfold FliD.goodR
 rw [hok, Bool.true_and]
 have := prf_saf (bf := fun t => bestL ((F.wayR xs).havK (lgT S n) (timT S n M.places.toNat) (opM M lw ls lc li lb) t false M.places.toNat)) ((F.wayR xs).ticks (lgT S n)) (F.wayR xs).dep [] (FliD.nums_iff.1 (FliD.okB_iff.1 hok).1).2.1.1
 unfold FliD.prf
 rw [this]
 generalize safR _ _ _ = z
 show decide (0 ≤ z) = !(decide (z < 0))
 by_cases h : z < 0
 ·rw [decide_eq_true h, decide_eq_false (by omega)]; rfl
 ·rw [decide_eq_false h, decide_eq_true (by omega)]; rfl
def raR (vM : Value) (vN : Value) (gY : Nat) (bR oR m cR fr tg : Nat) : Nat → Value → World → Prop
 | 0, v, _ => v = vM
 | 1, v, _ => v = vN
 | 2, v, _ => v = .pointer (some ⟨gY, 0, none⟩)
 | 3, v, _ => v = .slice (some ⟨bR, oR, none⟩) m cR
 | 4, v, _ => v = .pointer (some ⟨bR, oR, none⟩)
 | 5, v, _ => v = .int .i64 (fr : Int)
 | 6, v, w => (SlT w v ([fr] : List Nat).length (rF [fr]))
 | 7, v, _ => v = .int .i64 (tg : Int)
 | _, _, _ => True
theorem raR_below {vM : Value} {vN : Value} {gY : Nat} {bR oR m cR fr tg : Nat} (k : Nat) (v : Value) (w w' : World) (hb : Below w.heap.size w w') (h : raR vM vN gY bR oR m cR fr tg k v w) : raR vM vN gY bR oR m cR fr tg k v w' := by
 unfold raR at *
 split at h <;> first | exact h | exact h.below hb
theorem r5Route_c (M : MetD) (vF vS : Value) (lw ls lc : Int) (li lb : Bool) (A : Option Addr) (n c : Nat) (S : Tab) (F : FliD) (vR : Value) (tgt : Int) (w : World) (hM : MetAt w vF vS M) (hc1 : n ≤ c) (hc2 : c ≤ 9223372036854775807) (hL : RecsAt w A n 3 (nV S)) (hR : SlI w vR F.m F.R) :
  Calls Tryz.prog 14 #[.agg #[.int .i64 M.places, .int .i64 M.any.a0, .int .i64 M.any.a1, .int .i64 M.any.a2, .int .i64 M.any.a3, .int .i64 M.any.a4, .int .i64 M.any.a5, .bool M.any.i, .bool M.any.s, .int .i64 M.mw, .int .i64 M.ms, .int .i64 M.mc, vF, vS], .agg #[.int .i64 lw, .int .i64 ls, .int .i64 lc, .bool li, .bool lb], .slice A n c, .agg #[vR, .int .i64 F.dep, .int .i64 F.fuel, .int .i64 F.burn, .int .i64 F.res], .int .i64 tgt] w fun e w' => ∃ v, e = .returned (.tuple #[v, .int .i64 (rtE (nfE (netME M lw ls lc S n) M S n F) M.places.toNat tgt (F.bestR M.places.toNat (lgT S n) (timT S n M.places.toNat) (opM M lw ls lc li lb) (rtsL M.places.toNat (lgT S n) tgt.toNat 7 [(F.R 0).toNat] (F.R 0).toNat)))]) ∧ RowKit.Below w.heap.size w w' ∧ RtOut (rtE (nfE (netME M lw ls lc S n) M S n F) M.places.toNat tgt (F.bestR M.places.toNat (lgT S n) (timT S n M.places.toNat) (opM M lw ls lc li lb) (rtsL M.places.toNat (lgT S n) tgt.toNat 7 [(F.R 0).toNat] (F.R 0).toNat))) (F.bestR M.places.toNat (lgT S n) (timT S n M.places.toNat) (opM M lw ls lc li lb) (rtsL M.places.toNat (lgT S n) tgt.toNat 7 [(F.R 0).toNat] (F.R 0).toNat)) w' v := by
 have HM := hI9 hM
 have HL := hI9 hL
 have HR := hI9 hR
 obtain ⟨AR, cR, rfl, -, -, hRc⟩ := hR
 have HRC := hI9 hRc
 have HCA := hI9 (fun w1 h1 h2 h3 => r5checkAll_c M vF vS lw ls lc li lb A n c S F (.slice AR F.m cR) w1 h1 hc1 hc2 h2 h3)
 have hnf := fun h => nfM_ok (M := M) (lw := lw) (ls := ls) (lc := lc) (S := S) (n := n) (F := F) h
 have hnn := fun h => nf_net (M := M) (lw := lw) (ls := ls) (lc := lc) (S := S) (n := n) (F := F) h
 obtain ⟨NE, hNE⟩ : ∃ q, q = nfE (netME M lw ls lc S n) M S n F := ⟨_, rfl⟩
 obtain ⟨BE, hBE⟩ : ∃ q, q = F.bestR M.places.toNat (lgT S n) (timT S n M.places.toNat) (opM M lw ls lc li lb) (rtsL M.places.toNat (lgT S n) tgt.toNat 7 [(F.R 0).toNat] (F.R 0).toNat) := ⟨_, rfl⟩
 rw [← hBE]
 rw [← hNE] at HCA hnf hnn ⊢
 obtain ⟨RE, hRE⟩ : ∃ q, q = rtE NE M.places.toNat tgt BE := ⟨_, rfl⟩
 rw [← hRE]
 have HRE := hI9 hRE
 have HNF := hI9 hnf
 have HNN := hI9 hnn
 have HBE := hI9 hBE
 clear hM hL hRc hnf hnn hNE hBE hRE
 go_enter Tryz.func14, Tryz.ntmps14
 go_upto_region 1 with fail
 have _x := frm3 w #[.int .i64 M.places, .int .i64 M.any.a0, .int .i64 M.any.a1, .int .i64 M.any.a2, .int .i64 M.any.a3, .int .i64 M.any.a4, .int .i64 M.any.a5, .bool M.any.i, .bool M.any.s, .int .i64 M.mw, .int .i64 M.ms, .int .i64 M.mc, vF, vS] 29 #[.int .i64 lw, .int .i64 ls, .int .i64 lc, .bool li, .bool lb] 31 #[.slice AR F.m cR, .int .i64 F.dep, .int .i64 F.fuel, .int .i64 F.burn, .int .i64 F.res] 37
 have HX := hI9 _x.1
 have HI := hI9 _x.2.1
 have HY := hI9 _x.2.2.1
 have HB := hI9 _x.2.2.2.1
 have zW := _x.2.2.2.2
 clear _x
 generalize World.alloc (World.alloc (World.alloc w _) _) _ = W at *
 have tok : True := trivial
 have tok2 : True := trivial
 have tok3 : True := trivial
 go_wp2_with (first | (have _t := tok; refine wpl_row rfl 29 (.tmp 5) rfl _ rfl _ 14 HX.out Tryz.rowMet rfl ?_; simp only [Act.put]; clear tok) | (have _t := tok2; refine wpl_row rfl 31 (.tmp 6) rfl _ rfl _ 5 HI.out Tryz.rowMin rfl ?_; simp only [Act.put]; clear tok2) | (have _t := tok3; refine wpl_row rfl 37 (.tmp 8) rfl _ rfl _ 5 HY.out Tryz.rowFli rfl ?_; simp only [Act.put]; clear tok3))
 refine (HCA.out _ (HM.out.below HB.out) (HL.out.below HB.out) (HR.out.below HB.out)).mono ?_
 rintro e w1 ⟨rfl, hb1⟩
 have nHX := hI9 (HX.out.below hb1)
 have nHI := hI9 (HI.out.below hb1)
 have nHY := hI9 (HY.out.below hb1)
 have nHB := hI9 (bthen HB.out hb1)
 clear HX HI HY HB hb1
 have HX := nHX
 have HI := nHI
 have HY := nHY
 have HB := nHB
 clear nHX nHI nHY nHB
 clear HCA
 by_cases h0 : NE = 0
 case neg =>
  obtain rfl : NE = RE := by rw [HRE.out]; unfold rtE; rw [if_neg h0]
  have hez : (NE != 0) = true := by simpa using h0
  have HZ := hI9 h0
  clear h0 HNF HNN HRE
  go_wp2_with (fail)
  go_ret2
  exact ⟨_, rfl, HB.out, ⟨fun h => absurd h HZ.out, fun _ => rfl⟩⟩
 subst h0
 obtain ⟨f3, f4, f5, f6, f7⟩ := HNF.out rfl
 have hnm := HNN.out rfl
 have HNM := hI9 hnm
 have x0 := HX.out.cell 0
 simp only [gtA, gtS, gtZ] at x0
 have hpw : IntKind.i64.wrap (M.places - 1) = M.places - 1 := by rw [IntKind.wrap_i64]; omega
 have HFF := hI9 (And.intro f3 (And.intro f4 (And.intro f5 (And.intro f6 f7))))
 clear f3 f4 f5 f6 f7 hnm
 go_wp2_with (fail)
 refine (r5within_c _ _ _ _).mono ?_
 rintro e w2 ⟨rfl, rfl⟩
 obtain ⟨f3, f4, f5, f6, f7⟩ := HFF.out
 cases hin : inB tgt 0 (M.places - 1) with
 | false =>
  have hre : RE = 1 := by rw [HRE.out]; unfold rtE; rw [if_pos rfl, if_neg]; intro h; rw [inB_iff.2 ⟨h.1, by omega⟩] at hin; cases hin
  subst hre
  clear hin HRE HNF HNN HFF f3 f4 f5 f6 f7 x0 hpw
  go_wp2_with (fail)
  go_ret2
  exact ⟨_, rfl, HB.out, ⟨fun h => absurd h (by decide), fun _ => rfl⟩⟩
 | true =>
 have hin2 := inB_iff.1 hin
 obtain ⟨t0, rfl⟩ : ∃ q : Nat, tgt = q := Int.eq_ofNat_of_zero_le hin2.1
 have hre : RE = (bif BE.isNone then 3 else 0) := by rw [HRE.out]; unfold rtE; rw [if_pos rfl, if_pos ⟨hin2.1, by omega⟩]; clear HRE HBE; cases BE <;> rfl
 have HRE := hI9 hre
 have hmm : 0 < F.m := (FliD.nums_iff.1 f7.1).1.1
 have hr0 : 0 ≤ F.R 0 ∧ F.R 0 < (M.places.toNat : Int) := f7.2.1.1 0 hmm
 obtain ⟨fr, hfr⟩ : ∃ q : Nat, F.R 0 = q := ⟨(F.R 0).toNat, by omega⟩
 obtain ⟨bR, oR, rfl, hbR, hcR⟩ := HRC.out hmm
 have HRJ := hI9 (fun wr (hb : RowKit.Below w1.heap.size w1 wr) => ((bthen HB.out hb).cell (p := ⟨bR, oR + 0 * 1 + 0, none⟩) hbR).trans (hcR 0 hmm 0 (by omega)))
 simp only [nL, Nat.zero_mul, Nat.add_zero, hfr] at HRJ
 have HM0 := hI9 (show (0 : Int) < (F.m : Int) by omega)
 rw [hfr] at HBE
 simp only [Int.toNat_natCast] at HBE
 obtain ⟨RL, hRL⟩ : ∃ q, q = rtsL M.places.toNat (lgT S n) t0 7 [fr] fr := ⟨_, rfl⟩
 have hRLn : RL.length ≤ 2097152 := by rw [hRL]; exact rtsL_len f4.2 7 _ _
 have HRS := hI9 (fun v w1 h1 h2 => r5Routes_c M vF vS A n c S M.places.toNat t0 hc1 hc2 f6 f3 f4.2 7 [fr] fr 0 v w1 (Nat.le_refl _) rfl rfl (by simp) (fun y hy => by rw [List.mem_singleton] at hy; omega) (by simp; omega) h1 h2)
 rw [← hRL] at HRS HBE
 have HRG := hI9 (fun xs v w1 h1 h2 => r5right_c M vF vS A n c S M.places.toNat (F.wayR xs) v w1 hc1 hc2 h1 h2 f6 f3 f4)
 have HSA := hI9 (fun xs v w1 hok h1 h2 h3 => FliD.safe_way5 (M := M) (vF := vF) (vS := vS) (lw := lw) (ls := ls) (lc := lc) (li := li) (lb := lb) (A := A) (n := n) (c := c) (S := S) (F := F) (xs := xs) v w1 HNM.out hok h1 hc1 hc2 h2 h3)
 have HEN := hI9 (fun xs v w1 (hok : (F.wayR xs).okB M.places.toNat (lgT S n) = true) h1 h2 => r5end_c A n c S M.places.toNat (F.wayR xs) v w1 hc1 hc2 h1 h2 f6 (FliD.okB_iff.1 hok))
 have hrz : (RL.length : Int) ≤ 9223372036854775807 := by omega
 clear hin hin2 hre hmm hr0 hfr hbR hcR hRL hRLn HNF HNN HFF f3 f4 f5 f6 f7 x0 hpw
 go_wp2_with (fail)
 refine wp_region_spec 8 (raR (.agg #[.int .i64 M.places, .int .i64 M.any.a0, .int .i64 M.any.a1, .int .i64 M.any.a2, .int .i64 M.any.a3, .int .i64 M.any.a4, .int .i64 M.any.a5, .bool M.any.i, .bool M.any.s, .int .i64 M.mw, .int .i64 M.ms, .int .i64 M.mc, vF, vS]) (.slice A n c) (w.heap.size + 2) bR oR F.m cR fr t0) (fun i => false) (by kernel_rfl) (by kernel_rfl) raR_below ?hop1 ?htail1
 case hop1 =>
  simp only [List.take_succ_cons, List.take_zero, allOps]
  refine ⟨?_, ?_, ?_, ?_, ?_, ?_, ?_, ?_, trivial⟩
  all_goals intro u A w1 hA hb hd
  all_goals simp only [putAll, dstOf, gtA, gtS, gtZ, Option.bind_some, Option.bind, Act.put, List.setIfInBounds_toArray, List.set_cons_succ, List.set_cons_zero] at hA; subst hA
  all_goals have HB1 := hI9 hb
  ·clear hb hd
   go_wp2_with (refine wpl_row rfl 29 (.tmp 5) rfl _ rfl _ 14 (HX.out.below HB1.out) Tryz.rowMet rfl ?_; simp only [Act.put])
   exact ⟨_, rfl, Below.refl _ _, rfl, fun h => absurd h (by decide)⟩
  ·clear hb hd
   go_wp2
   exact ⟨_, rfl, Below.refl _ _, rfl, fun h => absurd h (by decide)⟩
  ·clear hb hd
   go_wp2
   exact ⟨_, rfl, Below.refl _ _, rfl, fun h => absurd h (by decide)⟩
  ·have d2 : u 2 = _ := hd 2 (by omega) (by kernel_rfl)
   clear hb hd
   rw [d2]
   clear d2
   have y0 := (HY.out.below HB1.out).cell 0
   simp only [gtA, gtS, gtZ] at y0
   go_wp2
   exact ⟨_, rfl, Below.refl _ _, rfl, fun h => absurd h (by decide)⟩
  ·have d3 : u 3 = _ := hd 3 (by omega) (by kernel_rfl)
   clear hb hd
   rw [d3]
   clear d3
   have hm0 := HM0.out
   go_wp2
   exact ⟨_, rfl, Below.refl _ _, rfl, fun h => absurd h (by decide)⟩
  ·have d4 : u 4 = _ := hd 4 (by omega) (by kernel_rfl)
   clear hb hd
   rw [d4]
   clear d4
   have xr := HRJ.out _ HB1.out
   go_wp2
   exact ⟨_, rfl, Below.refl _ _, rfl, fun h => absurd h (by decide)⟩
  ·have d5 : u 5 = _ := hd 5 (by omega) (by kernel_rfl)
   clear hb hd
   rw [d5]
   clear d5
   go_wp2
   exact ⟨_, rfl, bal (RowKit.Below.refl _ _) _, SlT.of_owns (ys := [fr]) (owns_one _ _ _), fun h => absurd h (by decide)⟩
  ·clear hb hd
   go_wp2
   exact ⟨_, rfl, Below.refl _ _, rfl, fun h => absurd h (by decide)⟩
 case' htail1 =>
  intro u A w1 hA hb hd hf
  simp only [putAll, dstOf, gtA, gtS, gtZ, Option.bind_some, Option.bind, Act.put, List.setIfInBounds_toArray, List.set_cons_succ, List.set_cons_zero] at hA; subst hA
  have e0 : u 0 = _ := hd 0 (by omega)
  have e1 : u 1 = _ := hd 1 (by omega)
  have e2 : u 2 = _ := hd 2 (by omega)
  have e3 : u 3 = _ := hd 3 (by omega)
  have e4 : u 4 = _ := hd 4 (by omega)
  have e5 : u 5 = _ := hd 5 (by omega)
  have p6 := hd 6 (by omega)
  have e7 : u 7 = _ := hd 7 (by omega)
  first | rw [e0, e1, e2, e3, e4, e5, e7] | simp only [e0, e1, e2, e3, e4, e5, e7]
  clear e0 e1 e2 e3 e4 e5 e7
  clear hd hf
  generalize u 6 = vq at *
  have nHX := hI9 (HX.out.below hb)
  have nHI := hI9 (HI.out.below hb)
  have nHY := hI9 (HY.out.below hb)
  have nHB := hI9 (bthen HB.out hb)
  clear HX HI HY HB hb
  have HX := nHX
  have HI := nHI
  have HY := nHY
  have HB := nHB
  clear nHX nHI nHY nHB
  go_wp2_with (fail)
  refine (HRS.out vq _ (HL.out.below HB.out) p6).mono ?_
  rintro e w3 ⟨vAll, rfl, hb3, hS⟩
  clear p6 HRS HRJ HM0
  have nHX := hI9 (HX.out.below hb3)
  have nHI := hI9 (HI.out.below hb3)
  have nHY := hI9 (HY.out.below hb3)
  have nHB := hI9 (bthen HB.out hb3)
  clear HX HI HY HB hb3
  have HX := nHX
  have HI := nHI
  have HY := nHY
  have HB := nHB
  clear nHX nHI nHY nHB
  have K0 := hI9 (show RrK M vF vS lw ls lc li lb F RL vAll w.heap.size w.heap.size w w3 (.slice none 0 0) (F.bestR M.places.toNat (lgT S n) (timT S n M.places.toNat) (opM M lw ls lc li lb) (RL.take 0)) from ⟨HB.out, HX.out, HI.out, ⟨_, HY.out⟩, hS, ⟨fun _ => rfl, fun xs e => by cases e⟩, Nat.le_refl _⟩)
  obtain ⟨AS, cS, -, rfl, -⟩ := hS
  clear HX HI HY HB
  go_wp2_with (fail)
  go_loopg [14, 15] RL.length (fun gx vb2 iv wr => ∃ (k : Nat) (vb : Value), iv = .int .i64 k ∧ vb = vb2 ∧ k ≤ RL.length ∧ RL.length - k ≤ gx ∧ Hid (RrK M vF vS lw ls lc li lb F RL (.slice AS RL.length cS) w.heap.size w.heap.size w wr vb (F.bestR M.places.toNat (lgT S n) (timT S n M.places.toNat) (opM M lw ls lc li lb) (RL.take k))))
  case atStart => exact ⟨0, _, rfl, rfl, Nat.zero_le _, Nat.le_refl _, K0⟩
  case round =>
   clear K0
   obtain ⟨k, vb, rfl, rfl, hk, hgx, HK⟩ := hrel
   obtain ⟨bo, hbo⟩ : ∃ q, q = F.bestR M.places.toNat (lgT S n) (timT S n M.places.toNat) (opM M lw ls lc li lb) (RL.take k) := ⟨_, rfl⟩
   rw [← hbo] at HK
   have HBO := hI9 hbo
   clear hbo
   by_cases hlt : k < RL.length
   case neg =>
    have hkk : RL.length = k := by omega
    have hmatch : bo = BE := by rw [HBO.out, HBE.out, List.take_of_length_le (by omega)]
    obtain ⟨AB, cB, rfl, hnB⟩ := HK.out.vb.form
    subst hmatch
    cases hbo : bo with
    | none =>
     rw [hbo] at HK hnB HRE
     have hnb : AB.isNone = true := hnB
     have HB := hI9 HK.out.bl
     rw [hkk] at *
     have hnz : ¬ (k : Int) < (k : Int) := by omega
     have hre : RE = 3 := HRE.out
     subst hre
     clear hnB HBO HBE HRE
     go_wp2_with (fail)
     go_ret2
     exact ⟨_, rfl, HB.out, ⟨fun h => absurd h (by decide), fun _ => rfl⟩⟩
    | some xs =>
     rw [hbo] at HK hnB HRE
     have hnb : AB.isNone = false := hnB
     have HB := hI9 HK.out.bl
     have HV := hI9 (HK.out.vb.2 xs rfl).2.1
     rw [hkk] at *
     have hnz : ¬ (k : Int) < (k : Int) := by omega
     have hre : RE = 0 := HRE.out
     subst hre
     clear hnB HBO HBE HRE
     go_wp2_with (fail)
     go_ret2
     exact ⟨_, rfl, HB.out, ⟨fun _ => ⟨xs, rfl, HV.out⟩, fun h => absurd rfl h⟩⟩
   have hltz : (k : Int) < (RL.length : Int) := by omega
   obtain ⟨A1, c1, vs, e1, -, -, hrd, -, hcl⟩ := HK.out.s
   obtain ⟨rfl, rfl⟩ : AS = A1 ∧ cS = c1 := by cases e1; exact ⟨rfl, rfl⟩
   clear e1
   obtain ⟨bA, oA, rfl, hbA, hty, hcc⟩ := hcl (by omega)
   obtain ⟨xs, hxs⟩ : ∃ q, q = RL[k] := ⟨_, rfl⟩
   have hx1 : RL[k]? = some xs := by rw [hxs]; exact List.getElem?_eq_getElem hlt
   obtain ⟨vX, hvX⟩ : ∃ q, q = vs[k]'(by rw [hrd.1]; exact hlt) := ⟨_, rfl⟩
   have hx2 : vs[k]? = some vX := by rw [hvX]; exact List.getElem?_eq_getElem _
   have hU := hrd.2 k vX xs hx2 hx1
   have hC : CellAt wr bA (oA + k) vX := ⟨hbA, hcc k vX hx2⟩
   have hBN : F.bestR M.places.toNat (lgT S n) (timT S n M.places.toNat) (opM M lw ls lc li lb) (RL.take (k + 1)) = F.stepRt M.places.toNat (lgT S n) (timT S n M.places.toNat) (opM M lw ls lc li lb) bo xs := by
    rw [List.take_succ, hx1, HBO.out]
    exact FliD.bestR_snoc _ _ _ _ _ _ _
   have HBN := hI9 hBN
   obtain ⟨lx, hlx⟩ : ∃ q, xs.length = q := ⟨_, rfl⟩
   obtain ⟨⟨AX, cX, rfl, u1, u2, u3⟩, u4⟩ := hU
   have hU : SlT wr (.slice AX xs.length cX) xs.length (rF xs) := ⟨⟨AX, cX, rfl, u1, u2, u3⟩, u4⟩
   obtain ⟨AB, cB, rfl, hnB⟩ := HK.out.vb.form
   have HBG := hI9 (show ∀ bs, bo = some bs → F.goodR M.places.toNat (lgT S n) (timT S n M.places.toNat) (opM M lw ls lc li lb) bs = true from fun bs e => by have h := F.least_best M.places.toNat (lgT S n) (timT S n M.places.toNat) (opM M lw ls lc li lb) (RL.take k); rw [← HBO.out, e] at h; exact h.2.1)
   obtain ⟨nb, hnb⟩ : ∃ q, (bo.getD []).length = q := ⟨_, rfl⟩
   rw [hnb] at HK ⊢
   have HNL := hI9 hnb
   clear hnb
   obtain ⟨vr, hy⟩ := HK.out.y
   have HX := hI9 HK.out.x
   have HI := hI9 HK.out.i
   have HY := hI9 hy
   have hsz : ∀ p v, (wr.setCell p v).heap.size = wr.heap.size := fun p v => by simp
   have hoth : ∀ i v k, k ≠ w.heap.size + 2 → (wr.setCell ⟨w.heap.size + 2, i, none⟩ v).heap[k]? = wr.heap[k]? := fun i v k h => RowKit.Below.heap_setCell wr ⟨w.heap.size + 2, i, none⟩ v k h
   have hbne : bA ≠ w.heap.size + 2 := fun q => by
    subst q
    obtain ⟨cs2, hc2⟩ := hty
    exact blk_ne (show Blk wr (w.heap.size + 2) 35 cs2 from hc2) hy (Ne.symm Tryz.fliNe.2) rfl
   have HK2 := hI9 (show Blk (wr.setCell ⟨w.heap.size + 2, 0, none⟩ (.slice AX xs.length cX)) w.heap.size 29 #[.int .i64 M.places, .int .i64 M.any.a0, .int .i64 M.any.a1, .int .i64 M.any.a2, .int .i64 M.any.a3, .int .i64 M.any.a4, .int .i64 M.any.a5, .bool M.any.i, .bool M.any.s, .int .i64 M.mw, .int .i64 M.ms, .int .i64 M.mc, vF, vS] ∧ Blk (wr.setCell ⟨w.heap.size + 2, 0, none⟩ (.slice AX xs.length cX)) (w.heap.size + 1) 31 #[.int .i64 lw, .int .i64 ls, .int .i64 lc, .bool li, .bool lb] ∧ Blk (wr.setCell ⟨w.heap.size + 2, 0, none⟩ (.slice AX xs.length cX)) (w.heap.size + 2) 37 #[.slice AX xs.length cX, .int .i64 F.dep, .int .i64 F.fuel, .int .i64 F.burn, .int .i64 F.res] ∧ SlS (wr.setCell ⟨w.heap.size + 2, 0, none⟩ (.slice AX xs.length cX)) (.slice (some ⟨bA, oA, none⟩) RL.length cS) RL ∧ BestAt (wr.setCell ⟨w.heap.size + 2, 0, none⟩ (.slice AX xs.length cX)) (.slice AB nb cB) bo ∧ SlT (wr.setCell ⟨w.heap.size + 2, 0, none⟩ (.slice AX xs.length cX)) (.slice AX xs.length cX) xs.length (rF xs) ∧ CellAt (wr.setCell ⟨w.heap.size + 2, 0, none⟩ (.slice AX xs.length cX)) bA (oA + k) (.slice AX xs.length cX) ∧ RowKit.Below w.heap.size w (wr.setCell ⟨w.heap.size + 2, 0, none⟩ (.slice AX xs.length cX)) from
    ⟨HX.out.far' (by omega) _, HI.out.far' (by omega) _, HY.out.set_ 0 _, HK.out.s.other hy Tryz.fliNe.1 Tryz.fliNe.2 (by rw [hsz]; exact Nat.le_refl _) (hoth _ _), HK.out.vb.other hy Tryz.fliNe.1 (by rw [hsz]; exact Nat.le_refl _) (hoth _ _), hU.other hy Tryz.fliNe.1 (by rw [hsz]; exact Nat.le_refl _) (hoth _ _), ⟨by rw [hsz]; exact hbA, (World.cell?_of_block (a := ⟨bA, oA + k, none⟩) (hoth _ _ _ hbne)).trans hC.2⟩, bset HK.out.bl (by omega) _⟩)
   have y0 := HY.out.cell 0
   have yf := fun i => HY.out.frozen i
   have hc := hC.2
   simp only [gtA, gtS, gtZ] at y0
   rw [hlx] at HK2
   have HLX := hI9 hlx
   have HNB := hI9 hnB
   rw [hlx] at hc
   clear hrd hcl hcc hx1 hx2 hxs hvX hU hC hBN hlx u1 u2 u3 u4 hnB hy hsz hoth hbne HK hbA hty vs HBO
   have hiz := hltz
   have tok : True := trivial
   have tok2 : True := trivial
   have tok3 : True := trivial
   have tokG : True := trivial
   go_wp2_with (first | (have _t := tokG; generalize hWX : World.setCell wr _ _ = w2; clear tokG; have k2 := HK2.out; rw [hWX] at k2; clear hWX HK2 y0 yf hc HX HI HY; obtain ⟨kX, kI, kY, kS, kV, kU, kC, kB⟩ := k2; have HX := hI9 kX; have HI := hI9 kI; have HY := hI9 kY; have HS := hI9 kS; have HV := hI9 kV; have HU := hI9 kU; have HC := hI9 kC; have HB := hI9 kB; clear kX kI kY kS kV kU kC kB) | (have _t := tok; refine wpl_row rfl 29 (.tmp 5) rfl _ rfl _ 14 HX.out Tryz.rowMet rfl ?_; simp only [Act.put]; clear tok) | (have _t := tok3; refine wpl_row rfl 37 (.tmp 8) rfl _ rfl _ 5 HY.out Tryz.rowFli rfl ?_; simp only [Act.put]; clear tok3))
   refine (HRG.out xs (.slice AX lx cX) _ (HL.out.below HB.out) (show SlI _ (.slice AX lx cX) xs.length (rF xs) by rw [HLX.out]; exact HU.out.1)).mono ?_
   rintro e w3 ⟨rfl, hb3⟩
   have nHX := hI9 (HX.out.below hb3)
   have nHI := hI9 (HI.out.below hb3)
   have nHY := hI9 (HY.out.below hb3)
   have nHS := hI9 (HS.out.below hb3)
   have nHV := hI9 (HV.out.below hb3)
   have nHU := hI9 (HU.out.below hb3)
   have nHC := hI9 (HC.out.below hb3)
   have nHB := hI9 (bthen HB.out hb3)
   clear HX HI HY HS HV HU HC HB hb3
   have HX := nHX
   have HI := nHI
   have HY := nHY
   have HS := nHS
   have HV := nHV
   have HU := nHU
   have HC := nHC
   have HB := nHB
   clear nHX nHI nHY nHS nHV nHU nHC nHB
   obtain ⟨okX, hok⟩ : ∃ q, q = (F.wayR xs).okB M.places.toNat (lgT S n) := ⟨_, rfl⟩
   rw [← hok]
   have HOK := hI9 hok
   clear hok
   cases okX with
   | false =>
    have NKK := hI9 (show RrK M vF vS lw ls lc li lb F RL (.slice (some ⟨bA, oA, none⟩) RL.length cS) w.heap.size w.heap.size w w3 (.slice AB nb cB) (F.bestR M.places.toNat (lgT S n) (timT S n M.places.toNat) (opM M lw ls lc li lb) (RL.take (k + 1))) from ⟨HB.out, HX.out, HI.out, ⟨_, HY.out⟩, HS.out, by rw [HBN.out]; unfold FliD.stepRt FliD.goodR; rw [← HOK.out, Bool.false_and, Bool.false_and, if_neg (by decide)]; exact HV.out, Nat.le_refl _⟩)
    clear HX HI HY HS HV HU HC HB
    go_wp2_with (fail)
    go_roundg (RL.length - (k + 1))
    case measure => omega
    case rel => exact ⟨k + 1, _, by first | rfl | go_num | (congr 1; omega), rfl, by omega, Nat.le_refl _, NKK⟩
   | true =>
   have tok : True := trivial
   have tok2 : True := trivial
   have tok3 : True := trivial
   go_wp2_with (first | (have _t := tok; refine wpl_row_g ?_ 29 (.tmp 5) rfl _ rfl _ 14 HX.out Tryz.rowMet rfl ?_; (focus rfl); simp only [Act.put]; clear tok) | (have _t := tok2; refine wpl_row_g ?_ 31 (.tmp 6) rfl _ rfl _ 5 HI.out Tryz.rowMin rfl ?_; (focus rfl); simp only [Act.put]; clear tok2) | (have _t := tok3; refine wpl_row_g ?_ 37 (.tmp 8) rfl _ rfl _ 5 HY.out Tryz.rowFli rfl ?_; (focus rfl); simp only [Act.put]; clear tok3))
   refine (HSA.out xs (.slice AX lx cX) _ HOK.out.symm (HM.out.below HB.out) (HL.out.below HB.out) (show SlI _ (.slice AX lx cX) xs.length (rF xs) by rw [HLX.out]; exact HU.out.1)).mono ?_
   rintro e w4 ⟨⟨z, rfl, hz⟩, hb4⟩
   have nHX := hI9 (HX.out.below hb4)
   have nHI := hI9 (HI.out.below hb4)
   have nHY := hI9 (HY.out.below hb4)
   have nHS := hI9 (HS.out.below hb4)
   have nHV := hI9 (HV.out.below hb4)
   have nHU := hI9 (HU.out.below hb4)
   have nHC := hI9 (HC.out.below hb4)
   have nHB := hI9 (bthen HB.out hb4)
   clear HX HI HY HS HV HU HC HB hb4
   have HX := nHX
   have HI := nHI
   have HY := nHY
   have HS := nHS
   have HV := nHV
   have HU := nHU
   have HC := nHC
   have HB := nHB
   clear nHX nHI nHY nHS nHV nHU nHC nHB
   obtain ⟨GD, hGD⟩ : ∃ q, q = F.goodR M.places.toNat (lgT S n) (timT S n M.places.toNat) (opM M lw ls lc li lb) xs := ⟨_, rfl⟩
   rw [← hGD] at hz
   have HGD := hI9 hGD
   clear hGD
   cases GD with
   | false =>
    have hz0 : 0 ≤ z := by simpa using hz
    have NKK := hI9 (show RrK M vF vS lw ls lc li lb F RL (.slice (some ⟨bA, oA, none⟩) RL.length cS) w.heap.size w.heap.size w w4 (.slice AB nb cB) (F.bestR M.places.toNat (lgT S n) (timT S n M.places.toNat) (opM M lw ls lc li lb) (RL.take (k + 1))) from ⟨HB.out, HX.out, HI.out, ⟨_, HY.out⟩, HS.out, by rw [HBN.out]; unfold FliD.stepRt; rw [← HGD.out, Bool.false_and, if_neg (by decide)]; exact HV.out, Nat.le_refl _⟩)
    clear HX HI HY HS HV HU HC HB hz
    go_wp2_with (fail)
    go_roundg (RL.length - (k + 1))
    case measure => omega
    case rel => exact ⟨k + 1, _, by first | rfl | go_num | (congr 1; omega), rfl, by omega, Nat.le_refl _, NKK⟩
   | true =>
   have hz0 : ¬ 0 ≤ z := by simpa using hz
   clear hz
   have tok3 : True := trivial
   have tokS : True := trivial
   have hw4 := HY.out.lt
   go_wp2_with (first | (have _t := tok3; refine wpl_row rfl 37 (.tmp 8) rfl _ rfl _ 5 HY.out Tryz.rowFli rfl ?_; simp only [Act.put]; clear tok3) | (have _t := tokS; refine wpl_store_newR rfl 37 (.tmp 16) (.tmp 64) rfl #[.slice AX lx cX, .int .i64 F.dep, .int .i64 F.fuel, .int .i64 F.burn, .int .i64 F.res] _ _ rfl ?_ rfl Tryz.sizeFli rfl (by simp [Value.oneCell']) ?_; (focus (simp; done)); simp only [Act.put]; clear tokS))
   have nX := HX.out.alloc (.cells #[.slice AB nb cB, .int .i64 F.dep, .int .i64 F.fuel, .int .i64 F.burn, .int .i64 F.res] 37)
   have nI := HI.out.alloc (.cells #[.slice AB nb cB, .int .i64 F.dep, .int .i64 F.fuel, .int .i64 F.burn, .int .i64 F.res] 37)
   have nY := HY.out.alloc (.cells #[.slice AB nb cB, .int .i64 F.dep, .int .i64 F.fuel, .int .i64 F.burn, .int .i64 F.res] 37)
   have nG := Blk.new w4 37 #[.slice AB nb cB, .int .i64 F.dep, .int .i64 F.fuel, .int .i64 F.burn, .int .i64 F.res]
   have hbA := bal (RowKit.Below.refl w4.heap.size w4) (.cells #[.slice AB nb cB, .int .i64 F.dep, .int .i64 F.fuel, .int .i64 F.burn, .int .i64 F.res] 37)
   have nS := HS.out.below hbA
   have nV := HV.out.below hbA
   have nU := HU.out.below hbA
   have nC := HC.out.below hbA
   have nB := bal HB.out (.cells #[.slice AB nb cB, .int .i64 F.dep, .int .i64 F.fuel, .int .i64 F.burn, .int .i64 F.res] 37)
   clear HX HI HY HS HV HU HC HB hbA
   generalize World.alloc w4 _ = w5 at *
   generalize w4.heap.size = gG at *
   have HX := hI9 nX
   have HI := hI9 nI
   have HY := hI9 nY
   have HG := hI9 nG
   have HS := hI9 nS
   have HV := hI9 nV
   have HU := hI9 nU
   have HC := hI9 nC
   have HB := hI9 nB
   clear nX nI nY nG nS nV nU nC nB hw4 hz0
   obtain ⟨nB, hnB⟩ : ∃ q, bo.isNone = q := ⟨_, rfl⟩
   obtain ⟨tX, htX⟩ : ∃ q, F.finR (lgT S n) xs = q := ⟨_, rfl⟩
   obtain ⟨tB, htB⟩ : ∃ q, F.finR (lgT S n) (bo.getD []) = q := ⟨_, rfl⟩
   have hbet := FliD.betR_is (F := F) (lt := lgT S n) (bo := bo) (xs := xs)
   rw [hnB, htX, htB, HLX.out, HNL.out] at hbet
   rw [hnB] at HNB
   obtain ⟨pA, hpA⟩ : ∃ q, q = decide (tX < tB) := ⟨_, rfl⟩
   obtain ⟨pB, hpB⟩ : ∃ q, q = (tX == tB) := ⟨_, rfl⟩
   obtain ⟨pC, hpC⟩ : ∃ q, q = decide (lx < nb) := ⟨_, rfl⟩
   obtain ⟨q1, hq1⟩ : ∃ q, q = (nB || pA) := ⟨_, rfl⟩
   obtain ⟨q2, hq2⟩ : ∃ q, q = (pB && pC) := ⟨_, rfl⟩
   rw [← hpA, ← hpB, ← hpC, ← hq1, ← hq2] at hbet
   have HZB := hI9 (And.intro hpA (And.intro hpB (And.intro hpC (And.intro hq1 hq2))))
   have HNQ := hI9 (show q1 = false → nB = false from fun h => by rw [h] at hq1; exact (Bool.or_eq_false_iff.1 hq1.symm).1)
   have HSX := hI9 (show SlI w5 (.slice AX lx cX) lx (rF xs) from HU.out.1)
   have hbs : nB = false → bo = some (bo.getD []) := fun h => by cases hb : bo with
    | none => rw [hb] at hnB; rw [← hnB] at h; cases h
    | some bs => rfl
   have HSB := hI9 (show nB = false → ∀ w1, RowKit.Below w5.heap.size w5 w1 → SlI w1 (.slice AB nb cB) nb (rF (bo.getD [])) from fun h w1 hb => by have := ((HV.out.below hb).2 _ (hbs h)).2.1; rw [HNL.out] at this; exact this)
   have HEX := hI9 (show ∀ w1, RecsAt w1 A n 3 (nV S) → SlI w1 (.slice AX lx cX) lx (rF xs) → Calls Tryz.prog 36 #[.slice A n c, .agg #[.slice AX lx cX, .int .i64 F.dep, .int .i64 F.fuel, .int .i64 F.burn, .int .i64 F.res]] w1 fun e w' => e = .returned (.int .i64 tX) ∧ RowKit.Below w1.heap.size w1 w' from fun w1 h1 h2 => by rw [← htX]; exact HEN.out xs _ w1 HOK.out.symm h1 (show SlI w1 (.slice AX lx cX) xs.length (rF xs) by rw [HLX.out]; exact h2))
   have HEB := hI9 (show nB = false → ∀ w1, RecsAt w1 A n 3 (nV S) → SlI w1 (.slice AB nb cB) nb (rF (bo.getD [])) → Calls Tryz.prog 36 #[.slice A n c, .agg #[.slice AB nb cB, .int .i64 F.dep, .int .i64 F.fuel, .int .i64 F.burn, .int .i64 F.res]] w1 fun e w' => e = .returned (.int .i64 tB) ∧ RowKit.Below w1.heap.size w1 w' from fun h w1 h1 h2 => by rw [← htB]; exact HEN.out (bo.getD []) _ w1 (Bool.and_eq_true_iff.1 (HBG.out _ (hbs h))).1 h1 (show SlI w1 (.slice AB nb cB) (bo.getD []).length (rF (bo.getD [])) by rw [HNL.out]; exact h2))
   have HIZ := hI9 hltz
   have HXP := hI9 (show 0 < lx by rw [← HLX.out]; exact (FliD.nums_iff.1 (FliD.okB_iff.1 HOK.out.symm).1).1.1)
   have HBET := hI9 hbet
   clear hbs hnB htX htB hbet hpA hpB hpC hq1 hq2 hltz hiz
   refine wp_region_spec 29 (rbR A n c F (.slice AX lx cX) (.slice AB nb cB) tX tB bA oA RL.length cS k lx nb nB pA q1 pB pC q2) (fun i => false) (by kernel_rfl) (by kernel_rfl) rbR_below ?hop2 ?htail2
   case hop2 =>
    simp only [List.take_succ_cons, List.take_zero, allOps]
    refine ⟨?_, ?_, ?_, ?_, ?_, ?_, ?_, ?_, ?_, ?_, ?_, ?_, ?_, ?_, ?_, ?_, ?_, ?_, ?_, ?_, ?_, ?_, ?_, ?_, ?_, ?_, ?_, ?_, ?_, trivial⟩
    ·as_aux_lemma =>
      intro u A w1 hA hb hd
      simp only [putAll, dstOf, gtA, gtS, gtZ, Option.bind_some, Option.bind, Act.put, List.setIfInBounds_toArray, List.set_cons_succ, List.set_cons_zero] at hA; subst hA
      have HB1 := hI9 hb
      clear hb hd
      go_wp2
      exact ⟨_, rfl, Below.refl _ _, rfl, fun h => absurd h (by decide)⟩
    ·as_aux_lemma =>
      intro u A w1 hA hb hd
      simp only [putAll, dstOf, gtA, gtS, gtZ, Option.bind_some, Option.bind, Act.put, List.setIfInBounds_toArray, List.set_cons_succ, List.set_cons_zero] at hA; subst hA
      have HB1 := hI9 hb
      have d0 : u 0 = _ := hd 0 (by omega) (by kernel_rfl)
      clear hb hd
      rw [d0]
      clear d0
      go_wp2
      exact ⟨_, rfl, RowKit.Below.refl _ _, congrArg Value.bool HNB.out, fun h => absurd h (by decide)⟩
    ·as_aux_lemma =>
      intro u A w1 hA hb hd
      simp only [putAll, dstOf, gtA, gtS, gtZ, Option.bind_some, Option.bind, Act.put, List.setIfInBounds_toArray, List.set_cons_succ, List.set_cons_zero] at hA; subst hA
      have HB1 := hI9 hb
      have d1 : u 1 = _ := hd 1 (by omega) (by kernel_rfl)
      clear hb hd
      rw [d1]
      clear d1
      go_wp2
      exact ⟨_, rfl, Below.refl _ _, rfl, fun h => absurd h (by decide)⟩
    ·as_aux_lemma =>
      intro u A w1 hA hb hd
      simp only [putAll, dstOf, gtA, gtS, gtZ, Option.bind_some, Option.bind, Act.put, List.setIfInBounds_toArray, List.set_cons_succ, List.set_cons_zero] at hA; subst hA
      have HB1 := hI9 hb
      have d2 : u 2 = _ := hd 2 (by omega) (by kernel_rfl)
      clear hb hd
      rw [d2]
      clear d2
      rcases nB with _ | _
      ·(focus (go_wp2; exact ⟨_, rfl, RowKit.Below.refl _ _, fun _ => rfl, fun h => absurd h (by decide)⟩))
      ·(focus (go_wp2; exact ⟨_, rfl, RowKit.Below.refl _ _, (fun h => by cases h), fun h => absurd h (by decide)⟩))
      done
    ·as_aux_lemma =>
      intro u A w1 hA hb hd
      simp only [putAll, dstOf, gtA, gtS, gtZ, Option.bind_some, Option.bind, Act.put, List.setIfInBounds_toArray, List.set_cons_succ, List.set_cons_zero] at hA; subst hA
      have HB1 := hI9 hb
      have d2 : u 2 = _ := hd 2 (by omega) (by kernel_rfl)
      clear hb hd
      rw [d2]
      clear d2
      rcases nB with _ | _
      ·(focus ((go_wp2_with (refine wpl_row_g ?_ 37 (.tmp 8) rfl _ rfl _ 5 (HY.out.below HB1.out) Tryz.rowFli rfl ?_; (focus rfl); simp only [Act.put])); exact ⟨_, rfl, RowKit.Below.refl _ _, fun _ => rfl, fun h => absurd h (by decide)⟩))
      ·(focus (go_wp2; exact ⟨_, rfl, RowKit.Below.refl _ _, (fun h => by cases h), fun h => absurd h (by decide)⟩))
      done
    ·as_aux_lemma =>
      intro u A w1 hA hb hd
      simp only [putAll, dstOf, gtA, gtS, gtZ, Option.bind_some, Option.bind, Act.put, List.setIfInBounds_toArray, List.set_cons_succ, List.set_cons_zero] at hA; subst hA
      have HB1 := hI9 hb
      have d2 : u 2 = _ := hd 2 (by omega) (by kernel_rfl)
      have d3 := hd 3 (by omega) (by kernel_rfl)
      have d4 := hd 4 (by omega) (by kernel_rfl)
      clear hb hd
      rw [d2]
      clear d2
      rcases nB with _ | _
      ·(focus (have e3 : u 3 = _ := d3 rfl; rw [e3]; clear e3; have e4 : u 4 = _ := d4 rfl; rw [e4]; clear e4; (go_wp2_with (go_at_call 36; (with_reducible refine (HEX.out _ (HL.out.below (bthen HB.out HB1.out)) (HSX.out.below HB1.out)).mono ?_); rintro e w2 ⟨rfl, hb2⟩)); exact ⟨_, rfl, hb2, fun _ => rfl, fun h => absurd h (by decide)⟩))
      ·(focus (go_wp2; exact ⟨_, rfl, RowKit.Below.refl _ _, (fun h => by cases h), fun h => absurd h (by decide)⟩))
      done
    ·as_aux_lemma =>
      intro u A w1 hA hb hd
      simp only [putAll, dstOf, gtA, gtS, gtZ, Option.bind_some, Option.bind, Act.put, List.setIfInBounds_toArray, List.set_cons_succ, List.set_cons_zero] at hA; subst hA
      have HB1 := hI9 hb
      have d2 : u 2 = _ := hd 2 (by omega) (by kernel_rfl)
      clear hb hd
      rw [d2]
      clear d2
      rcases nB with _ | _
      ·(focus (go_wp2; exact ⟨_, rfl, RowKit.Below.refl _ _, fun _ => rfl, fun h => absurd h (by decide)⟩))
      ·(focus (go_wp2; exact ⟨_, rfl, RowKit.Below.refl _ _, (fun h => by cases h), fun h => absurd h (by decide)⟩))
      done
    ·as_aux_lemma =>
      intro u A w1 hA hb hd
      simp only [putAll, dstOf, gtA, gtS, gtZ, Option.bind_some, Option.bind, Act.put, List.setIfInBounds_toArray, List.set_cons_succ, List.set_cons_zero] at hA; subst hA
      have HB1 := hI9 hb
      have d2 : u 2 = _ := hd 2 (by omega) (by kernel_rfl)
      clear hb hd
      rw [d2]
      clear d2
      rcases nB with _ | _
      ·(focus ((go_wp2_with (refine wpl_row_g ?_ 37 (.tmp 16) rfl _ rfl _ 5 (HG.out.below HB1.out) Tryz.rowFli rfl ?_; (focus rfl); simp only [Act.put])); exact ⟨_, rfl, RowKit.Below.refl _ _, fun _ => rfl, fun h => absurd h (by decide)⟩))
      ·(focus (go_wp2; exact ⟨_, rfl, RowKit.Below.refl _ _, (fun h => by cases h), fun h => absurd h (by decide)⟩))
      done
    ·as_aux_lemma =>
      intro u A w1 hA hb hd
      simp only [putAll, dstOf, gtA, gtS, gtZ, Option.bind_some, Option.bind, Act.put, List.setIfInBounds_toArray, List.set_cons_succ, List.set_cons_zero] at hA; subst hA
      have HB1 := hI9 hb
      have d2 : u 2 = _ := hd 2 (by omega) (by kernel_rfl)
      have d5 := hd 5 (by omega) (by kernel_rfl)
      have d6 := hd 6 (by omega) (by kernel_rfl)
      have d7 := hd 7 (by omega) (by kernel_rfl)
      clear hb hd
      rw [d2]
      clear d2
      rcases nB with _ | _
      ·(focus (have e6 : u 6 = _ := d6 rfl; rw [e6]; clear e6; have e7 : u 7 = _ := d7 rfl; rw [e7]; clear e7; (go_wp2_with (go_at_call 36; (with_reducible refine (HEB.out rfl _ (HL.out.below (bthen HB.out HB1.out)) (HSB.out rfl _ HB1.out)).mono ?_); rintro e w2 ⟨rfl, hb2⟩)); exact ⟨_, rfl, hb2, fun _ => rfl, fun h => absurd h (by decide)⟩))
      ·(focus (go_wp2; exact ⟨_, rfl, RowKit.Below.refl _ _, (fun h => by cases h), fun h => absurd h (by decide)⟩))
      done
    ·as_aux_lemma =>
      intro u A w1 hA hb hd
      simp only [putAll, dstOf, gtA, gtS, gtZ, Option.bind_some, Option.bind, Act.put, List.setIfInBounds_toArray, List.set_cons_succ, List.set_cons_zero] at hA; subst hA
      have HB1 := hI9 hb
      have d2 : u 2 = _ := hd 2 (by omega) (by kernel_rfl)
      have d5 := hd 5 (by omega) (by kernel_rfl)
      have d8 := hd 8 (by omega) (by kernel_rfl)
      clear hb hd
      rw [d2]
      clear d2
      rcases nB with _ | _
      ·(focus (have e5 : u 5 = _ := d5 rfl; rw [e5]; clear e5; have e8 : u 8 = _ := d8 rfl; rw [e8]; clear e8; go_wp2; exact ⟨_, rfl, RowKit.Below.refl _ _, fun _ => congrArg Value.bool HZB.out.1.symm, fun h => absurd h (by decide)⟩))
      ·(focus (go_wp2; exact ⟨_, rfl, RowKit.Below.refl _ _, (fun h => by cases h), fun h => absurd h (by decide)⟩))
      done
    ·as_aux_lemma =>
      intro u A w1 hA hb hd
      simp only [putAll, dstOf, gtA, gtS, gtZ, Option.bind_some, Option.bind, Act.put, List.setIfInBounds_toArray, List.set_cons_succ, List.set_cons_zero] at hA; subst hA
      have HB1 := hI9 hb
      have d2 : u 2 = _ := hd 2 (by omega) (by kernel_rfl)
      have d9 := hd 9 (by omega) (by kernel_rfl)
      clear hb hd
      rw [d2]
      clear d2
      rcases nB with _ | _
      ·(focus (have e9 : u 9 = _ := d9 rfl; rw [e9]; clear e9; go_wp2; exact ⟨_, rfl, RowKit.Below.refl _ _, congrArg Value.bool HZB.out.2.2.2.1.symm, fun h => absurd h (by decide)⟩))
      ·(focus (go_wp2; exact ⟨_, rfl, RowKit.Below.refl _ _, congrArg Value.bool HZB.out.2.2.2.1.symm, fun h => absurd h (by decide)⟩))
      done
    ·as_aux_lemma =>
      intro u A w1 hA hb hd
      simp only [putAll, dstOf, gtA, gtS, gtZ, Option.bind_some, Option.bind, Act.put, List.setIfInBounds_toArray, List.set_cons_succ, List.set_cons_zero] at hA; subst hA
      have HB1 := hI9 hb
      have d8 := hd 8 (by omega) (by kernel_rfl)
      have d10 : u 10 = _ := hd 10 (by omega) (by kernel_rfl)
      clear hb hd
      rw [d10]
      clear d10
      go_wp2
      exact ⟨_, rfl, Below.refl _ _, rfl, fun h => absurd h (by decide)⟩
    ·as_aux_lemma =>
      intro u A w1 hA hb hd
      simp only [putAll, dstOf, gtA, gtS, gtZ, Option.bind_some, Option.bind, Act.put, List.setIfInBounds_toArray, List.set_cons_succ, List.set_cons_zero] at hA; subst hA
      have HB1 := hI9 hb
      have d11 : u 11 = _ := hd 11 (by omega) (by kernel_rfl)
      clear hb hd
      rw [d11]
      clear d11
      rcases q1 with _ | _
      ·(focus (go_wp2; exact ⟨_, rfl, RowKit.Below.refl _ _, fun _ => rfl, fun h => absurd h (by decide)⟩))
      ·(focus (go_wp2; exact ⟨_, rfl, RowKit.Below.refl _ _, (fun h => by cases h), fun h => absurd h (by decide)⟩))
      done
    ·as_aux_lemma =>
      intro u A w1 hA hb hd
      simp only [putAll, dstOf, gtA, gtS, gtZ, Option.bind_some, Option.bind, Act.put, List.setIfInBounds_toArray, List.set_cons_succ, List.set_cons_zero] at hA; subst hA
      have HB1 := hI9 hb
      have d11 : u 11 = _ := hd 11 (by omega) (by kernel_rfl)
      clear hb hd
      rw [d11]
      clear d11
      rcases q1 with _ | _
      ·(focus ((go_wp2_with (refine wpl_row_g ?_ 37 (.tmp 8) rfl _ rfl _ 5 (HY.out.below HB1.out) Tryz.rowFli rfl ?_; (focus rfl); simp only [Act.put])); exact ⟨_, rfl, RowKit.Below.refl _ _, fun _ => rfl, fun h => absurd h (by decide)⟩))
      ·(focus (go_wp2; exact ⟨_, rfl, RowKit.Below.refl _ _, (fun h => by cases h), fun h => absurd h (by decide)⟩))
      done
    ·as_aux_lemma =>
      intro u A w1 hA hb hd
      simp only [putAll, dstOf, gtA, gtS, gtZ, Option.bind_some, Option.bind, Act.put, List.setIfInBounds_toArray, List.set_cons_succ, List.set_cons_zero] at hA; subst hA
      have HB1 := hI9 hb
      have d11 : u 11 = _ := hd 11 (by omega) (by kernel_rfl)
      have d12 := hd 12 (by omega) (by kernel_rfl)
      have d13 := hd 13 (by omega) (by kernel_rfl)
      clear hb hd
      rw [d11]
      clear d11
      rcases q1 with _ | _
      ·(focus (have e12 : u 12 = _ := d12 rfl; rw [e12]; clear e12; have e13 : u 13 = _ := d13 rfl; rw [e13]; clear e13; (go_wp2_with (go_at_call 36; (with_reducible refine (HEX.out _ (HL.out.below (bthen HB.out HB1.out)) (HSX.out.below HB1.out)).mono ?_); rintro e w2 ⟨rfl, hb2⟩)); exact ⟨_, rfl, hb2, fun _ => rfl, fun h => absurd h (by decide)⟩))
      ·(focus (go_wp2; exact ⟨_, rfl, RowKit.Below.refl _ _, (fun h => by cases h), fun h => absurd h (by decide)⟩))
      done
    ·as_aux_lemma =>
      intro u A w1 hA hb hd
      simp only [putAll, dstOf, gtA, gtS, gtZ, Option.bind_some, Option.bind, Act.put, List.setIfInBounds_toArray, List.set_cons_succ, List.set_cons_zero] at hA; subst hA
      have HB1 := hI9 hb
      have d11 : u 11 = _ := hd 11 (by omega) (by kernel_rfl)
      clear hb hd
      rw [d11]
      clear d11
      rcases q1 with _ | _
      ·(focus (go_wp2; exact ⟨_, rfl, RowKit.Below.refl _ _, fun _ => rfl, fun h => absurd h (by decide)⟩))
      ·(focus (go_wp2; exact ⟨_, rfl, RowKit.Below.refl _ _, (fun h => by cases h), fun h => absurd h (by decide)⟩))
      done
    ·as_aux_lemma =>
      intro u A w1 hA hb hd
      simp only [putAll, dstOf, gtA, gtS, gtZ, Option.bind_some, Option.bind, Act.put, List.setIfInBounds_toArray, List.set_cons_succ, List.set_cons_zero] at hA; subst hA
      have HB1 := hI9 hb
      have d11 : u 11 = _ := hd 11 (by omega) (by kernel_rfl)
      clear hb hd
      rw [d11]
      clear d11
      rcases q1 with _ | _
      ·(focus ((go_wp2_with (refine wpl_row_g ?_ 37 (.tmp 16) rfl _ rfl _ 5 (HG.out.below HB1.out) Tryz.rowFli rfl ?_; (focus rfl); simp only [Act.put])); exact ⟨_, rfl, RowKit.Below.refl _ _, fun _ => rfl, fun h => absurd h (by decide)⟩))
      ·(focus (go_wp2; exact ⟨_, rfl, RowKit.Below.refl _ _, (fun h => by cases h), fun h => absurd h (by decide)⟩))
      done
    ·as_aux_lemma =>
      intro u A w1 hA hb hd
      simp only [putAll, dstOf, gtA, gtS, gtZ, Option.bind_some, Option.bind, Act.put, List.setIfInBounds_toArray, List.set_cons_succ, List.set_cons_zero] at hA; subst hA
      have HB1 := hI9 hb
      have d11 : u 11 = _ := hd 11 (by omega) (by kernel_rfl)
      have d14 := hd 14 (by omega) (by kernel_rfl)
      have d15 := hd 15 (by omega) (by kernel_rfl)
      have d16 := hd 16 (by omega) (by kernel_rfl)
      clear hb hd
      rw [d11]
      clear d11
      rcases q1 with _ | _
      ·(focus (have e15 : u 15 = _ := d15 rfl; rw [e15]; clear e15; have e16 : u 16 = _ := d16 rfl; rw [e16]; clear e16; (go_wp2_with (go_at_call 36; (with_reducible refine (HEB.out (HNQ.out rfl) _ (HL.out.below (bthen HB.out HB1.out)) (HSB.out (HNQ.out rfl) _ HB1.out)).mono ?_); rintro e w2 ⟨rfl, hb2⟩)); exact ⟨_, rfl, hb2, fun _ => rfl, fun h => absurd h (by decide)⟩))
      ·(focus (go_wp2; exact ⟨_, rfl, RowKit.Below.refl _ _, (fun h => by cases h), fun h => absurd h (by decide)⟩))
      done
    ·as_aux_lemma =>
      intro u A w1 hA hb hd
      simp only [putAll, dstOf, gtA, gtS, gtZ, Option.bind_some, Option.bind, Act.put, List.setIfInBounds_toArray, List.set_cons_succ, List.set_cons_zero] at hA; subst hA
      have HB1 := hI9 hb
      have d11 : u 11 = _ := hd 11 (by omega) (by kernel_rfl)
      have d14 := hd 14 (by omega) (by kernel_rfl)
      have d17 := hd 17 (by omega) (by kernel_rfl)
      clear hb hd
      rw [d11]
      clear d11
      rcases q1 with _ | _
      ·(focus (have e14 : u 14 = _ := d14 rfl; rw [e14]; clear e14; have e17 : u 17 = _ := d17 rfl; rw [e17]; clear e17; go_wp2; exact ⟨_, rfl, RowKit.Below.refl _ _, fun _ => congrArg Value.bool HZB.out.2.1.symm, fun h => absurd h (by decide)⟩))
      ·(focus (go_wp2; exact ⟨_, rfl, RowKit.Below.refl _ _, (fun h => by cases h), fun h => absurd h (by decide)⟩))
      done
    ·as_aux_lemma =>
      intro u A w1 hA hb hd
      simp only [putAll, dstOf, gtA, gtS, gtZ, Option.bind_some, Option.bind, Act.put, List.setIfInBounds_toArray, List.set_cons_succ, List.set_cons_zero] at hA; subst hA
      have HB1 := hI9 hb
      have d11 : u 11 = _ := hd 11 (by omega) (by kernel_rfl)
      have d17 := hd 17 (by omega) (by kernel_rfl)
      have d18 := hd 18 (by omega) (by kernel_rfl)
      clear hb hd
      rw [d11]
      clear d11
      rcases q1 with _ | _
      ·(focus (have e18 : u 18 = _ := d18 rfl; rw [e18]; clear e18; go_wp2; exact ⟨_, rfl, RowKit.Below.refl _ _, rfl, fun h => absurd h (by decide)⟩))
      ·(focus (go_wp2; exact ⟨_, rfl, RowKit.Below.refl _ _, rfl, fun h => absurd h (by decide)⟩))
      done
    ·as_aux_lemma =>
      intro u A w1 hA hb hd
      simp only [putAll, dstOf, gtA, gtS, gtZ, Option.bind_some, Option.bind, Act.put, List.setIfInBounds_toArray, List.set_cons_succ, List.set_cons_zero] at hA; subst hA
      have HB1 := hI9 hb
      have d19 : u 19 = _ := hd 19 (by omega) (by kernel_rfl)
      clear hb hd
      rw [d19]
      clear d19
      rcases q1 with _ | _
      ·(simp only [cond_false]; rcases pB with _ | _; (focus (go_wp2; exact ⟨_, rfl, RowKit.Below.refl _ _, (fun _ h => by cases h), fun h => absurd h (by decide)⟩)); (focus (go_wp2; exact ⟨_, rfl, RowKit.Below.refl _ _, fun _ _ => rfl, fun h => absurd h (by decide)⟩)))
      ·(simp only [cond_true]; (go_wp2; exact ⟨_, rfl, RowKit.Below.refl _ _, (fun h => by cases h), fun h => absurd h (by decide)⟩))
      done
    ·as_aux_lemma =>
      intro u A w1 hA hb hd
      simp only [putAll, dstOf, gtA, gtS, gtZ, Option.bind_some, Option.bind, Act.put, List.setIfInBounds_toArray, List.set_cons_succ, List.set_cons_zero] at hA; subst hA
      have HB1 := hI9 hb
      have d19 : u 19 = _ := hd 19 (by omega) (by kernel_rfl)
      clear hb hd
      rw [d19]
      clear d19
      rcases q1 with _ | _
      ·(simp only [cond_false]; rcases pB with _ | _; (focus (go_wp2; exact ⟨_, rfl, RowKit.Below.refl _ _, (fun _ h => by cases h), fun h => absurd h (by decide)⟩)); (focus (go_wp2; exact ⟨_, rfl, RowKit.Below.refl _ _, fun _ _ => rfl, fun h => absurd h (by decide)⟩)))
      ·(simp only [cond_true]; (go_wp2; exact ⟨_, rfl, RowKit.Below.refl _ _, (fun h => by cases h), fun h => absurd h (by decide)⟩))
      done
    ·as_aux_lemma =>
      intro u A w1 hA hb hd
      simp only [putAll, dstOf, gtA, gtS, gtZ, Option.bind_some, Option.bind, Act.put, List.setIfInBounds_toArray, List.set_cons_succ, List.set_cons_zero] at hA; subst hA
      have HB1 := hI9 hb
      have d19 : u 19 = _ := hd 19 (by omega) (by kernel_rfl)
      have d20 := hd 20 (by omega) (by kernel_rfl)
      have d21 := hd 21 (by omega) (by kernel_rfl)
      clear hb hd
      rw [d19]
      clear d19
      rcases q1 with _ | _
      ·(simp only [cond_false]; rcases pB with _ | _; (focus (go_wp2; exact ⟨_, rfl, RowKit.Below.refl _ _, (fun _ h => by cases h), fun h => absurd h (by decide)⟩)); (focus (have e20 : u 20 = _ := d20 rfl rfl; rw [e20]; clear e20; have e21 : u 21 = _ := d21 rfl rfl; rw [e21]; clear e21; have hiz := HIZ.out; go_wp2; exact ⟨_, rfl, RowKit.Below.refl _ _, fun _ _ => rfl, fun h => absurd h (by decide)⟩)))
      ·(simp only [cond_true]; (go_wp2; exact ⟨_, rfl, RowKit.Below.refl _ _, (fun h => by cases h), fun h => absurd h (by decide)⟩))
      done
    ·as_aux_lemma =>
      intro u A w1 hA hb hd
      simp only [putAll, dstOf, gtA, gtS, gtZ, Option.bind_some, Option.bind, Act.put, List.setIfInBounds_toArray, List.set_cons_succ, List.set_cons_zero] at hA; subst hA
      have HB1 := hI9 hb
      have d19 : u 19 = _ := hd 19 (by omega) (by kernel_rfl)
      have d22 := hd 22 (by omega) (by kernel_rfl)
      clear hb hd
      rw [d19]
      clear d19
      rcases q1 with _ | _
      ·(simp only [cond_false]; rcases pB with _ | _; (focus (go_wp2; exact ⟨_, rfl, RowKit.Below.refl _ _, (fun _ h => by cases h), fun h => absurd h (by decide)⟩)); (focus (have e22 : u 22 = _ := d22 rfl rfl; rw [e22]; clear e22; have xr := (HC.out.below HB1.out).2; go_wp2; exact ⟨_, rfl, RowKit.Below.refl _ _, fun _ _ => rfl, fun h => absurd h (by decide)⟩)))
      ·(simp only [cond_true]; (go_wp2; exact ⟨_, rfl, RowKit.Below.refl _ _, (fun h => by cases h), fun h => absurd h (by decide)⟩))
      done
    ·as_aux_lemma =>
      intro u A w1 hA hb hd
      simp only [putAll, dstOf, gtA, gtS, gtZ, Option.bind_some, Option.bind, Act.put, List.setIfInBounds_toArray, List.set_cons_succ, List.set_cons_zero] at hA; subst hA
      have HB1 := hI9 hb
      have d19 : u 19 = _ := hd 19 (by omega) (by kernel_rfl)
      have d23 := hd 23 (by omega) (by kernel_rfl)
      clear hb hd
      rw [d19]
      clear d19
      rcases q1 with _ | _
      ·(simp only [cond_false]; rcases pB with _ | _; (focus (go_wp2; exact ⟨_, rfl, RowKit.Below.refl _ _, (fun _ h => by cases h), fun h => absurd h (by decide)⟩)); (focus (have e23 : u 23 = _ := d23 rfl rfl; rw [e23]; clear e23; go_wp2; exact ⟨_, rfl, RowKit.Below.refl _ _, fun _ _ => rfl, fun h => absurd h (by decide)⟩)))
      ·(simp only [cond_true]; (go_wp2; exact ⟨_, rfl, RowKit.Below.refl _ _, (fun h => by cases h), fun h => absurd h (by decide)⟩))
      done
    ·as_aux_lemma =>
      intro u A w1 hA hb hd
      simp only [putAll, dstOf, gtA, gtS, gtZ, Option.bind_some, Option.bind, Act.put, List.setIfInBounds_toArray, List.set_cons_succ, List.set_cons_zero] at hA; subst hA
      have HB1 := hI9 hb
      have d19 : u 19 = _ := hd 19 (by omega) (by kernel_rfl)
      clear hb hd
      rw [d19]
      clear d19
      rcases q1 with _ | _
      ·(simp only [cond_false]; rcases pB with _ | _; (focus (go_wp2; exact ⟨_, rfl, RowKit.Below.refl _ _, (fun _ h => by cases h), fun h => absurd h (by decide)⟩)); (focus (go_wp2; exact ⟨_, rfl, RowKit.Below.refl _ _, fun _ _ => rfl, fun h => absurd h (by decide)⟩)))
      ·(simp only [cond_true]; (go_wp2; exact ⟨_, rfl, RowKit.Below.refl _ _, (fun h => by cases h), fun h => absurd h (by decide)⟩))
      done
    ·as_aux_lemma =>
      intro u A w1 hA hb hd
      simp only [putAll, dstOf, gtA, gtS, gtZ, Option.bind_some, Option.bind, Act.put, List.setIfInBounds_toArray, List.set_cons_succ, List.set_cons_zero] at hA; subst hA
      have HB1 := hI9 hb
      have d19 : u 19 = _ := hd 19 (by omega) (by kernel_rfl)
      have d25 := hd 25 (by omega) (by kernel_rfl)
      clear hb hd
      rw [d19]
      clear d19
      rcases q1 with _ | _
      ·(simp only [cond_false]; rcases pB with _ | _; (focus (go_wp2; exact ⟨_, rfl, RowKit.Below.refl _ _, (fun _ h => by cases h), fun h => absurd h (by decide)⟩)); (focus (have e25 : u 25 = _ := d25 rfl rfl; rw [e25]; clear e25; go_wp2; exact ⟨_, rfl, RowKit.Below.refl _ _, fun _ _ => rfl, fun h => absurd h (by decide)⟩)))
      ·(simp only [cond_true]; (go_wp2; exact ⟨_, rfl, RowKit.Below.refl _ _, (fun h => by cases h), fun h => absurd h (by decide)⟩))
      done
    ·as_aux_lemma =>
      intro u A w1 hA hb hd
      simp only [putAll, dstOf, gtA, gtS, gtZ, Option.bind_some, Option.bind, Act.put, List.setIfInBounds_toArray, List.set_cons_succ, List.set_cons_zero] at hA; subst hA
      have HB1 := hI9 hb
      have d19 : u 19 = _ := hd 19 (by omega) (by kernel_rfl)
      have d24 := hd 24 (by omega) (by kernel_rfl)
      have d26 := hd 26 (by omega) (by kernel_rfl)
      clear hb hd
      rw [d19]
      clear d19
      rcases q1 with _ | _
      ·(simp only [cond_false]; rcases pB with _ | _; (focus (go_wp2; exact ⟨_, rfl, RowKit.Below.refl _ _, (fun _ h => by cases h), fun h => absurd h (by decide)⟩)); (focus (have e24 : u 24 = _ := d24 rfl rfl; rw [e24]; clear e24; have e26 : u 26 = _ := d26 rfl rfl; rw [e26]; clear e26; go_wp2; exact ⟨_, rfl, RowKit.Below.refl _ _, fun _ _ => congrArg Value.bool HZB.out.2.2.1.symm, fun h => absurd h (by decide)⟩)))
      ·(simp only [cond_true]; (go_wp2; exact ⟨_, rfl, RowKit.Below.refl _ _, (fun h => by cases h), fun h => absurd h (by decide)⟩))
      done
    ·as_aux_lemma =>
      intro u A w1 hA hb hd
      simp only [putAll, dstOf, gtA, gtS, gtZ, Option.bind_some, Option.bind, Act.put, List.setIfInBounds_toArray, List.set_cons_succ, List.set_cons_zero] at hA; subst hA
      have HB1 := hI9 hb
      have d11 : u 11 = _ := hd 11 (by omega) (by kernel_rfl)
      have d19 : u 19 = _ := hd 19 (by omega) (by kernel_rfl)
      have d27 := hd 27 (by omega) (by kernel_rfl)
      clear hb hd
      rw [d11, d19]
      clear d11 d19
      rcases q1 with _ | _
      ·(simp only [cond_false]; rcases pB with _ | _; (focus (go_wp2; exact ⟨_, rfl, RowKit.Below.refl _ _, fun _ => congrArg Value.bool HZB.out.2.2.2.2.symm, fun h => absurd h (by decide)⟩)); (focus (have e27 : u 27 = _ := d27 rfl rfl; rw [e27]; clear e27; go_wp2; exact ⟨_, rfl, RowKit.Below.refl _ _, fun _ => congrArg Value.bool HZB.out.2.2.2.2.symm, fun h => absurd h (by decide)⟩)))
      ·(simp only [cond_true]; (go_wp2; exact ⟨_, rfl, RowKit.Below.refl _ _, (fun h => by cases h), fun h => absurd h (by decide)⟩))
      done
   case' htail2 =>
    intro u A w1 hA hb hd hf
    simp only [putAll, dstOf, gtA, gtS, gtZ, Option.bind_some, Option.bind, Act.put, List.setIfInBounds_toArray, List.set_cons_succ, List.set_cons_zero] at hA; subst hA
    have e0 : u 0 = _ := hd 0 (by omega)
    have e1 : u 1 = _ := hd 1 (by omega)
    have e2 : u 2 = _ := hd 2 (by omega)
    have p3 := hd 3 (by omega)
    have p4 := hd 4 (by omega)
    have p5 := hd 5 (by omega)
    have p6 := hd 6 (by omega)
    have p7 := hd 7 (by omega)
    have p8 := hd 8 (by omega)
    have p9 := hd 9 (by omega)
    have e10 : u 10 = _ := hd 10 (by omega)
    have e11 : u 11 = _ := hd 11 (by omega)
    have p12 := hd 12 (by omega)
    have p13 := hd 13 (by omega)
    have p14 := hd 14 (by omega)
    have p15 := hd 15 (by omega)
    have p16 := hd 16 (by omega)
    have p17 := hd 17 (by omega)
    have p18 := hd 18 (by omega)
    have e19 : u 19 = _ := hd 19 (by omega)
    have p20 := hd 20 (by omega)
    have p21 := hd 21 (by omega)
    have p22 := hd 22 (by omega)
    have p23 := hd 23 (by omega)
    have p24 := hd 24 (by omega)
    have p25 := hd 25 (by omega)
    have p26 := hd 26 (by omega)
    have p27 := hd 27 (by omega)
    have p28 := hd 28 (by omega)
    first | rw [e0, e1, e2, e10, e11, e19] | simp only [e0, e1, e2, e10, e11, e19]
    clear e0 e1 e2 e10 e11 e19
    clear hd hf
    have nHX := hI9 (HX.out.below hb)
    have nHI := hI9 (HI.out.below hb)
    have nHY := hI9 (HY.out.below hb)
    have nHS := hI9 (HS.out.below hb)
    have nHV := hI9 (HV.out.below hb)
    have nHU := hI9 (HU.out.below hb)
    have nHC := hI9 (HC.out.below hb)
    have nHB := hI9 (bthen HB.out hb)
    clear HX HI HY HS HV HU HC HB hb
    have HX := nHX
    have HI := nHI
    have HY := nHY
    have HS := nHS
    have HV := nHV
    have HU := nHU
    have HC := nHC
    have HB := nHB
    clear nHX nHI nHY nHS nHV nHU nHC nHB
    have NSAME := hI9 (show (q1 || q2) = false → RrK M vF vS lw ls lc li lb F RL (.slice (some ⟨bA, oA, none⟩) RL.length cS) w.heap.size w.heap.size w w1 (.slice AB nb cB) (F.bestR M.places.toNat (lgT S n) (timT S n M.places.toNat) (opM M lw ls lc li lb) (RL.take (k + 1))) from fun h => ⟨HB.out, HX.out, HI.out, ⟨_, HY.out⟩, HS.out, by rw [HBN.out]; unfold FliD.stepRt; rw [HBET.out, h, Bool.and_false, if_neg (by decide)]; exact HV.out, Nat.le_refl _⟩)
    have NBET := hI9 (show (q1 || q2) = true → RrK M vF vS lw ls lc li lb F RL (.slice (some ⟨bA, oA, none⟩) RL.length cS) w.heap.size w.heap.size w w1 (.slice AX lx cX) (F.bestR M.places.toNat (lgT S n) (timT S n M.places.toNat) (opM M lw ls lc li lb) (RL.take (k + 1))) from fun h => ⟨HB.out, HX.out, HI.out, ⟨_, HY.out⟩, HS.out, by rw [HBN.out]; unfold FliD.stepRt; rw [HBET.out, h, ← HGD.out, Bool.and_true, if_pos rfl]; exact ⟨fun q => (by cases q), fun zs q => by cases q; rw [HLX.out]; exact ⟨best_form HU.out HXP.out, HU.out⟩⟩, Nat.le_refl _⟩)
    clear HBN HBET HGD HOK HBG HV HU HS HX HI HY HB p3 p4 p5 p6 p7 p8 p9 p12 p13 p14 p15 p16 p17 p18 p20 p21 p22 p23 p24 p25 p26 p27
    have hc := HC.out.2
    have hiz := HIZ.out
    rcases q1 with _ | _
    case true =>
     have NKK := hI9 (NBET.out rfl)
     clear NSAME NBET p28
     go_wp2_with (fail)
     go_roundg (RL.length - (k + 1))
     case measure => omega
     case rel => exact ⟨k + 1, _, by first | rfl | go_num | (congr 1; omega), rfl, by omega, Nat.le_refl _, NKK⟩
    rw [p28 rfl]
    rcases q2 with _ | _
    case true =>
     have NKK := hI9 (NBET.out rfl)
     clear NSAME NBET p28
     go_wp2_with (fail)
     go_roundg (RL.length - (k + 1))
     case measure => omega
     case rel => exact ⟨k + 1, _, by first | rfl | go_num | (congr 1; omega), rfl, by omega, Nat.le_refl _, NKK⟩
    have NKK := hI9 (NSAME.out rfl)
    clear NSAME NBET p28
    go_wp2_with (fail)
    go_roundg (RL.length - (k + 1))
    case measure => omega
    case rel => exact ⟨k + 1, _, by first | rfl | go_num | (congr 1; omega), rfl, by omega, Nat.le_refl _, NKK⟩
end Go.Proofs.YtlabfpjlckdmfaaGreat
