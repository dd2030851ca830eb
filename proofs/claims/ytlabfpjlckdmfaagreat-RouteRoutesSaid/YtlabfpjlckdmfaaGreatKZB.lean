/- Texts joined: KZB. -/
import Derived.Test.YtlabfpjlckdmfaaGreatKAI
import Derived.Test.YtlabfpjlckdmfaaGreatKAJ
import Derived.Test.YtlabfpjlckdmfaaGreatKAM
set_option linter.all false
namespace Go.Proofs.YtlabfpjlckdmfaaGreat
open Go Go.RowKit Go.Proofs
set_option maxRecDepth 100000
set_option maxHeartbeats 8000000
def legsBad (M : MetD) (S : Tab) (n : Nat) : Bool := decide (20 < n) || (List.range n).any fun k => lgBad M.places (S k 0) (S k 1) (S k 2)
theorem legs_ok {M : MetD} {S : Tab} {n P : Nat} (hP : M.places = P) (h : legsBad M S n = false) : n ≤ 20 ∧ NetOk P S n := by
 unfold legsBad at h
 rw [Bool.or_eq_false_iff, decide_eq_false_iff_not] at h
 have h2 := List.any_eq_false.1 h.2
 have h3 : ∀ k, k < n → (0 ≤ S k 0 ∧ S k 0 < P) ∧ (0 ≤ S k 1 ∧ S k 1 < P) ∧ S k 0 ≠ S k 1 ∧ 1 ≤ S k 2 ∧ S k 2 ≤ 200 := fun k hk => by
  have := h2 k (List.mem_range.2 hk)
  unfold lgBad at this
  simp only [Bool.or_eq_true, not_or, Bool.not_eq_true', Bool.not_eq_false, decide_eq_true_eq, inB_iff] at this
  omega
 exact ⟨by omega, ⟨fun k hk => (h3 k hk).1, fun k hk => (h3 k hk).2.1, fun k hk => (h3 k hk).2.2.1, fun k hk => (h3 k hk).2.2.2⟩⟩
structure NeK (M : MetD) (vF vS : Value) (P gX gN gL gT cL cT : Nat) (rL rT : Nat → Nat) (loL hiL loT hiT : Nat) (lt tt : Tab) (w wr : World) : Prop where
 b : RowKit.Below w.heap.size w wr
 x : Blk wr gX 29 #[.int .i64 M.places, .int .i64 M.any.a0, .int .i64 M.any.a1, .int .i64 M.any.a2, .int .i64 M.any.a3, .int .i64 M.any.a4, .int .i64 M.any.a5, .bool M.any.i, .bool M.any.s, .int .i64 M.mw, .int .i64 M.ms, .int .i64 M.mc, vF, vS]
 n : Blk wr gN 74 #[.int .i64 M.places, .int .i64 M.any.a0, .int .i64 M.any.a1, .int .i64 M.any.a2, .int .i64 M.any.a3, .int .i64 M.any.a4, .int .i64 M.any.a5, .bool M.any.i, .bool M.any.s, .int .i64 M.mw, .int .i64 M.ms, .int .i64 M.mc, vF, vS, .slice (some ⟨gL, 0, none⟩) P cL, .slice (some ⟨gT, 0, none⟩) P cT]
 l : Sq wr 3 loL hiL gL rL P lt
 t : Sq wr 3 loT hiT gT rT P tt
 o : w.heap.size ≤ loL ∧ hiL ≤ loT
theorem blk_ne {w : World} {g k : Nat} {T U : TypeId} {cs us : Array Value} (h : Blk w g T cs) (h2 : Blk w k U us) (hne : T ≠ U) : g ≠ k := fun e => by
 subst e
 have : some (Obj.cells cs T (0, 0)) = some (Obj.cells us U (0, 0)) := h.symm.trans h2
 injection this with this
 injection this with _ h3
 exact hne h3
theorem Sq.ne {w : World} {T U : TypeId} {lo hi g n k : Nat} {r : Nat → Nat} {t : Tab} {us : Array Value} (h : Sq w T lo hi g r n t) (hb : Blk w k U us) {i : Nat} (hi : i < n) (hne : U ≠ T) : k ≠ r i := by
 obtain ⟨cs, q1, -⟩ := h.b i hi
 exact blk_ne hb q1 hne
theorem Sq.lower {w : World} {T : TypeId} {lo lo' hi g n : Nat} {r : Nat → Nat} {t : Tab} (h : Sq w T lo hi g r n t) (hl : lo' ≤ lo) : Sq w T lo' hi g r n t :=
 ⟨⟨Nat.le_trans hl h.gl.1, h.gl.2⟩, fun i hi => ⟨Nat.le_trans hl (h.rl i hi).1, (h.rl i hi).2⟩, h.d, h.o, h.b⟩
theorem NeK.below {M : MetD} {vF vS : Value} {P gX gN gL gT cL cT : Nat} {rL rT : Nat → Nat} {loL hiL loT hiT : Nat} {lt tt : Tab} {w wr w2 : World} (h : NeK M vF vS P gX gN gL gT cL cT rL rT loL hiL loT hiT lt tt w wr) (hb : RowKit.Below wr.heap.size wr w2) : NeK M vF vS P gX gN gL gT cL cT rL rT loL hiL loT hiT lt tt w w2 :=
 ⟨bthen h.b hb, h.x.below hb, h.n.below hb, h.l.below hb, h.t.below hb, h.o⟩
theorem NeK.shT {M : MetD} {vF vS : Value} {P gX gN gL gT cL cT : Nat} {rL rT : Nat → Nat} {loL hiL loT hiT : Nat} {lt tt : Tab} {w wr w2 : World} (h : NeK M vF vS P gX gN gL gT cL cT rL rT loL hiL loT hiT lt tt w wr) {a b : Nat} (ha : a < P) (x : Int) (hw : w2 = shW wr (rT a) b (tt a b) x) : NeK M vF vS P gX gN gL gT cL cT rL rT loL hiL loT hiT lt (stpT tt a b x) w w2 := by
 subst hw
 obtain ⟨o1, o2⟩ := h.o
 have q := h.t.rl a ha
 have l2 := h.l.gl
 exact ⟨Below.sh h.b (by omega) _ _ _, h.x.sh (h.t.ne h.x ha (by decide)) _ _ _, h.n.sh (h.t.ne h.n ha (by decide)) _ _ _, h.l.shFar (by omega) _ _ _, h.t.sh ha x, h.o⟩
theorem NeK.shL {M : MetD} {vF vS : Value} {P gX gN gL gT cL cT : Nat} {rL rT : Nat → Nat} {loL hiL loT hiT : Nat} {lt tt : Tab} {w wr w2 : World} (h : NeK M vF vS P gX gN gL gT cL cT rL rT loL hiL loT hiT lt tt w wr) {a b : Nat} (ha : a < P) (x : Int) (hw : w2 = shW wr (rL a) b (lt a b) x) : NeK M vF vS P gX gN gL gT cL cT rL rT loL hiL loT hiT (stpT lt a b x) tt w w2 := by
 subst hw
 obtain ⟨o1, o2⟩ := h.o
 have q := h.l.rl a ha
 have l2 := h.t.gl
 exact ⟨Below.sh h.b (by omega) _ _ _, h.x.sh (h.l.ne h.x ha (by decide)) _ _ _, h.n.sh (h.l.ne h.n ha (by decide)) _ _ _, h.l.sh ha x, h.t.shFar (by omega) _ _ _, h.o⟩
theorem NeK.setT {k : Nat} {M : MetD} {vF vS : Value} {P gX gN gL gT cL cT : Nat} {rL rT : Nat → Nat} {loL hiL loT hiT : Nat} {lt tt : Tab} {w wr w2 : World} (h : NeK M vF vS P gX gN gL gT cL cT rL rT loL hiL loT hiT lt (dgK tt k) w wr) (hk : k < P) (hw : w2 = wr.setCell ⟨rT k, k, none⟩ (.int .i64 0)) : NeK M vF vS P gX gN gL gT cL cT rL rT loL hiL loT hiT lt (dgK tt (k + 1)) w w2 := by
 subst hw
 obtain ⟨o1, o2⟩ := h.o
 have q := h.t.rl k hk
 have l2 := h.l.gl
 exact ⟨bset h.b (by omega) _, h.x.far' (h.t.ne h.x hk (by decide)) _, h.n.far' (h.t.ne h.n hk (by decide)) _, h.l.far (by omega) _, dgK_succ tt k ▸ h.t.set_ hk 0, h.o⟩
def NetAt (w : World) (v : Value) (M : MetD) (vF vS : Value) (P : Nat) (lt tt : Tab) : Prop :=
 ∃ gN gL gT cL cT rL rT loL hiL loT hiT, v = .pointer (some ⟨gN, 0, none⟩) ∧ Blk w gN 74 #[.int .i64 M.places, .int .i64 M.any.a0, .int .i64 M.any.a1, .int .i64 M.any.a2, .int .i64 M.any.a3, .int .i64 M.any.a4, .int .i64 M.any.a5, .bool M.any.i, .bool M.any.s, .int .i64 M.mw, .int .i64 M.ms, .int .i64 M.mc, vF, vS, .slice (some ⟨gL, 0, none⟩) P cL, .slice (some ⟨gT, 0, none⟩) P cT] ∧ Sq w 3 loL hiL gL rL P lt ∧ Sq w 3 loT hiT gT rT P tt
theorem NetAt.below {w w' : World} {v : Value} {M : MetD} {vF vS : Value} {P : Nat} {lt tt : Tab} (h : NetAt w v M vF vS P lt tt) (hb : RowKit.Below w.heap.size w w') : NetAt w' v M vF vS P lt tt := by
 obtain ⟨gN, gL, gT, cL, cT, rL, rT, loL, hiL, loT, hiT, e, h1, h2, h3⟩ := h
 exact ⟨gN, gL, gT, cL, cT, rL, rT, loL, hiL, loT, hiT, e, h1.below hb, h2.below hb, h3.below hb⟩
def SqV (B P : Nat) (v : Value) (w : World) : Prop := ∃ g c r hi, v = .slice (some ⟨g, 0, none⟩) P c ∧ P ≤ c ∧ c ≤ 9223372036854775807 ∧ Sq w 3 B hi g r P (fun _ _ => -1)
theorem SqV.below {B P : Nat} {v : Value} {w w' : World} (h : SqV B P v w) (hb : RowKit.Below w.heap.size w w') : SqV B P v w' := by
 obtain ⟨g, c, r, hi, e, q1, q2, h⟩ := h
 exact ⟨g, c, r, hi, e, q1, q2, h.below hb⟩
def SqVV (B P : Nat) (v v2 : Value) (w : World) : Prop := ∃ g c r hi g2 c2 r2 lo2 hi2, v = .slice (some ⟨g, 0, none⟩) P c ∧ v2 = .slice (some ⟨g2, 0, none⟩) P c2 ∧ hi ≤ lo2 ∧ Sq w 3 B hi g r P (fun _ _ => -1) ∧ Sq w 3 lo2 hi2 g2 r2 P (fun _ _ => -1)
theorem SqVV.below {B P : Nat} {v v2 : Value} {w w' : World} (h : SqVV B P v v2 w) (hb : RowKit.Below w.heap.size w w') : SqVV B P v v2 w' := by
 obtain ⟨g, c, r, hi, g2, c2, r2, lo2, hi2, e, e2, q, h, h2⟩ := h
 exact ⟨g, c, r, hi, g2, c2, r2, lo2, hi2, e, e2, q, h.below hb, h2.below hb⟩
def nnRel (B P : Nat) (k i : Nat) (x y : Value) (w : World) : Prop := i = 6 → k = 3 → SqVV B P x y w
theorem nnRel_below {B P : Nat} (k i : Nat) (x y : Value) (w w' : World) (hb : RowKit.Below w.heap.size w w') (h : nnRel B P k i x y w) : nnRel B P k i x y w' := fun h1 h2 => (h h1 h2).below hb
def nnR (gX B P : Nat) (m : Value) : Nat → Value → World → Prop
 | 0, v, _ => v = m
 | 1, v, _ => v = .pointer (some ⟨gX, 0, none⟩)
 | 2, v, _ => v = .int .i64 (P : Int)
 | 3, v, w => SqV B P v w
 | 4, v, _ => v = .pointer (some ⟨gX, 0, none⟩)
 | 5, v, _ => v = .int .i64 (P : Int)
 | 6, v, w => SqV B P v w
 | _, _, _ => True
theorem nnR_below {gX B P : Nat} {m : Value} (k : Nat) (v : Value) (w w' : World) (hb : Below w.heap.size w w') (h : nnR gX B P m k v w) : nnR gX B P m k v w' := by
 unfold nnR at *
 split at h <;> first | exact h | exact SqV.below h hb
def NetRes (E : Int) (M : MetD) (vF vS : Value) (P : Nat) (lt tt : Tab) (v : Value) (w : World) : Prop := E = 0 → NetAt w v M vF vS P lt tt
def netE (M : MetD) (S : Tab) (n : Nat) : Int := if M.err = 0 then (if legsBad M S n then 50 else 0) else M.err
def nnO (gl gX : Nat) (m mi : Value) (b : Bool) (E : Int) : Nat → Value → World → Prop
 | 0, v, _ => v = m
 | 1, v, _ => v = .pointer (some ⟨gl, 0, none⟩)
 | 2, v, _ => v = .pointer (some ⟨gl, 0, none⟩)
 | 3, v, _ => v = mi
 | 4, v, _ => v = .tuple #[.bool b, .int .i64 E]
 | 5, v, _ => v = .tuple #[.bool b, .int .i64 E]
 | 6, v, _ => v = .bool b
 | 7, v, _ => v = .int .i64 E
 | _, _, _ => True
theorem nnO_below {gl gX : Nat} {m mi : Value} {b : Bool} {E : Int} (k : Nat) (v : Value) (w w' : World) (hb : Below w.heap.size w w') (h : nnO gl gX m mi b E k v w) : nnO gl gX m mi b E k v w' := by
 unfold nnO at *
 split at h <;> first | exact h
def netME (M : MetD) (lw ls lc : Int) (S : Tab) (n : Nat) : Int := if M.err = 0 then (if opE M lw ls lc 0 0 = 0 then (if legsBad M S n then 50 else 0) else opE M lw ls lc 0 0) else M.err
theorem netM_c (M : MetD) (vF vS : Value) (gl : Nat) (lw ls lc : Int) (li lt : Bool) (A : Option Addr) (n c : Nat) (S : Tab) (w : World) (hM : MetAt w vF vS M) (hl : Blk w gl 31 #[.int .i64 lw, .int .i64 ls, .int .i64 lc, .bool li, .bool lt]) (hc1 : n ≤ c) (hc2 : c ≤ 9223372036854775807) (hL : RecsAt w A n 3 (nV S)) :
  Calls Tryz.prog 24 #[.agg #[.int .i64 M.places, .int .i64 M.any.a0, .int .i64 M.any.a1, .int .i64 M.any.a2, .int .i64 M.any.a3, .int .i64 M.any.a4, .int .i64 M.any.a5, .bool M.any.i, .bool M.any.s, .int .i64 M.mw, .int .i64 M.ms, .int .i64 M.mc, vF, vS], .pointer (some ⟨gl, 0, none⟩), .slice A n c] w fun e w' => ∃ v, e = .returned (.tuple #[v, .int .i64 (netME M lw ls lc S n)]) ∧ RowKit.Below w.heap.size w w' ∧ NetRes (netME M lw ls lc S n) M vF vS M.places.toNat (lgT S n) (timT S n M.places.toNat) v w' := by
 have HM := hI9 hM
 have HL := hI9 hL
 have HMI := hI9 hl
 clear hM hL hl
 have hck := fun w1 h => wCheck_c M vF vS w1 h
 have hop := fun w1 h => wOpen_c M vF vS lw ls lc li lt 0 0 w1 h
 obtain ⟨NE, hNE⟩ : ∃ q, q = netME M lw ls lc S n := ⟨_, rfl⟩
 rw [← hNE]
 unfold netME at hNE
 cases hb : M.bad
 case true =>
  have he : M.err = 40 := by unfold MetD.err; rw [hb]; rfl
  rw [he] at hck hNE
  rw [if_neg (by decide)] at hNE
  have HCK := hI9 hck
  have HNE := hI9 hNE
  clear hck he hb hNE hop
  have tok : True := trivial
  go_enter Tryz.func24, Tryz.ntmps24
  go_wp2_with (fail)
  have _x := frm1 w #[.int .i64 M.places, .int .i64 M.any.a0, .int .i64 M.any.a1, .int .i64 M.any.a2, .int .i64 M.any.a3, .int .i64 M.any.a4, .int .i64 M.any.a5, .bool M.any.i, .bool M.any.s, .int .i64 M.mw, .int .i64 M.ms, .int .i64 M.mc, vF, vS] 29
  have HX := hI9 _x.1
  have HB := hI9 _x.2.1
  have zW := _x.2.2
  clear _x
  generalize World.alloc w _ = W at *
  go_wp2_with (first | (have _t := tok; refine wpl_row rfl 29 _ rfl _ rfl _ 14 HX.out Tryz.rowMet rfl ?_; simp only [Act.put]; clear tok) | (go_at_call 46; (with_reducible refine (HCK.out _ (HM.out.below HB.out)).mono ?_); rintro e w1 ⟨rfl, hb1⟩; have nHX := hI9 (HX.out.below hb1); have nHB := hI9 (bthen HB.out hb1); have zz1 := hb1.size; clear HX HB hb1; have HX := nHX; have HB := nHB; clear nHX nHB))
  go_ret2
  exact ⟨.pointer none, by rw [HNE.out]; rfl, HB.out, fun h => absurd (HNE.out.symm.trans h) (by decide)⟩
 have he : M.err = 0 := by unfold MetD.err; rw [hb]; rfl
 rw [he] at hck hNE
 rw [if_pos rfl] at hNE
 have HCK := hI9 hck
 have HOK := hI9 (MetD.ok_of hb)
 clear hck he hb
 generalize openV M lw ls lc li lt 0 0 = OV at *
 by_cases ho : opE M lw ls lc 0 0 = 0
 case neg =>
  rw [if_neg ho] at hNE
  have hoz : (opE M lw ls lc 0 0 != 0) = true := by simpa using ho
  generalize opE M lw ls lc 0 0 = OE at *
  have HNE := hI9 hNE
  have HO := hI9 ho
  have HOP := hI9 hop
  clear hNE ho hop
  have tok : True := trivial
  go_enter Tryz.func24, Tryz.ntmps24
  go_wp2_with (fail)
  have _x := frm1 w #[.int .i64 M.places, .int .i64 M.any.a0, .int .i64 M.any.a1, .int .i64 M.any.a2, .int .i64 M.any.a3, .int .i64 M.any.a4, .int .i64 M.any.a5, .bool M.any.i, .bool M.any.s, .int .i64 M.mw, .int .i64 M.ms, .int .i64 M.mc, vF, vS] 29
  have HX := hI9 _x.1
  have HB := hI9 _x.2.1
  have zW := _x.2.2
  clear _x
  generalize World.alloc w _ = W at *
  go_wp2_with (first | (have _t := tok; refine wpl_row rfl 29 _ rfl _ rfl _ 14 HX.out Tryz.rowMet rfl ?_; simp only [Act.put]; clear tok) | (go_at_call 46; (with_reducible refine (HCK.out _ (HM.out.below HB.out)).mono ?_); rintro e w1 ⟨rfl, hb1⟩; have nHX := hI9 (HX.out.below hb1); have nHB := hI9 (bthen HB.out hb1); have zz1 := hb1.size; clear HX HB hb1; have HX := nHX; have HB := nHB; clear nHX nHB))
  refine wp_region_specL 8 [7] (nnO gl w.heap.size (.agg #[.int .i64 M.places, .int .i64 M.any.a0, .int .i64 M.any.a1, .int .i64 M.any.a2, .int .i64 M.any.a3, .int .i64 M.any.a4, .int .i64 M.any.a5, .bool M.any.i, .bool M.any.s, .int .i64 M.mw, .int .i64 M.ms, .int .i64 M.mc, vF, vS]) (.agg #[.int .i64 lw, .int .i64 ls, .int .i64 lc, .bool li, .bool lt]) OV OE) (fun i => false) (by kernel_rfl) (by kernel_rfl) (by decide) nnO_below ?hop2 ?htail2
  case hop2 =>
   simp only [List.take_succ_cons, List.take_zero, allOps]
   refine ⟨?_, ?_, ?_, ?_, ?_, ?_, ?_, ?_, trivial⟩
   all_goals intro u A w1 hA hb hd
   all_goals simp only [putAll, dstOf, gtA, gtS, gtZ, Option.bind_some, Option.bind, Act.put, List.setIfInBounds_toArray, List.set_cons_succ, List.set_cons_zero] at hA; subst hA
   all_goals have HB1 := hI9 hb
   ·refine OpOk.now rfl ?_
    clear hb hd
    go_wp2_with (refine wpl_row rfl 29 _ rfl _ rfl _ 14 (HX.out.below HB1.out) Tryz.rowMet rfl ?_; simp only [Act.put])
    exact ⟨_, rfl, Below.refl _ _, rfl, fun h => absurd h (by decide)⟩
   ·refine OpOk.now rfl ?_
    clear hb hd
    go_wp2
    exact ⟨_, rfl, Below.refl _ _, rfl, fun h => absurd h (by decide)⟩
   ·refine OpOk.now rfl ?_
    have d1 : u 1 = _ := hd 1 (by omega) (by kernel_rfl)
    clear hb hd
    rw [d1]
    clear d1
    go_wp2
    exact ⟨_, rfl, Below.refl _ _, rfl, fun h => absurd h (by decide)⟩
   ·refine OpOk.now rfl ?_
    have d2 : u 2 = _ := hd 2 (by omega) (by kernel_rfl)
    clear hb hd
    rw [d2]
    clear d2
    go_wp2_with (refine wpl_row rfl 31 _ rfl _ rfl _ 5 ((HMI.out.below HB.out).below HB1.out) Tryz.rowMin rfl ?_; simp only [Act.put])
    exact ⟨_, rfl, Below.refl _ _, rfl, fun h => absurd h (by decide)⟩
   ·refine OpOk.now rfl ?_
    have d0 : u 0 = _ := hd 0 (by omega) (by kernel_rfl)
    have d3 : u 3 = _ := hd 3 (by omega) (by kernel_rfl)
    clear hb hd
    rw [d0, d3]
    clear d0 d3
    go_wp2_with (go_at_call 47; (with_reducible refine (HOP.out _ ((HM.out.below HB.out).below HB1.out)).mono ?_); rintro e w2 ⟨rfl, hb2⟩)
    exact ⟨_, rfl, hb2, rfl, fun h => absurd h (by decide)⟩
   ·refine OpOk.now rfl ?_
    have d4 : u 4 = _ := hd 4 (by omega) (by kernel_rfl)
    clear hb hd
    rw [d4]
    clear d4
    go_wp2
    exact ⟨_, rfl, Below.refl _ _, rfl, fun h => absurd h (by decide)⟩
   ·refine OpOk.now rfl ?_
    have d5 : u 5 = _ := hd 5 (by omega) (by kernel_rfl)
    clear hb hd
    rw [d5]
    clear d5
    go_wp2
    exact ⟨_, rfl, Below.refl _ _, rfl, fun h => absurd h (by decide)⟩
   ·have d5 : u 5 = _ := hd 5 (by omega) (by kernel_rfl)
    clear hb hd
    rw [d5]
    clear d5
    refine OpOk.late rfl ?_
    exact ⟨_, yields_extract rfl _ _ rfl _ rfl _ rfl, rfl⟩
  case' htail2 =>
   intro u A w1 hA hb hd hf
   simp only [putAll, dstOf, gtA, gtS, gtZ, Option.bind_some, Option.bind, Act.put, List.setIfInBounds_toArray, List.set_cons_succ, List.set_cons_zero] at hA; subst hA
   have e0 : u 0 = _ := hd 0 (by omega)
   have e1 : u 1 = _ := hd 1 (by omega)
   have e2 : u 2 = _ := hd 2 (by omega)
   have e3 : u 3 = _ := hd 3 (by omega)
   have e4 : u 4 = _ := hd 4 (by omega)
   have e5 : u 5 = _ := hd 5 (by omega)
   have e6 : u 6 = _ := hd 6 (by omega)
   have e7 : u 7 = _ := hd 7 (by omega)
   first | rw [e0, e1, e2, e3, e4, e5, e6, e7] | simp only [e0, e1, e2, e3, e4, e5, e6, e7]
   clear e0 e1 e2 e3 e4 e5 e6 e7
   clear hd hf
   go_wp2_with (fail)
   dsimp only [NoPanic]
  have nHX := hI9 (HX.out.below hb)
  have nHB := hI9 (bthen HB.out hb)
  clear HX HB hb
  have HX := nHX
  have HB := nHB
  clear nHX nHB
  go_wp2_with (fail)
  go_ret2
  exact ⟨.pointer none, by rw [HNE.out]; rfl, HB.out, fun h => absurd (HNE.out.symm.trans h) HO.out⟩
 rw [if_pos ho] at hNE
 rw [ho] at hop
 have HOP := hI9 hop
 clear ho hop
 have eP := Tryz.entRP
 have eL := Tryz.entRL
 have eS := Tryz.entRS
 obtain ⟨P, hP⟩ : ∃ P : Nat, M.places = P := Int.eq_ofNat_of_zero_le (by have := HOK.out.places; omega)
 have hpt : M.places.toNat = P := by rw [hP]; rfl
 have hp1 : 1 ≤ P := by have := HOK.out.places; omega
 have hp2 : P ≤ 8 := by have := HOK.out.places; omega
 have HP := hI9 hP
 rw [hpt]
 clear hP hpt
 have tok : True := trivial
 by_cases h20 : 20 < n
 ·have z20 : decide ((20 : Int) < (n : Int)) = true := decide_eq_true (by omega)
  have HNE := hI9 (show NE = 50 from hNE.trans (if_pos (by unfold legsBad; rw [decide_eq_true h20]; rfl)))
  clear hNE h20
  go_enter Tryz.func24, Tryz.ntmps24
  go_wp2_with (fail)
  have _x := frm1 w #[.int .i64 M.places, .int .i64 M.any.a0, .int .i64 M.any.a1, .int .i64 M.any.a2, .int .i64 M.any.a3, .int .i64 M.any.a4, .int .i64 M.any.a5, .bool M.any.i, .bool M.any.s, .int .i64 M.mw, .int .i64 M.ms, .int .i64 M.mc, vF, vS] 29
  have HX := hI9 _x.1
  have HB := hI9 _x.2.1
  have zW := _x.2.2
  clear _x
  generalize World.alloc w _ = W at *
  go_wp2_with (first | (have _t := tok; refine wpl_row rfl 29 _ rfl _ rfl _ 14 HX.out Tryz.rowMet rfl ?_; simp only [Act.put]; clear tok) | (go_at_call 46; (with_reducible refine (HCK.out _ (HM.out.below HB.out)).mono ?_); rintro e w1 ⟨rfl, hb1⟩; have nHX := hI9 (HX.out.below hb1); have nHB := hI9 (bthen HB.out hb1); have zz1 := hb1.size; clear HX HB hb1; have HX := nHX; have HB := nHB; clear nHX nHB))
  refine wp_region_specL 8 [7] (nnO gl w.heap.size (.agg #[.int .i64 M.places, .int .i64 M.any.a0, .int .i64 M.any.a1, .int .i64 M.any.a2, .int .i64 M.any.a3, .int .i64 M.any.a4, .int .i64 M.any.a5, .bool M.any.i, .bool M.any.s, .int .i64 M.mw, .int .i64 M.ms, .int .i64 M.mc, vF, vS]) (.agg #[.int .i64 lw, .int .i64 ls, .int .i64 lc, .bool li, .bool lt]) OV 0) (fun i => false) (by kernel_rfl) (by kernel_rfl) (by decide) nnO_below ?hop3 ?htail3
  case hop3 =>
   simp only [List.take_succ_cons, List.take_zero, allOps]
   refine ⟨?_, ?_, ?_, ?_, ?_, ?_, ?_, ?_, trivial⟩
   all_goals intro u A w1 hA hb hd
   all_goals simp only [putAll, dstOf, gtA, gtS, gtZ, Option.bind_some, Option.bind, Act.put, List.setIfInBounds_toArray, List.set_cons_succ, List.set_cons_zero] at hA; subst hA
   all_goals have HB1 := hI9 hb
   ·refine OpOk.now rfl ?_
    clear hb hd
    go_wp2_with (refine wpl_row rfl 29 _ rfl _ rfl _ 14 (HX.out.below HB1.out) Tryz.rowMet rfl ?_; simp only [Act.put])
    exact ⟨_, rfl, Below.refl _ _, rfl, fun h => absurd h (by decide)⟩
   ·refine OpOk.now rfl ?_
    clear hb hd
    go_wp2
    exact ⟨_, rfl, Below.refl _ _, rfl, fun h => absurd h (by decide)⟩
   ·refine OpOk.now rfl ?_
    have d1 : u 1 = _ := hd 1 (by omega) (by kernel_rfl)
    clear hb hd
    rw [d1]
    clear d1
    go_wp2
    exact ⟨_, rfl, Below.refl _ _, rfl, fun h => absurd h (by decide)⟩
   ·refine OpOk.now rfl ?_
    have d2 : u 2 = _ := hd 2 (by omega) (by kernel_rfl)
    clear hb hd
    rw [d2]
    clear d2
    go_wp2_with (refine wpl_row rfl 31 _ rfl _ rfl _ 5 ((HMI.out.below HB.out).below HB1.out) Tryz.rowMin rfl ?_; simp only [Act.put])
    exact ⟨_, rfl, Below.refl _ _, rfl, fun h => absurd h (by decide)⟩
   ·refine OpOk.now rfl ?_
    have d0 : u 0 = _ := hd 0 (by omega) (by kernel_rfl)
    have d3 : u 3 = _ := hd 3 (by omega) (by kernel_rfl)
    clear hb hd
    rw [d0, d3]
    clear d0 d3
    go_wp2_with (go_at_call 47; (with_reducible refine (HOP.out _ ((HM.out.below HB.out).below HB1.out)).mono ?_); rintro e w2 ⟨rfl, hb2⟩)
    exact ⟨_, rfl, hb2, rfl, fun h => absurd h (by decide)⟩
   ·refine OpOk.now rfl ?_
    have d4 : u 4 = _ := hd 4 (by omega) (by kernel_rfl)
    clear hb hd
    rw [d4]
    clear d4
    go_wp2
    exact ⟨_, rfl, Below.refl _ _, rfl, fun h => absurd h (by decide)⟩
   ·refine OpOk.now rfl ?_
    have d5 : u 5 = _ := hd 5 (by omega) (by kernel_rfl)
    clear hb hd
    rw [d5]
    clear d5
    go_wp2
    exact ⟨_, rfl, Below.refl _ _, rfl, fun h => absurd h (by decide)⟩
   ·have d5 : u 5 = _ := hd 5 (by omega) (by kernel_rfl)
    clear hb hd
    rw [d5]
    clear d5
    refine OpOk.late rfl ?_
    exact ⟨_, yields_extract rfl _ _ rfl _ rfl _ rfl, rfl⟩
  case' htail3 =>
   intro u A w1 hA hb hd hf
   simp only [putAll, dstOf, gtA, gtS, gtZ, Option.bind_some, Option.bind, Act.put, List.setIfInBounds_toArray, List.set_cons_succ, List.set_cons_zero] at hA; subst hA
   have e0 : u 0 = _ := hd 0 (by omega)
   have e1 : u 1 = _ := hd 1 (by omega)
   have e2 : u 2 = _ := hd 2 (by omega)
   have e3 : u 3 = _ := hd 3 (by omega)
   have e4 : u 4 = _ := hd 4 (by omega)
   have e5 : u 5 = _ := hd 5 (by omega)
   have e6 : u 6 = _ := hd 6 (by omega)
   have e7 : u 7 = _ := hd 7 (by omega)
   first | rw [e0, e1, e2, e3, e4, e5, e6, e7] | simp only [e0, e1, e2, e3, e4, e5, e6, e7]
   clear e0 e1 e2 e3 e4 e5 e6 e7
   clear hd hf
   go_wp2_with (fail)
   dsimp only [NoPanic]
  have nHX := hI9 (HX.out.below hb)
  have nHB := hI9 (bthen HB.out hb)
  clear HX HB hb
  have HX := nHX
  have HB := nHB
  clear nHX nHB
  go_wp2_with (fail)
  go_ret2
  exact ⟨.pointer none, by rw [HNE.out]; rfl, bal HB.out _, fun h => absurd (HNE.out.symm.trans h) (by decide)⟩
 have z20 : decide ((20 : Int) < (n : Int)) = false := decide_eq_false (by omega)
 cases hany : (List.range n).any fun k => lgBad M.places (S k 0) (S k 1) (S k 2)
 case true =>
  have HNE := hI9 (show NE = 50 from hNE.trans (if_pos (by unfold legsBad; rw [hany, Bool.or_true])))
  have HAN := hI9 hany
  clear hNE h20 hany
  go_enter Tryz.func24, Tryz.ntmps24
  go_wp2_with (fail)
  have _x := frm1 w #[.int .i64 M.places, .int .i64 M.any.a0, .int .i64 M.any.a1, .int .i64 M.any.a2, .int .i64 M.any.a3, .int .i64 M.any.a4, .int .i64 M.any.a5, .bool M.any.i, .bool M.any.s, .int .i64 M.mw, .int .i64 M.ms, .int .i64 M.mc, vF, vS] 29
  have HX := hI9 _x.1
  have HB := hI9 _x.2.1
  have zW := _x.2.2
  clear _x
  generalize World.alloc w _ = W at *
  go_wp2_with (first | (have _t := tok; refine wpl_row rfl 29 _ rfl _ rfl _ 14 HX.out Tryz.rowMet rfl ?_; simp only [Act.put]; clear tok) | (go_at_call 46; (with_reducible refine (HCK.out _ (HM.out.below HB.out)).mono ?_); rintro e w1 ⟨rfl, hb1⟩; have nHX := hI9 (HX.out.below hb1); have nHB := hI9 (bthen HB.out hb1); have zz1 := hb1.size; clear HX HB hb1; have HX := nHX; have HB := nHB; clear nHX nHB))
  refine wp_region_specL 8 [7] (nnO gl w.heap.size (.agg #[.int .i64 M.places, .int .i64 M.any.a0, .int .i64 M.any.a1, .int .i64 M.any.a2, .int .i64 M.any.a3, .int .i64 M.any.a4, .int .i64 M.any.a5, .bool M.any.i, .bool M.any.s, .int .i64 M.mw, .int .i64 M.ms, .int .i64 M.mc, vF, vS]) (.agg #[.int .i64 lw, .int .i64 ls, .int .i64 lc, .bool li, .bool lt]) OV 0) (fun i => false) (by kernel_rfl) (by kernel_rfl) (by decide) nnO_below ?hop4 ?htail4
  case hop4 =>
   simp only [List.take_succ_cons, List.take_zero, allOps]
   refine ⟨?_, ?_, ?_, ?_, ?_, ?_, ?_, ?_, trivial⟩
   all_goals intro u A w1 hA hb hd
   all_goals simp only [putAll, dstOf, gtA, gtS, gtZ, Option.bind_some, Option.bind, Act.put, List.setIfInBounds_toArray, List.set_cons_succ, List.set_cons_zero] at hA; subst hA
   all_goals have HB1 := hI9 hb
   ·refine OpOk.now rfl ?_
    clear hb hd
    go_wp2_with (refine wpl_row rfl 29 _ rfl _ rfl _ 14 (HX.out.below HB1.out) Tryz.rowMet rfl ?_; simp only [Act.put])
    exact ⟨_, rfl, Below.refl _ _, rfl, fun h => absurd h (by decide)⟩
   ·refine OpOk.now rfl ?_
    clear hb hd
    go_wp2
    exact ⟨_, rfl, Below.refl _ _, rfl, fun h => absurd h (by decide)⟩
   ·refine OpOk.now rfl ?_
    have d1 : u 1 = _ := hd 1 (by omega) (by kernel_rfl)
    clear hb hd
    rw [d1]
    clear d1
    go_wp2
    exact ⟨_, rfl, Below.refl _ _, rfl, fun h => absurd h (by decide)⟩
   ·refine OpOk.now rfl ?_
    have d2 : u 2 = _ := hd 2 (by omega) (by kernel_rfl)
    clear hb hd
    rw [d2]
    clear d2
    go_wp2_with (refine wpl_row rfl 31 _ rfl _ rfl _ 5 ((HMI.out.below HB.out).below HB1.out) Tryz.rowMin rfl ?_; simp only [Act.put])
    exact ⟨_, rfl, Below.refl _ _, rfl, fun h => absurd h (by decide)⟩
   ·refine OpOk.now rfl ?_
    have d0 : u 0 = _ := hd 0 (by omega) (by kernel_rfl)
    have d3 : u 3 = _ := hd 3 (by omega) (by kernel_rfl)
    clear hb hd
    rw [d0, d3]
    clear d0 d3
    go_wp2_with (go_at_call 47; (with_reducible refine (HOP.out _ ((HM.out.below HB.out).below HB1.out)).mono ?_); rintro e w2 ⟨rfl, hb2⟩)
    exact ⟨_, rfl, hb2, rfl, fun h => absurd h (by decide)⟩
   ·refine OpOk.now rfl ?_
    have d4 : u 4 = _ := hd 4 (by omega) (by kernel_rfl)
    clear hb hd
    rw [d4]
    clear d4
    go_wp2
    exact ⟨_, rfl, Below.refl _ _, rfl, fun h => absurd h (by decide)⟩
   ·refine OpOk.now rfl ?_
    have d5 : u 5 = _ := hd 5 (by omega) (by kernel_rfl)
    clear hb hd
    rw [d5]
    clear d5
    go_wp2
    exact ⟨_, rfl, Below.refl _ _, rfl, fun h => absurd h (by decide)⟩
   ·have d5 : u 5 = _ := hd 5 (by omega) (by kernel_rfl)
    clear hb hd
    rw [d5]
    clear d5
    refine OpOk.late rfl ?_
    exact ⟨_, yields_extract rfl _ _ rfl _ rfl _ rfl, rfl⟩
  case' htail4 =>
   intro u A w1 hA hb hd hf
   simp only [putAll, dstOf, gtA, gtS, gtZ, Option.bind_some, Option.bind, Act.put, List.setIfInBounds_toArray, List.set_cons_succ, List.set_cons_zero] at hA; subst hA
   have e0 : u 0 = _ := hd 0 (by omega)
   have e1 : u 1 = _ := hd 1 (by omega)
   have e2 : u 2 = _ := hd 2 (by omega)
   have e3 : u 3 = _ := hd 3 (by omega)
   have e4 : u 4 = _ := hd 4 (by omega)
   have e5 : u 5 = _ := hd 5 (by omega)
   have e6 : u 6 = _ := hd 6 (by omega)
   have e7 : u 7 = _ := hd 7 (by omega)
   first | rw [e0, e1, e2, e3, e4, e5, e6, e7] | simp only [e0, e1, e2, e3, e4, e5, e6, e7]
   clear e0 e1 e2 e3 e4 e5 e6 e7
   clear hd hf
   go_wp2_with (fail)
   dsimp only [NoPanic]
  have nHX := hI9 (HX.out.below hb)
  have nHB := hI9 (bthen HB.out hb)
  clear HX HB hb
  have HX := nHX
  have HB := nHB
  clear nHX nHB
  go_wp2_with (fail)
  have bH11 := Blk.new w1 111 #[.func (.func 48) #[] #[.pointer (some ⟨w.heap.size, 0, none⟩)]]
  have nHX := hI9 (HX.out.alloc (.cells #[.func (.func 48) #[] #[.pointer (some ⟨w.heap.size, 0, none⟩)]] 111))
  have nHB := hI9 (bal HB.out (.cells #[.func (.func 48) #[] #[.pointer (some ⟨w.heap.size, 0, none⟩)]] 111))
  clear HX HB
  have HX := nHX
  have HB := nHB
  clear nHX nHB
  generalize w1.alloc (.cells #[.func (.func 48) #[] #[.pointer (some ⟨w.heap.size, 0, none⟩)]] 111) = W2 at *
  generalize w1.heap.size = gH11 at *
  have H11 := hI9 bH11
  clear bH11
  refine (cfLg_c A n c S 50 #[.pointer (some ⟨gH11, 0, none⟩)] (fun k => lgBad M.places (S k 0) (S k 1) (S k 2)) _ (by omega) eL (LgsAt.of (HL.out.below HB.out)) (fun W i hi hb => rleg_c gH11 w.heap.size M.places (S i 0) (S i 1) (S i 2) W ((H11.out.below hb).cell 0) ((HX.out.below hb).cell 0) (by rw [HP.out]; omega) (by rw [HP.out]; omega))).mono ?_
  rintro e w3 ⟨rfl, hb3⟩
  rw [HAN.out]
  have nHX := hI9 (HX.out.below hb3)
  have nH11 := hI9 (H11.out.below hb3)
  have nHB := hI9 (bthen HB.out hb3)
  clear HX H11 HB hb3
  have HX := nHX
  have H11 := nH11
  have HB := nHB
  clear nHX nH11 nHB
  go_wp2_with (fail)
  go_ret2
  exact ⟨.pointer none, by rw [HNE.out]; rfl, HB.out, fun h => absurd (HNE.out.symm.trans h) (by decide)⟩
 have hlb : legsBad M S n = false := by unfold legsBad; rw [hany, decide_eq_false h20]; rfl
 have HNE := hI9 (show NE = 0 from hNE.trans (if_neg (by rw [hlb]; decide)))
 have HNK := hI9 (legs_ok HP.out hlb)
 have HAN := hI9 hany
 clear hNE h20 hany hlb
 go_enter Tryz.func24, Tryz.ntmps24
 go_wp2_with (fail)
 have _x := frm1 w #[.int .i64 M.places, .int .i64 M.any.a0, .int .i64 M.any.a1, .int .i64 M.any.a2, .int .i64 M.any.a3, .int .i64 M.any.a4, .int .i64 M.any.a5, .bool M.any.i, .bool M.any.s, .int .i64 M.mw, .int .i64 M.ms, .int .i64 M.mc, vF, vS] 29
 have HX := hI9 _x.1
 have HB := hI9 _x.2.1
 have zW := _x.2.2
 clear _x
 generalize World.alloc w _ = W at *
 go_wp2_with (first | (have _t := tok; refine wpl_row rfl 29 _ rfl _ rfl _ 14 HX.out Tryz.rowMet rfl ?_; simp only [Act.put]; clear tok) | (go_at_call 46; (with_reducible refine (HCK.out _ (HM.out.below HB.out)).mono ?_); rintro e w1 ⟨rfl, hb1⟩; have nHX := hI9 (HX.out.below hb1); have nHB := hI9 (bthen HB.out hb1); have zz1 := hb1.size; clear HX HB hb1; have HX := nHX; have HB := nHB; clear nHX nHB))
 refine wp_region_specL 8 [7] (nnO gl w.heap.size (.agg #[.int .i64 M.places, .int .i64 M.any.a0, .int .i64 M.any.a1, .int .i64 M.any.a2, .int .i64 M.any.a3, .int .i64 M.any.a4, .int .i64 M.any.a5, .bool M.any.i, .bool M.any.s, .int .i64 M.mw, .int .i64 M.ms, .int .i64 M.mc, vF, vS]) (.agg #[.int .i64 lw, .int .i64 ls, .int .i64 lc, .bool li, .bool lt]) OV 0) (fun i => false) (by kernel_rfl) (by kernel_rfl) (by decide) nnO_below ?hop5 ?htail5
 case hop5 =>
  simp only [List.take_succ_cons, List.take_zero, allOps]
  refine ⟨?_, ?_, ?_, ?_, ?_, ?_, ?_, ?_, trivial⟩
  all_goals intro u A w1 hA hb hd
  all_goals simp only [putAll, dstOf, gtA, gtS, gtZ, Option.bind_some, Option.bind, Act.put, List.setIfInBounds_toArray, List.set_cons_succ, List.set_cons_zero] at hA; subst hA
  all_goals have HB1 := hI9 hb
  ·refine OpOk.now rfl ?_
   clear hb hd
   go_wp2_with (refine wpl_row rfl 29 _ rfl _ rfl _ 14 (HX.out.below HB1.out) Tryz.rowMet rfl ?_; simp only [Act.put])
   exact ⟨_, rfl, Below.refl _ _, rfl, fun h => absurd h (by decide)⟩
  ·refine OpOk.now rfl ?_
   clear hb hd
   go_wp2
   exact ⟨_, rfl, Below.refl _ _, rfl, fun h => absurd h (by decide)⟩
  ·refine OpOk.now rfl ?_
   have d1 : u 1 = _ := hd 1 (by omega) (by kernel_rfl)
   clear hb hd
   rw [d1]
   clear d1
   go_wp2
   exact ⟨_, rfl, Below.refl _ _, rfl, fun h => absurd h (by decide)⟩
  ·refine OpOk.now rfl ?_
   have d2 : u 2 = _ := hd 2 (by omega) (by kernel_rfl)
   clear hb hd
   rw [d2]
   clear d2
   go_wp2_with (refine wpl_row rfl 31 _ rfl _ rfl _ 5 ((HMI.out.below HB.out).below HB1.out) Tryz.rowMin rfl ?_; simp only [Act.put])
   exact ⟨_, rfl, Below.refl _ _, rfl, fun h => absurd h (by decide)⟩
  ·refine OpOk.now rfl ?_
   have d0 : u 0 = _ := hd 0 (by omega) (by kernel_rfl)
   have d3 : u 3 = _ := hd 3 (by omega) (by kernel_rfl)
   clear hb hd
   rw [d0, d3]
   clear d0 d3
   go_wp2_with (go_at_call 47; (with_reducible refine (HOP.out _ ((HM.out.below HB.out).below HB1.out)).mono ?_); rintro e w2 ⟨rfl, hb2⟩)
   exact ⟨_, rfl, hb2, rfl, fun h => absurd h (by decide)⟩
  ·refine OpOk.now rfl ?_
   have d4 : u 4 = _ := hd 4 (by omega) (by kernel_rfl)
   clear hb hd
   rw [d4]
   clear d4
   go_wp2
   exact ⟨_, rfl, Below.refl _ _, rfl, fun h => absurd h (by decide)⟩
  ·refine OpOk.now rfl ?_
   have d5 : u 5 = _ := hd 5 (by omega) (by kernel_rfl)
   clear hb hd
   rw [d5]
   clear d5
   go_wp2
   exact ⟨_, rfl, Below.refl _ _, rfl, fun h => absurd h (by decide)⟩
  ·have d5 : u 5 = _ := hd 5 (by omega) (by kernel_rfl)
   clear hb hd
   rw [d5]
   clear d5
   refine OpOk.late rfl ?_
   exact ⟨_, yields_extract rfl _ _ rfl _ rfl _ rfl, rfl⟩
 case' htail5 =>
  intro u A w1 hA hb hd hf
  simp only [putAll, dstOf, gtA, gtS, gtZ, Option.bind_some, Option.bind, Act.put, List.setIfInBounds_toArray, List.set_cons_succ, List.set_cons_zero] at hA; subst hA
  have e0 : u 0 = _ := hd 0 (by omega)
  have e1 : u 1 = _ := hd 1 (by omega)
  have e2 : u 2 = _ := hd 2 (by omega)
  have e3 : u 3 = _ := hd 3 (by omega)
  have e4 : u 4 = _ := hd 4 (by omega)
  have e5 : u 5 = _ := hd 5 (by omega)
  have e6 : u 6 = _ := hd 6 (by omega)
  have e7 : u 7 = _ := hd 7 (by omega)
  first | rw [e0, e1, e2, e3, e4, e5, e6, e7] | simp only [e0, e1, e2, e3, e4, e5, e6, e7]
  clear e0 e1 e2 e3 e4 e5 e6 e7
  clear hd hf
  go_wp2_with (fail)
  dsimp only [NoPanic]
 have nHX := hI9 (HX.out.below hb)
 have nHB := hI9 (bthen HB.out hb)
 clear HX HB hb
 have HX := nHX
 have HB := nHB
 clear nHX nHB
 go_wp2_with (fail)
 have bH11 := Blk.new w1 111 #[.func (.func 48) #[] #[.pointer (some ⟨w.heap.size, 0, none⟩)]]
 have nHX := hI9 (HX.out.alloc (.cells #[.func (.func 48) #[] #[.pointer (some ⟨w.heap.size, 0, none⟩)]] 111))
 have nHB := hI9 (bal HB.out (.cells #[.func (.func 48) #[] #[.pointer (some ⟨w.heap.size, 0, none⟩)]] 111))
 clear HX HB
 have HX := nHX
 have HB := nHB
 clear nHX nHB
 generalize w1.alloc (.cells #[.func (.func 48) #[] #[.pointer (some ⟨w.heap.size, 0, none⟩)]] 111) = W2 at *
 generalize w1.heap.size = gH11 at *
 have H11 := hI9 bH11
 clear bH11
 refine (cfLg_c A n c S 50 #[.pointer (some ⟨gH11, 0, none⟩)] (fun k => lgBad M.places (S k 0) (S k 1) (S k 2)) _ (by omega) eL (LgsAt.of (HL.out.below HB.out)) (fun W i hi hb => rleg_c gH11 w.heap.size M.places (S i 0) (S i 1) (S i 2) W ((H11.out.below hb).cell 0) ((HX.out.below hb).cell 0) (by rw [HP.out]; omega) (by rw [HP.out]; omega))).mono ?_
 rintro e w3 ⟨rfl, hb3⟩
 rw [HAN.out]
 have nHX := hI9 (HX.out.below hb3)
 have nH11 := hI9 (H11.out.below hb3)
 have nHB := hI9 (bthen HB.out hb3)
 clear HX H11 HB hb3
 have HX := nHX
 have H11 := nH11
 have HB := nHB
 clear nHX nH11 nHB
 go_wp2_with (fail)
 clear H11
 refine wp_region_specR 7 (nnR w.heap.size w3.heap.size P (.agg #[.int .i64 M.places, .int .i64 M.any.a0, .int .i64 M.any.a1, .int .i64 M.any.a2, .int .i64 M.any.a3, .int .i64 M.any.a4, .int .i64 M.any.a5, .bool M.any.i, .bool M.any.s, .int .i64 M.mw, .int .i64 M.ms, .int .i64 M.mc, vF, vS])) (nnRel w3.heap.size P) (fun i => false) (by kernel_rfl) (by kernel_rfl) nnR_below nnRel_below ?hop6 ?htail6
 case hop6 =>
  simp only [List.take_succ_cons, List.take_zero, allOps]
  refine ⟨?_, ?_, ?_, ?_, ?_, ?_, ?_, trivial⟩
  all_goals intro u A w1 hA hb hd
  all_goals simp only [putAll, dstOf, gtA, gtS, gtZ, Option.bind_some, Option.bind, Act.put, List.setIfInBounds_toArray, List.set_cons_succ, List.set_cons_zero] at hA; subst hA
  all_goals have HB1 := hI9 hb
  ·clear hb hd
   go_wp2_with (refine wpl_row rfl 29 _ rfl _ rfl _ 14 (HX.out.below HB1.out) Tryz.rowMet rfl ?_; simp only [Act.put])
   exact ⟨_, rfl, Below.refl _ _, rfl, fun _ _ _ h => absurd h (by decide), fun h => absurd h (by decide)⟩
  ·clear hb hd
   go_wp2
   exact ⟨_, rfl, Below.refl _ _, rfl, fun _ _ _ h => absurd h (by decide), fun h => absurd h (by decide)⟩
  ·have d1 : u 1 = _ := hd 1 (by omega) (by kernel_rfl)
   clear hb hd
   rw [d1]
   clear d1
   have c0 := (HX.out.below HB1.out).cell 0
   simp only [List.getElem?_toArray, List.getElem?_cons_zero] at c0
   go_wp2
   exact ⟨_, rfl, RowKit.Below.refl _ _, (by rw [HP.out]; rfl), fun _ _ _ h => absurd h (by decide), fun h => absurd h (by decide)⟩
  ·have d2 : u 2 = _ := hd 2 (by omega) (by kernel_rfl)
   clear hb hd
   rw [d2]
   clear d2
   go_wp2_with (go_at_call 51; (with_reducible refine (square_c P (-1) hp1 hp2 _).mono ?_); rintro e w2 ⟨g, r, c2, rfl, hb2⟩)
   obtain ⟨hb3, q1, q2, q3⟩ := hb2
   exact ⟨_, rfl, hb3, ⟨g, c2, r, _, rfl, q1, q2, q3.lower HB1.out.size⟩, fun _ _ _ h => absurd h (by decide), fun h => absurd h (by decide)⟩
  ·clear hb hd
   go_wp2
   exact ⟨_, rfl, Below.refl _ _, rfl, fun _ _ _ h => absurd h (by decide), fun h => absurd h (by decide)⟩
  ·have d4 : u 4 = _ := hd 4 (by omega) (by kernel_rfl)
   clear hb hd
   rw [d4]
   clear d4
   have c0 := (HX.out.below HB1.out).cell 0
   simp only [List.getElem?_toArray, List.getElem?_cons_zero] at c0
   go_wp2
   exact ⟨_, rfl, RowKit.Below.refl _ _, (by rw [HP.out]; rfl), fun _ _ _ h => absurd h (by decide), fun h => absurd h (by decide)⟩
  ·have d3 := hd 3 (by omega) (by kernel_rfl)
   have d5 : u 5 = _ := hd 5 (by omega) (by kernel_rfl)
   clear hb hd
   rw [d5]
   clear d5
   have hd3 := d3
   go_wp2_with (go_at_call 51; (with_reducible refine (square_c P (-1) hp1 hp2 _).mono ?_); rintro e w2 ⟨g, r, c2, rfl, hb2⟩)
   obtain ⟨hb3, q1, q2, q3⟩ := hb2
   exact ⟨_, rfl, hb3, ⟨g, c2, r, _, rfl, q1, q2, q3.lower HB1.out.size⟩, (fun k _ _ _ hk3 => by subst hk3; obtain ⟨g3, c3, r3, hi3, e3, -, -, s3⟩ := hd3; exact ⟨g3, c3, r3, hi3, g, c2, r, _, _, e3, rfl, s3.gl.2.2, s3.below hb3, q3⟩), fun h => absurd h (by decide)⟩
 case htail6 =>
  intro u A w1 hA hb hd hf hrl
  simp only [putAll, dstOf, gtA, gtS, gtZ, Option.bind_some, Option.bind, Act.put, List.setIfInBounds_toArray, List.set_cons_succ, List.set_cons_zero] at hA; subst hA
  have e0 : u 0 = _ := hd 0 (by omega)
  have e1 : u 1 = _ := hd 1 (by omega)
  have e2 : u 2 = _ := hd 2 (by omega)
  have p3 := hd 3 (by omega)
  have e4 : u 4 = _ := hd 4 (by omega)
  have e5 : u 5 = _ := hd 5 (by omega)
  have p6 := hd 6 (by omega)
  first | rw [e0, e1, e2, e4, e5] | simp only [e0, e1, e2, e4, e5]
  clear e0 e1 e2 e4 e5
  clear hd hf
  have hvv := hrl 6 3 (by omega) (by omega) (by kernel_rfl) rfl rfl
  clear hrl p3 p6
  obtain ⟨gL, cL, rL, hiL, gT, cT, rT, loT, hiT, e3, e6, hle, sL, sT⟩ := hvv
  rw [e3, e6]
  clear e3 e6
  have HSL := hI9 sL
  have HST := hI9 sT
  have HLE := hI9 hle
  have zz := hI9 HB.out.size
  clear sL sT hle
  go_wp2_with (fail)
  have K0 := hI9 (show NeK M vF vS P w.heap.size w1.heap.size gL gT cL cT rL rT w3.heap.size hiL loT hiT (lgT S 0) (lgT S 0) w (w1.alloc (.cells #[.int .i64 M.places, .int .i64 M.any.a0, .int .i64 M.any.a1, .int .i64 M.any.a2, .int .i64 M.any.a3, .int .i64 M.any.a4, .int .i64 M.any.a5, .bool M.any.i, .bool M.any.s, .int .i64 M.mw, .int .i64 M.ms, .int .i64 M.mc, vF, vS, .slice (some ⟨gL, 0, none⟩) P cL, .slice (some ⟨gT, 0, none⟩) P cT] 74)) from ⟨bal (bthen HB.out hb) _, (HX.out.below hb).alloc _, Blk.new _ _ _, HSL.out.alloc _, HST.out.alloc _, ⟨zz.out, HLE.out⟩⟩)
  clear HX HB HSL HST HLE zz hb
  generalize w1.alloc (.cells #[.int .i64 M.places, .int .i64 M.any.a0, .int .i64 M.any.a1, .int .i64 M.any.a2, .int .i64 M.any.a3, .int .i64 M.any.a4, .int .i64 M.any.a5, .bool M.any.i, .bool M.any.s, .int .i64 M.mw, .int .i64 M.ms, .int .i64 M.mc, vF, vS, .slice (some ⟨gL, 0, none⟩) P cL, .slice (some ⟨gT, 0, none⟩) P cT] 74) = wN at *
  generalize w1.heap.size = gN at *
  generalize w3.heap.size = loL at *
  go_loopg [62] n (fun gy v wr => ∃ k : Nat, v = .int .i64 k ∧ k ≤ n ∧ n - k ≤ gy ∧ Hid (NeK M vF vS P w.heap.size gN gL gT cL cT rL rT loL hiL loT hiT (lgT S k) (lgT S k) w wr))
  case atStart => exact ⟨0, rfl, Nat.zero_le _, Nat.le_refl _, K0⟩
  case round =>
   clear K0
   obtain ⟨k, rfl, hk, hgy, K0⟩ := hrel
   by_cases hlt : k < n
   case pos =>
    have hltz : (k : Int) < (n : Int) := by omega
    obtain ⟨bs, os, rfl, hbs, hcs⟩ := HL.out (by omega)
    have q0 := HNK.out.2.a k hlt
    have q1 := HNK.out.2.b k hlt
    obtain ⟨a, ha⟩ : ∃ a : Nat, S k 0 = a := Int.eq_ofNat_of_zero_le q0.1
    obtain ⟨b, hb⟩ : ∃ b : Nat, S k 1 = b := Int.eq_ofNat_of_zero_le q1.1
    obtain ⟨t, ht⟩ : ∃ t, t = S k 2 := ⟨_, rfl⟩
    have c0 : wr.cell? ⟨bs, os + k * 3, none⟩ = some (.int .i64 (a : Int)) := by rw [← ha]; exact (K0.out.b.cell (p := ⟨bs, os + k * 3 + 0, none⟩) hbs).trans (hcs k hlt 0 (by omega))
    have c1 : wr.cell? ⟨bs, os + k * 3 + 1, none⟩ = some (.int .i64 (b : Int)) := by rw [← hb]; exact (K0.out.b.cell (p := ⟨bs, os + k * 3 + 1, none⟩) hbs).trans (hcs k hlt 1 (by omega))
    have c2 : wr.cell? ⟨bs, os + k * 3 + 2, none⟩ = some (.int .i64 t) := by rw [ht]; exact (K0.out.b.cell (p := ⟨bs, os + k * 3 + 2, none⟩) hbs).trans (hcs k hlt 2 (by omega))
    have haP : a < P := by omega
    have hbP : b < P := by omega
    have HST := hI9 (show lgT S (k + 1) = stpT (stpT (lgT S k) a b t) b a t from by
     show stpT (stpT (lgT S k) (S k 0).toNat (S k 1).toNat (S k 2)) (S k 1).toNat (S k 0).toNat (S k 2) = _
     rw [ha, hb, ← ht]; rfl)
    clear hcs q0 q1 ha hb ht
    have n14 := (K0.out.n.alloc (.cells #[.int .i64 (a : Int), .int .i64 (b : Int), .int .i64 t] 45)).cell 14
    have n15 := (K0.out.n.alloc (.cells #[.int .i64 (a : Int), .int .i64 (b : Int), .int .i64 t] 45)).cell 15
    simp only [gtA, gtS, gtZ] at n14 n15
    go_wp2_with (fail)
    have HG := hI9 (Blk.new wr 45 #[.int .i64 (a : Int), .int .i64 (b : Int), .int .i64 t])
    have nK := hI9 (K0.out.below (bal (RowKit.Below.refl _ _) (.cells #[.int .i64 (a : Int), .int .i64 (b : Int), .int .i64 t] 45)))
    clear K0 c0 c1 c2
    generalize wr.alloc (.cells #[.int .i64 (a : Int), .int .i64 (b : Int), .int .i64 t] 45) = w2 at *
    generalize wr.heap.size = gG at *
    go_quiet (fail)
    have nG := hI9 (HG.out.below (bdn (RowKit.Below.refl _ _) nq))
    have K0 := hI9 (nK.out.below (bdn (RowKit.Below.refl _ _) nq))
    clear HG nK n14 n15
    have HG := nG
    clear nG
    generalize w2.drewN nq = wq at *
    have i0 : ∀ w, (Instr.index 116 (.agg #[.slice (some ⟨gL, 0, none⟩) P cL, .slice (some ⟨gT, 0, none⟩) P cT]) (.int .i64 0)).run Tryz.prog w = .ok (.slice (some ⟨gL, 0, none⟩) P cL) w := fun _ => by kernel_rfl
    have i1 : ∀ w, (Instr.index 116 (.agg #[.slice (some ⟨gL, 0, none⟩) P cL, .slice (some ⟨gT, 0, none⟩) P cT]) (.int .i64 1)).run Tryz.prog w = .ok (.slice (some ⟨gT, 0, none⟩) P cT) w := fun _ => by kernel_rfl
    go_wp2_with (fail)
    go_loopg [75] 2 (fun gy v wr => ∃ i : Nat, v = .int .i64 i ∧ i ≤ 2 ∧ 2 - i ≤ gy ∧ Hid (Blk wr gG 45 #[.int .i64 (a : Int), .int .i64 (b : Int), .int .i64 t]) ∧ Hid (NeK M vF vS P w.heap.size gN gL gT cL cT rL rT loL hiL loT hiT (lgT S (if 1 ≤ i then k + 1 else k)) (lgT S (if 2 ≤ i then k + 1 else k)) w wr))
    case atStart => exact ⟨0, rfl, by omega, by omega, HG, K0⟩
    case round =>
     clear HG K0
     obtain ⟨i, rfl, hi, hgz, HG, K0⟩ := hrel
     have d0 := HG.out.cell 0
     have d1 := HG.out.cell 1
     have d2 := HG.out.cell 2
     simp only [gtA, gtS, gtZ] at d0 d1 d2
     obtain rfl | rfl | rfl : i = 0 ∨ i = 1 ∨ i = 2 := by omega
     ·have nK := hI9 (show NeK M vF vS P w.heap.size gN gL gT cL cT rL rT loL hiL loT hiT (lgT S k) (lgT S k) w wr from K0.out)
      clear K0
      have K0 := nK
      clear nK
      go_wp2_with (fail)
      refine (short_c (c := cL) (x := t) K0.out.l haP hbP).mono ?_
      rintro e w5 ⟨rfl, hw5⟩
      have nK := hI9 (K0.out.shL (b := b) haP t hw5)
      have nG := hI9 (show Blk w5 gG 45 #[.int .i64 (a : Int), .int .i64 (b : Int), .int .i64 t] from by rw [hw5]; exact HG.out.sh (K0.out.l.ne HG.out haP (by decide)) _ _ _)
      clear K0 HG hw5 d0 d1 d2
      have K0 := nK
      have HG := nG
      clear nK nG
      have d0 := HG.out.cell 0
      have d1 := HG.out.cell 1
      have d2 := HG.out.cell 2
      simp only [gtA, gtS, gtZ] at d0 d1 d2
      go_wp2_with (fail)
      refine (short_c (c := cL) (x := t) K0.out.l hbP haP).mono ?_
      rintro e w5 ⟨rfl, hw5⟩
      have nK := hI9 (K0.out.shL (b := a) hbP t hw5)
      have nG := hI9 (show Blk w5 gG 45 #[.int .i64 (a : Int), .int .i64 (b : Int), .int .i64 t] from by rw [hw5]; exact HG.out.sh (K0.out.l.ne HG.out hbP (by decide)) _ _ _)
      clear K0 HG hw5 d0 d1 d2
      have K0 := nK
      have HG := nG
      clear nK nG
      have d0 := HG.out.cell 0
      have d1 := HG.out.cell 1
      have d2 := HG.out.cell 2
      simp only [gtA, gtS, gtZ] at d0 d1 d2
      go_wp2_with (fail)
      go_roundg 1
      case measure => omega
      case rel => exact ⟨1, by first | rfl | go_num | (congr 1; omega), by omega, by omega, HG, hI9 (by rw [if_pos (Nat.le_refl 1), if_neg (by omega), HST.out]; exact K0.out)⟩
     ·have nK := hI9 (show NeK M vF vS P w.heap.size gN gL gT cL cT rL rT loL hiL loT hiT (lgT S (k + 1)) (lgT S k) w wr from K0.out)
      clear K0
      have K0 := nK
      clear nK
      go_wp2_with (fail)
      refine (short_c (c := cT) (x := t) K0.out.t haP hbP).mono ?_
      rintro e w5 ⟨rfl, hw5⟩
      have nK := hI9 (K0.out.shT (b := b) haP t hw5)
      have nG := hI9 (show Blk w5 gG 45 #[.int .i64 (a : Int), .int .i64 (b : Int), .int .i64 t] from by rw [hw5]; exact HG.out.sh (K0.out.t.ne HG.out haP (by decide)) _ _ _)
      clear K0 HG hw5 d0 d1 d2
      have K0 := nK
      have HG := nG
      clear nK nG
      have d0 := HG.out.cell 0
      have d1 := HG.out.cell 1
      have d2 := HG.out.cell 2
      simp only [gtA, gtS, gtZ] at d0 d1 d2
      go_wp2_with (fail)
      refine (short_c (c := cT) (x := t) K0.out.t hbP haP).mono ?_
      rintro e w5 ⟨rfl, hw5⟩
      have nK := hI9 (K0.out.shT (b := a) hbP t hw5)
      have nG := hI9 (show Blk w5 gG 45 #[.int .i64 (a : Int), .int .i64 (b : Int), .int .i64 t] from by rw [hw5]; exact HG.out.sh (K0.out.t.ne HG.out hbP (by decide)) _ _ _)
      clear K0 HG hw5 d0 d1 d2
      have K0 := nK
      have HG := nG
      clear nK nG
      have d0 := HG.out.cell 0
      have d1 := HG.out.cell 1
      have d2 := HG.out.cell 2
      simp only [gtA, gtS, gtZ] at d0 d1 d2
      go_wp2_with (fail)
      go_roundg 0
      case measure => omega
      case rel => exact ⟨2, by first | rfl | go_num | (congr 1; omega), by omega, by omega, HG, hI9 (by
       have h1 := K0.out
       rw [← HST.out] at h1
       rw [if_pos (by omega), if_pos (Nat.le_refl 2)]; exact h1)⟩
     ·have nK := hI9 (show NeK M vF vS P w.heap.size gN gL gT cL cT rL rT loL hiL loT hiT (lgT S (k + 1)) (lgT S (k + 1)) w wr from K0.out)
      clear K0 d0 d1 d2 HG
      have K0 := nK
      clear nK
      go_wp2_with (fail)
      go_roundg (n - (k + 1))
      case measure => omega
      case rel => exact ⟨k + 1, by first | rfl | go_num | (congr 1; omega), by omega, Nat.le_refl _, K0⟩
   obtain rfl : n = k := by omega
   have x0 : wr.cell? ⟨w.heap.size, 0, none⟩ = some (.int .i64 (P : Int)) := by rw [← HP.out]; exact K0.out.x.cell 0
   go_wp2_with (fail)
   go_loopg [100] P (fun gy v wr => ∃ p : Nat, v = .int .i64 p ∧ p ≤ P ∧ P - p ≤ gy ∧ Hid (NeK M vF vS P w.heap.size gN gL gT cL cT rL rT loL hiL loT hiT (lgT S n) (dgK (lgT S n) p) w wr))
   case atStart => exact ⟨0, rfl, Nat.zero_le _, Nat.le_refl _, hI9 (by rw [dgK_zero]; exact K0.out)⟩
   case round =>
    clear K0 x0
    obtain ⟨p, rfl, hp, hgz, K0⟩ := hrel
    by_cases hpl : p < P
    case pos =>
     have hplz : (p : Int) < (P : Int) := by omega
     have n15 := K0.out.n.cell 15
     simp only [gtA, gtS, gtZ] at n15
     obtain ⟨cr, -, -, co⟩ := K0.out.t.o p hpl
     have cc := K0.out.t.cell hpl hpl
     have fr := K0.out.t.fr hpl p
     go_wp2_with (fail)
     have nK := hI9 (K0.out.setT hpl rfl)
     clear K0 n15 co cc fr
     go_roundg (P - (p + 1))
     case measure => omega
     case rel => exact ⟨p + 1, by first | rfl | go_num | (congr 1; omega), by omega, Nat.le_refl _, nK⟩
    obtain rfl : P = p := by omega
    have x0 : wr.cell? ⟨w.heap.size, 0, none⟩ = some (.int .i64 (P : Int)) := by rw [← HP.out]; exact K0.out.x.cell 0
    go_wp2_with (fail)
    obtain ⟨t0, ht0⟩ : ∃ q, q = dgK (lgT S n) P := ⟨_, rfl⟩
    have HT0 := hI9 ht0
    rw [← ht0] at K0
    clear ht0
    go_loopg [115] P (fun gy v wr => ∃ y : Nat, v = .int .i64 y ∧ y ≤ P ∧ P - y ≤ gy ∧ Hid (NeK M vF vS P w.heap.size gN gL gT cL cT rL rT loL hiL loT hiT (lgT S n) (flO P y t0) w wr))
    case atStart => exact ⟨0, rfl, Nat.zero_le _, Nat.le_refl _, K0⟩
    case round =>
     clear K0 x0
     obtain ⟨y, rfl, hy, hgx, K0⟩ := hrel
     have x0 : wr.cell? ⟨w.heap.size, 0, none⟩ = some (.int .i64 (P : Int)) := by rw [← HP.out]; exact K0.out.x.cell 0
     by_cases hyl : y < P
     case pos =>
      have hylz : (y : Int) < (P : Int) := by omega
      go_wp2_with (fail)
      go_loopg [120] P (fun gy v wr => ∃ a : Nat, v = .int .i64 a ∧ a ≤ P ∧ P - a ≤ gy ∧ Hid (NeK M vF vS P w.heap.size gN gL gT cL cT rL rT loL hiL loT hiT (lgT S n) (flA P y a (flO P y t0)) w wr))
      case atStart => exact ⟨0, rfl, Nat.zero_le _, Nat.le_refl _, K0⟩
      case round =>
       clear K0 x0
       obtain ⟨a, rfl, ha, hgw, K0⟩ := hrel
       have x0 : wr.cell? ⟨w.heap.size, 0, none⟩ = some (.int .i64 (P : Int)) := by rw [← HP.out]; exact K0.out.x.cell 0
       by_cases hal : a < P
       case pos =>
        have halz : (a : Int) < (P : Int) := by omega
        go_wp2_with (fail)
        go_loopg [125] P (fun gy v wr => ∃ b : Nat, v = .int .i64 b ∧ b ≤ P ∧ P - b ≤ gy ∧ Hid (NeK M vF vS P w.heap.size gN gL gT cL cT rL rT loL hiL loT hiT (lgT S n) (flB y a b (flA P y a (flO P y t0))) w wr))
        case atStart => exact ⟨0, rfl, Nat.zero_le _, Nat.le_refl _, K0⟩
        case round =>
         clear K0 x0
         obtain ⟨b, rfl, hb, hgv, K0⟩ := hrel
         by_cases hbl : b < P
         case pos =>
          have hblz : (b : Int) < (P : Int) := by omega
          have hst := flO_step (n := P) (t := t0) (HT0.out ▸ dgK_in HNK.out.2) hp2 hyl hal hbl
          obtain ⟨T0, hT⟩ : ∃ q, q = flB y a b (flA P y a (flO P y t0)) := ⟨_, rfl⟩
          have HTS := hI9 (show flB y a (b + 1) (flA P y a (flO P y t0)) = flS T0 y a b by rw [hT]; rfl)
          rw [← hT] at K0 hst
          clear hT
          obtain ⟨⟨s1, s2⟩, s3, s4⟩ := hst
          have n15 := K0.out.n.cell 15
          simp only [gtA, gtS, gtZ] at n15
          obtain ⟨cra, -, -, co⟩ := K0.out.t.o a hal
          obtain ⟨cry, -, -, co2⟩ := K0.out.t.o y hyl
          have cc := K0.out.t.cell hal hyl
          have cc2 := K0.out.t.cell hyl hbl
          have HSE := hI9 (show flS T0 y a b = if 0 ≤ T0 a y ∧ 0 ≤ T0 y b then stpT T0 a b (T0 a y + T0 y b) else T0 from rfl)
          generalize T0 a y = u1 at *
          generalize T0 y b = u2 at *
          go_wp2_with (fail)
          (refine wp_region_drawnt 21 (by kernel_rfl) (by kernel_rfl) ?_; simp only [List.take_succ_cons, List.take_zero, List.drop_succ_cons, List.drop_zero]; (repeat (go_big_quiet_step ( fail))); refine wpQuiet_nil ?_; rintro _ ⟨nq, rfl⟩)
          have nK := hI9 (K0.out.below (bdn (RowKit.Below.refl _ _) nq))
          clear K0 co co2 cc cc2 n15
          have K0 := nK
          clear nK
          generalize wr.drewN nq = wr at *
          have n15 := K0.out.n.cell 15
          simp only [gtA, gtS, gtZ] at n15
          by_cases h1 : 0 ≤ u1
          case neg =>
           have z1 : decide (0 ≤ u1) = false := decide_eq_false h1
           go_wp2_with (fail)
           go_roundg (P - (b + 1))
           case measure => omega
           case rel => exact ⟨b + 1, by first | rfl | go_num | (congr 1; omega), by omega, Nat.le_refl _, hI9 (by rw [HTS.out, HSE.out, if_neg (by omega)]; exact K0.out)⟩
          by_cases h2 : 0 ≤ u2
          case neg =>
           have z2 : decide (0 ≤ u2) = false := decide_eq_false h2
           go_wp2_with (fail)
           go_roundg (P - (b + 1))
           case measure => omega
           case rel => exact ⟨b + 1, by first | rfl | go_num | (congr 1; omega), by omega, Nat.le_refl _, hI9 (by rw [HTS.out, HSE.out, if_neg (by omega)]; exact K0.out)⟩
          go_wp2_with (fail)
          refine (short_c (c := cT) (x := u1 + u2) K0.out.t hal hbl).mono ?_
          rintro e w5 ⟨rfl, hw5⟩
          have nK := hI9 (K0.out.shT (b := b) hal (u1 + u2) hw5)
          clear K0 hw5 n15
          go_wp2_with (fail)
          go_roundg (P - (b + 1))
          case measure => omega
          case rel => exact ⟨b + 1, by first | rfl | go_num | (congr 1; omega), by omega, Nat.le_refl _, hI9 (by rw [HTS.out, HSE.out, if_pos ⟨h1, h2⟩]; exact nK.out)⟩
         obtain rfl : P = b := by omega
         go_wp2_with (fail)
         go_roundg (P - (a + 1))
         case measure => omega
         case rel => exact ⟨a + 1, by first | rfl | go_num | (congr 1; omega), by omega, Nat.le_refl _, K0⟩
       obtain rfl : P = a := by omega
       clear x0
       go_wp2_with (fail)
       go_roundg (P - (y + 1))
       case measure => omega
       case rel => exact ⟨y + 1, by first | rfl | go_num | (congr 1; omega), by omega, Nat.le_refl _, K0⟩
     obtain rfl : P = y := by omega
     clear x0
     go_wp2_with (fail)
     go_ret2
     exact ⟨_, by rw [HNE.out]; rfl, K0.out.b, fun _ => ⟨gN, gL, gT, cL, cT, rL, rT, loL, hiL, loT, hiT, rfl, K0.out.n, K0.out.l, by have := K0.out.t; rw [HT0.out] at this; exact this⟩⟩
end Go.Proofs.YtlabfpjlckdmfaaGreat
