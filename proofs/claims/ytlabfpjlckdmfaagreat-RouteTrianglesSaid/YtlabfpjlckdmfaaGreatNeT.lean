import Derived.Test.YtlabfpjlckdmfaaGreatNeS
import Derived.Test.YtlabfpjlckdmfaaGreatJAS
import Derived.Test.YtlabfpjlckdmfaaGreatJAR
set_option linter.all false
namespace Go.Proofs.YtlabfpjlckdmfaaGreat
open Go Go.RowKit Go.Proofs
set_option maxRecDepth 100000
set_option maxHeartbeats 80000000
theorem wpl_pickb {P : Program} {ops : Array Oper} {rest : List Oper} {o : Oper} {a : Act} {w : World} {Q : Exit → Act → World → Prop} (hg : o.guard = none) (c x y : Operand) (ho : o.op = .pick c x y)
    (b : Bool) (hc : a.eval c = .bool b) (v : Value) (h1 : b = true → a.eval x = v) (h2 : b = false → a.eval y = v) (h : wpList P ops Q rest (a.put o.dst v) w) : wpList P ops Q (o :: rest) a w := by
  refine wpList_plain hg fun K hK => ?_
  have e : o.wp P a w K Q = K (a.put o.dst (if b then a.eval x else a.eval y)) w := by
    unfold Oper.wp execOp
    simp only [ho, hc]
    rfl
  rw [e]
  refine hK _ _ ?_
  cases b
  · rw [if_neg (by decide), h2 rfl]; exact h
  · rw [if_pos rfl, h1 rfl]; exact h
def tjR (gG gF bR oR m cR i j : Nat) (sa sb fa fb : Int) (pA pB pC pD q1 q2 J : Bool) : Nat → Value → World → Prop := fun k v _ => (([fun v => v = .pointer (some ⟨gG, 0, none⟩), fun v => v = .int .i64 sa, fun v => v = .pointer (some ⟨gF, 0, none⟩), fun v => v = .slice (some ⟨bR, oR, none⟩) m cR, fun v => v = .int .i64 (i : Int), fun v => v = .int .i64 (j : Int), fun v => v = .pointer (some ⟨bR, oR + j, none⟩), fun v => v = .int .i64 fa, fun v => v = .bool pA, fun v => v = .bool pA, fun v => (pA = true → v = .pointer (some ⟨gG, 1, none⟩)), fun v => (pA = true → v = .int .i64 sb), fun v => (pA = true → v = .pointer (some ⟨gF, 0, none⟩)), fun v => (pA = true → v = .slice (some ⟨bR, oR, none⟩) m cR), fun v => (pA = true → v = .int .i64 (i : Int)), fun v => (pA = true → v = .pointer (some ⟨bR, oR + i, none⟩)), fun v => (pA = true → v = .int .i64 fb), fun v => (pA = true → v = .bool pB), fun v => v = .bool q1, fun v => v = .bool q1, fun v => (q1 = false → v = .pointer (some ⟨gG, 1, none⟩)), fun v => (q1 = false → v = .int .i64 sb), fun v => (q1 = false → v = .pointer (some ⟨gF, 0, none⟩)), fun v => (q1 = false → v = .slice (some ⟨bR, oR, none⟩) m cR), fun v => (q1 = false → v = .int .i64 (i : Int)), fun v => (q1 = false → v = .int .i64 (j : Int)), fun v => (q1 = false → v = .pointer (some ⟨bR, oR + j, none⟩)), fun v => (q1 = false → v = .int .i64 fa), fun v => (q1 = false → v = .bool pC), fun v => v = (bif q1 then undef else .bool pC), fun v => (q1 = false → pC = true → v = .pointer (some ⟨gG, 0, none⟩)), fun v => (q1 = false → pC = true → v = .int .i64 sa), fun v => (q1 = false → pC = true → v = .pointer (some ⟨gF, 0, none⟩)), fun v => (q1 = false → pC = true → v = .slice (some ⟨bR, oR, none⟩) m cR), fun v => (q1 = false → pC = true → v = .int .i64 (i : Int)), fun v => (q1 = false → pC = true → v = .pointer (some ⟨bR, oR + i, none⟩)), fun v => (q1 = false → pC = true → v = .int .i64 fb), fun v => (q1 = false → pC = true → v = .bool pD), fun v => (q1 = false → v = .bool q2), fun v => v = .bool J] : List (Value → Prop))[k]?.getD (fun _ => True)) v
theorem tjR_below {gG gF bR oR m cR i j : Nat} {sa sb fa fb : Int} {pA pB pC pD q1 q2 J : Bool} (k : Nat) (v : Value) (w w' : World) (_ : Below w.heap.size w w') (h : tjR gG gF bR oR m cR i j sa sb fa fb pA pB pC pD q1 q2 J k v w) : tjR gG gF bR oR m cR i j sa sb fa fb pA pB pC pD q1 q2 J k v w' := h
def tkR (gG bA oA m cA i j : Nat) (st ti tj : Int) (J : Bool) : Nat → Value → World → Prop := fun k v _ => (([fun v => v = .bool J, fun v => v = .bool J, fun v => (J = true → v = .pointer (some ⟨gG, 2, none⟩)), fun v => (J = true → v = .int .i64 st), fun v => (J = true → v = .slice (some ⟨bA, oA, none⟩) m cA), fun v => (J = true → v = .int .i64 (i : Int)), fun v => (J = true → v = .pointer (some ⟨bA, oA + i, none⟩)), fun v => (J = true → v = .int .i64 ti), fun v => (J = true → v = .slice (some ⟨bA, oA, none⟩) m cA), fun v => (J = true → v = .int .i64 (i : Int)), fun v => (J = true → v = .int .i64 (j : Int)), fun v => (J = true → v = .pointer (some ⟨bA, oA + j, none⟩)), fun v => (J = true → v = .int .i64 tj), fun v => (J = true → v = .int .i64 (ti - tj)), fun v => (J = true → v = .bool false)] : List (Value → Prop))[k]?.getD (fun _ => True)) v
theorem tkR_below {gG bA oA m cA i j : Nat} {st ti tj : Int} {J : Bool} (k : Nat) (v : Value) (w w' : World) (_ : Below w.heap.size w w') (h : tkR gG bA oA m cA i j st ti tj J k v w) : tkR gG bA oA m cA i j st ti tj J k v w' := h
def tlR (gG bA oA m cA i j : Nat) (st ti tj : Int) (bs J pE : Bool) : Nat → Value → World → Prop := fun k v _ => (([fun v => v = .bool bs, fun v => v = .bool bs, fun v => (bs = false → v = .bool J), fun v => v = (bif bs then undef else .bool J), fun v => (bs = false → J = true → v = .pointer (some ⟨gG, 2, none⟩)), fun v => (bs = false → J = true → v = .int .i64 st), fun v => (bs = false → J = true → v = .slice (some ⟨bA, oA, none⟩) m cA), fun v => (bs = false → J = true → v = .int .i64 (i : Int)), fun v => (bs = false → J = true → v = .pointer (some ⟨bA, oA + i, none⟩)), fun v => (bs = false → J = true → v = .int .i64 ti), fun v => (bs = false → J = true → v = .slice (some ⟨bA, oA, none⟩) m cA), fun v => (bs = false → J = true → v = .int .i64 (i : Int)), fun v => (bs = false → J = true → v = .int .i64 (j : Int)), fun v => (bs = false → J = true → v = .pointer (some ⟨bA, oA + j, none⟩)), fun v => (bs = false → J = true → v = .int .i64 tj), fun v => (bs = false → J = true → v = .int .i64 (ti - tj)), fun v => (bs = false → J = true → v = .bool pE), fun v => (bs = false → v = .bool (J && pE)), fun v => v = .bool (bs || (J && pE))] : List (Value → Prop))[k]?.getD (fun _ => True)) v
theorem tlR_below {gG bA oA m cA i j : Nat} {st ti tj : Int} {bs J pE : Bool} (k : Nat) (v : Value) (w w' : World) (_ : Below w.heap.size w w') (h : tlR gG bA oA m cA i j st ti tj bs J pE k v w) : tlR gG bA oA m cA i j st ti tj bs J pE k v w' := h
def tgR (gT P cT ra rb ca cb a b : Nat) (x : Int) (q : Bool) : Nat → Value → World → Prop := fun k v _ => (([fun v => v = .slice (some ⟨gT, 0, none⟩) P cT, fun v => v = .int .i64 (a : Int), fun v => v = .pointer (some ⟨gT, a, none⟩), fun v => v = .slice (some ⟨ra, 0, none⟩) P ca, fun v => v = .int .i64 (b : Int), fun v => v = .pointer (some ⟨ra, b, none⟩), fun v => v = .int .i64 x, fun v => v = .slice (some ⟨gT, 0, none⟩) P cT, fun v => v = .int .i64 (b : Int), fun v => v = .pointer (some ⟨gT, b, none⟩), fun v => v = .slice (some ⟨rb, 0, none⟩) P cb, fun v => v = .int .i64 (a : Int), fun v => v = .pointer (some ⟨rb, a, none⟩), fun v => v = .int .i64 x, fun v => v = .bool false, fun v => v = .bool false, fun v => v = .slice (some ⟨gT, 0, none⟩) P cT, fun v => v = .int .i64 (a : Int), fun v => v = .pointer (some ⟨gT, a, none⟩), fun v => v = .slice (some ⟨ra, 0, none⟩) P ca, fun v => v = .int .i64 (b : Int), fun v => v = .pointer (some ⟨ra, b, none⟩), fun v => v = .int .i64 x, fun v => v = .bool false, fun v => v = .bool false, fun v => v = .bool false, fun v => v = .int .i64 (a : Int), fun v => v = .int .i64 (b : Int), fun v => v = .bool q, fun v => v = .bool q, fun v => (q = true → v = .slice (some ⟨gT, 0, none⟩) P cT), fun v => (q = true → v = .int .i64 (a : Int)), fun v => (q = true → v = .pointer (some ⟨gT, a, none⟩)), fun v => (q = true → v = .slice (some ⟨ra, 0, none⟩) P ca), fun v => (q = true → v = .int .i64 (b : Int)), fun v => (q = true → v = .pointer (some ⟨ra, b, none⟩)), fun v => (q = true → v = .int .i64 x), fun v => (q = true → v = .bool false), fun v => v = .bool false] : List (Value → Prop))[k]?.getD (fun _ => True)) v
theorem tgR_below {gT P cT ra rb ca cb a b : Nat} {x : Int} {q : Bool} (k : Nat) (v : Value) (w w' : World) (_ : Below w.heap.size w w') (h : tgR gT P cT ra rb ca cb a b x q k v w) : tgR gT P cT ra rb ca cb a b x q k v w' := h
def tfR (gT P cT ra rc ca cc a b c3 : Nat) (xu xv xw : Int) (pu pv q : Bool) : Nat → Value → World → Prop := fun k v _ => (([fun v => v = .slice (some ⟨gT, 0, none⟩) P cT, fun v => v = .int .i64 (a : Int), fun v => v = .pointer (some ⟨gT, a, none⟩), fun v => v = .slice (some ⟨ra, 0, none⟩) P ca, fun v => v = .int .i64 (c3 : Int), fun v => v = .pointer (some ⟨ra, c3, none⟩), fun v => v = .int .i64 xu, fun v => v = .bool pu, fun v => v = .bool pu, fun v => (pu = true → v = .slice (some ⟨gT, 0, none⟩) P cT), fun v => (pu = true → v = .int .i64 (c3 : Int)), fun v => (pu = true → v = .pointer (some ⟨gT, c3, none⟩)), fun v => (pu = true → v = .slice (some ⟨rc, 0, none⟩) P cc), fun v => (pu = true → v = .int .i64 (b : Int)), fun v => (pu = true → v = .pointer (some ⟨rc, b, none⟩)), fun v => (pu = true → v = .int .i64 xv), fun v => (pu = true → v = .bool pv), fun v => v = .bool q, fun v => v = .bool q, fun v => (q = true → v = .slice (some ⟨gT, 0, none⟩) P cT), fun v => (q = true → v = .int .i64 (a : Int)), fun v => (q = true → v = .pointer (some ⟨gT, a, none⟩)), fun v => (q = true → v = .slice (some ⟨ra, 0, none⟩) P ca), fun v => (q = true → v = .int .i64 (b : Int)), fun v => (q = true → v = .pointer (some ⟨ra, b, none⟩)), fun v => (q = true → v = .int .i64 xw), fun v => (q = true → v = .bool false), fun v => v = (bif q then .bool false else undef), fun v => (q = true → v = .slice (some ⟨gT, 0, none⟩) P cT), fun v => (q = true → v = .int .i64 (a : Int)), fun v => (q = true → v = .pointer (some ⟨gT, a, none⟩)), fun v => (q = true → v = .slice (some ⟨ra, 0, none⟩) P ca), fun v => (q = true → v = .int .i64 (b : Int)), fun v => (q = true → v = .pointer (some ⟨ra, b, none⟩)), fun v => (q = true → v = .int .i64 xw), fun v => (q = true → v = .slice (some ⟨gT, 0, none⟩) P cT), fun v => (q = true → v = .int .i64 (a : Int)), fun v => (q = true → v = .pointer (some ⟨gT, a, none⟩)), fun v => (q = true → v = .slice (some ⟨ra, 0, none⟩) P ca), fun v => (q = true → v = .int .i64 (c3 : Int)), fun v => (q = true → v = .pointer (some ⟨ra, c3, none⟩)), fun v => (q = true → v = .int .i64 xu), fun v => (q = true → v = .slice (some ⟨gT, 0, none⟩) P cT), fun v => (q = true → v = .int .i64 (c3 : Int)), fun v => (q = true → v = .pointer (some ⟨gT, c3, none⟩)), fun v => (q = true → v = .slice (some ⟨rc, 0, none⟩) P cc), fun v => (q = true → v = .int .i64 (b : Int)), fun v => (q = true → v = .pointer (some ⟨rc, b, none⟩)), fun v => (q = true → v = .int .i64 xv), fun v => (q = true → v = .int .i64 (xu + xv)), fun v => (q = true → v = .bool false), fun v => (q = true → v = .bool false)] : List (Value → Prop))[k]?.getD (fun _ => True)) v
theorem tfR_below {gT P cT ra rc ca cc a b c3 : Nat} {xu xv xw : Int} {pu pv q : Bool} (k : Nat) (v : Value) (w w' : World) (_ : Below w.heap.size w w') (h : tfR gT P cT ra rc ca cc a b c3 xu xv xw pu pv q k v w) : tfR gT P cT ra rc ca cc a b c3 xu xv xw pu pv q k v w' := h
theorem RouteTriangles_c (M : MetD) (vF vS : Value) (lw ls lc : Int) (li lb : Bool) (A : Option Addr) (n c : Nat) (S : Tab) (F : FliD) (vR : Value) (w : World) (hM : MetAt w vF vS M) (hc1 : n ≤ c) (hc2 : c ≤ 9223372036854775807) (hL : RecsAt w A n 3 (nV S)) (hR : SlI w vR F.m F.R) :
   Calls Tryz.prog 3 #[.agg #[.int .i64 M.places, .int .i64 M.any.a0, .int .i64 M.any.a1, .int .i64 M.any.a2, .int .i64 M.any.a3, .int .i64 M.any.a4, .int .i64 M.any.a5, .bool M.any.i, .bool M.any.s, .int .i64 M.mw, .int .i64 M.ms, .int .i64 M.mc, vF, vS, .int .i64 lw, .int .i64 ls, .int .i64 lc, .bool li, .bool lb, .slice A n c], .agg #[vR, .int .i64 F.dep, .int .i64 F.fuel, .int .i64 F.burn, .int .i64 F.res]] w fun e w' => e = .returned (.bool true) ∧ RowKit.Below w.heap.size w w' := by
  have HR := hI9 hR
  obtain ⟨AR, cR, rfl, -, -, -⟩ := hR
  have hcn := fun w1 h1 h2 => r5CheckNet_c M vF vS A n c S w1 h1 hc1 hc2 h2
  have hti := fun w1 h1 h2 => rTimes_c M vF vS A n c S w1 h1 hc1 hc2 h2
  have har := fun w1 h1 h2 h3 => rArrive_c M vF vS A n c S F (.slice AR F.m cR) w1 h1 hc1 hc2 h2 h3
  have hcr := fun w1 h1 h2 h3 => r5Check_c M vF vS A n c S F (.slice AR F.m cR) w1 h1 hc1 hc2 h2 h3
  have HM := hI9 hM
  have HL := hI9 hL
  clear hM hL
  obtain ⟨E, hE⟩ : ∃ q, q = netE M S n := ⟨_, rfl⟩
  obtain ⟨NE, hNE⟩ : ∃ q, q = nfE E M S n F := ⟨_, rfl⟩
  rw [← hE] at hcn hti har hcr
  rw [← hNE] at har hcr
  have HCN := hI9 hcn
  have HTI := hI9 hti
  have HAR := hI9 har
  have HCR := hI9 hcr
  clear hcn hti har hcr
  by_cases h0 : E = 0
  case neg =>
    have hz : (E != 0) = true := by simpa using h0
    clear h0 hE hNE
    go_enter Tryz.func3, Tryz.ntmps3
    go_wp2_with (fail)
    have _x := frm2 w #[.int .i64 M.places, .int .i64 M.any.a0, .int .i64 M.any.a1, .int .i64 M.any.a2, .int .i64 M.any.a3, .int .i64 M.any.a4, .int .i64 M.any.a5, .bool M.any.i, .bool M.any.s, .int .i64 M.mw, .int .i64 M.ms, .int .i64 M.mc, vF, vS, .int .i64 lw, .int .i64 ls, .int .i64 lc, .bool li, .bool lb, .slice A n c] 34 #[.slice AR F.m cR, .int .i64 F.dep, .int .i64 F.fuel, .int .i64 F.burn, .int .i64 F.res] 37
    have HX := hI9 _x.1
    have HY := hI9 _x.2.1
    have HB := hI9 _x.2.2.1
    have zW := _x.2.2.2
    clear _x
    generalize World.alloc (World.alloc w _) _ = W at *
    have x19 := HX.out.cell 19
    simp only [gtA, gtS, gtZ] at x19
    go_wp2_with (first | (refine wpl_mid rfl 29 _ rfl _ 0 rfl 34 #[.int .i64 M.places, .int .i64 M.any.a0, .int .i64 M.any.a1, .int .i64 M.any.a2, .int .i64 M.any.a3, .int .i64 M.any.a4, .int .i64 M.any.a5, .bool M.any.i, .bool M.any.s, .int .i64 M.mw, .int .i64 M.ms, .int .i64 M.mc, vF, vS, .int .i64 lw, .int .i64 ls, .int .i64 lc, .bool li, .bool lb, .slice A n c] #[.int .i64 M.places, .int .i64 M.any.a0, .int .i64 M.any.a1, .int .i64 M.any.a2, .int .i64 M.any.a3, .int .i64 M.any.a4, .int .i64 M.any.a5, .bool M.any.i, .bool M.any.s, .int .i64 M.mw, .int .i64 M.ms, .int .i64 M.mc, vF, vS] 14 HX.out Tryz.rowMet [] [.int .i64 lw, .int .i64 ls, .int .i64 lc, .bool li, .bool lb, .slice A n c] rfl rfl rfl ?_; simp only [Act.put]) | (go_at_call 6; (with_reducible refine (HCN.out _ (HM.out.below HB.out) (HL.out.below HB.out)).mono ?_); rintro e w1 ⟨rfl, hb1⟩; have nHX := hI9 (HX.out.below hb1); have nHY := hI9 (HY.out.below hb1); have nHB := hI9 (bthen HB.out hb1); have zz1 := hb1.size; clear HX HY HB hb1; have HX := nHX; have HY := nHY; have HB := nHB; clear nHX nHY nHB) | (go_at_call 7; (with_reducible refine (rworks_c _).mono ?_); rintro e w1 ⟨rfl, hb1⟩; have nHX := hI9 (HX.out.below hb1); have nHY := hI9 (HY.out.below hb1); have nHB := hI9 (bthen HB.out hb1); have zz1 := hb1.size; clear HX HY HB hb1; have HX := nHX; have HY := nHY; have HB := nHB; clear nHX nHY nHB))
    go_ret
    exact ⟨rfl, HB.out⟩
  subst h0
  obtain ⟨f1, f2⟩ := netE_ok hE.symm
  obtain ⟨hP, hp8, hlin, hN⟩ := net_facts f1 f2
  have HNE := hI9 hNE
  obtain ⟨P, hPP⟩ : ∃ P, P = M.places.toNat := ⟨_, rfl⟩
  rw [← hPP] at hP hp8 hN hlin HTI
  have HT := hI9 (timT_tri hN)
  have HN := hI9 hN
  have HLIN := hI9 hlin
  have HPP := hI9 hPP
  have HPE := hI9 hP
  clear f1 f2 hE hNE hlin hN hPP hP
  obtain ⟨hp1, hp8⟩ := hp8
  go_enter Tryz.func3, Tryz.ntmps3
  go_wp2_with (fail)
  have _x := frm2 w #[.int .i64 M.places, .int .i64 M.any.a0, .int .i64 M.any.a1, .int .i64 M.any.a2, .int .i64 M.any.a3, .int .i64 M.any.a4, .int .i64 M.any.a5, .bool M.any.i, .bool M.any.s, .int .i64 M.mw, .int .i64 M.ms, .int .i64 M.mc, vF, vS, .int .i64 lw, .int .i64 ls, .int .i64 lc, .bool li, .bool lb, .slice A n c] 34 #[.slice AR F.m cR, .int .i64 F.dep, .int .i64 F.fuel, .int .i64 F.burn, .int .i64 F.res] 37
  have HX := hI9 _x.1
  have HY := hI9 _x.2.1
  have HB := hI9 _x.2.2.1
  have zW := _x.2.2.2
  clear _x
  generalize World.alloc (World.alloc w _) _ = W at *
  have x19 := HX.out.cell 19
  simp only [gtA, gtS, gtZ] at x19
  go_wp2_with (first | (refine wpl_mid rfl 29 _ rfl _ 0 rfl 34 #[.int .i64 M.places, .int .i64 M.any.a0, .int .i64 M.any.a1, .int .i64 M.any.a2, .int .i64 M.any.a3, .int .i64 M.any.a4, .int .i64 M.any.a5, .bool M.any.i, .bool M.any.s, .int .i64 M.mw, .int .i64 M.ms, .int .i64 M.mc, vF, vS, .int .i64 lw, .int .i64 ls, .int .i64 lc, .bool li, .bool lb, .slice A n c] #[.int .i64 M.places, .int .i64 M.any.a0, .int .i64 M.any.a1, .int .i64 M.any.a2, .int .i64 M.any.a3, .int .i64 M.any.a4, .int .i64 M.any.a5, .bool M.any.i, .bool M.any.s, .int .i64 M.mw, .int .i64 M.ms, .int .i64 M.mc, vF, vS] 14 HX.out Tryz.rowMet [] [.int .i64 lw, .int .i64 ls, .int .i64 lc, .bool li, .bool lb, .slice A n c] rfl rfl rfl ?_; simp only [Act.put]) | (go_at_call 6; (with_reducible refine (HCN.out _ (HM.out.below HB.out) (HL.out.below HB.out)).mono ?_); rintro e w1 ⟨rfl, hb1⟩; have nHX := hI9 (HX.out.below hb1); have nHY := hI9 (HY.out.below hb1); have nHB := hI9 (bthen HB.out hb1); have zz1 := hb1.size; clear HX HY HB hb1; have HX := nHX; have HY := nHY; have HB := nHB; clear nHX nHY nHB; (try clear zHX); have zHX := HX.out.lt; (try clear cHX19); have cHX19 := HX.out.cell 19))
  refine (HTI.out _ (HM.out.below HB.out) (HL.out.below HB.out)).mono ?_
  rintro e w2 ⟨v, rfl, hb2, hv⟩
  obtain ⟨gT, cT, lo, hi, rT, rfl, hs⟩ := hv.1 rfl
  have HSQ0 := hI9 hs
  clear hs hv x19
  have nHX := hI9 (HX.out.below hb2)
  have nHY := hI9 (HY.out.below hb2)
  have nHB := hI9 (bthen HB.out hb2)
  clear HX HY HB hb2
  have HX := nHX
  have HY := nHY
  have HB := nHB
  clear nHX nHY nHB
  have x0 : w2.cell? ⟨w.heap.size, 0, none⟩ = some (.int .i64 (P : Int)) := by rw [← HPE.out]; exact HX.out.cell 0
  have HTB := hI9 (fun a b (ha : a < P) (hb : b < P) => (timT_in HN.out hp8).1 a ha b hb)
  go_wp2_with (fail)
  go_loopg [8] P (fun gy iv wr => ∃ a : Nat, iv = .int .i64 a ∧ a ≤ P ∧ P - a ≤ gy ∧ Hid (RowKit.Below w2.heap.size w2 wr))
  case atStart => exact ⟨0, rfl, Nat.zero_le _, Nat.sub_le _ _, hI9 (RowKit.Below.refl _ _)⟩
  case round =>
    clear x0
    obtain ⟨a, rfl, ha, hgy, HW⟩ := hrel
    by_cases hlt : a < P
    case pos =>
      have haz : (a : Int) < (P : Int) := by omega
      obtain ⟨ca, -, -, co⟩ := (HSQ0.out.below HW.out).o a hlt
      have cc := (HSQ0.out.below HW.out).cell hlt hlt
      rw [HT.out.dg a hlt] at cc
      go_wp2_with (fail)
      go_roundg (P - (a + 1))
      case measure => omega
      case rel => exact ⟨a + 1, by first | rfl | go_num | (congr 1; omega), by omega, Nat.le_refl _, HW⟩
    obtain rfl : P = a := by omega
    go_wp2_with (fail)
    have HWA := HW
    go_loopg [9] P (fun gy iv wr => ∃ a : Nat, iv = .int .i64 a ∧ a ≤ P ∧ P - a ≤ gy ∧ Hid (RowKit.Below w2.heap.size w2 wr))
    case atStart => exact ⟨0, rfl, Nat.zero_le _, Nat.sub_le _ _, HWA⟩
    case round =>
      clear HW HWA
      obtain ⟨a, rfl, ha, hgy, HW⟩ := hrel
      by_cases hlt : a < P
      case pos =>
        have haz : (a : Int) < (P : Int) := by omega
        go_wp2_with (fail)
        have HWA := HW
        go_loopg [10] P (fun gy iv wr => ∃ b : Nat, iv = .int .i64 b ∧ b ≤ P ∧ P - b ≤ gy ∧ Hid (RowKit.Below w2.heap.size w2 wr))
        case atStart => exact ⟨0, rfl, Nat.zero_le _, Nat.sub_le _ _, HWA⟩
        case round =>
          clear HW HWA
          obtain ⟨b, rfl, hb, hgy2, HW⟩ := hrel
          by_cases hltb : b < P
          case pos =>
            have hbz : (b : Int) < (P : Int) := by omega
            obtain ⟨ca, -, -, co⟩ := (HSQ0.out.below HW.out).o a hlt
            obtain ⟨cb, -, -, cob⟩ := (HSQ0.out.below HW.out).o b hltb
            have cc := (HSQ0.out.below HW.out).cell hlt hltb
            have ccb := (HSQ0.out.below HW.out).cell hltb hlt
            rw [← HT.out.sym a b hlt hltb] at ccb
            have hlo := HT.out.lo a b hlt hltb
            have hof := HT.out.off a b hlt hltb
            have HXV : ∃ x, x = timT S n P a b := ⟨_, rfl⟩
            obtain ⟨x, hx⟩ := HXV
            rw [← hx] at cc ccb hlo hof
            have HX0 := hI9 hx
            clear hx
            obtain ⟨q, hq⟩ : ∃ q, q = ((a : Int) != (b : Int)) := ⟨_, rfl⟩
            have HZ := hI9 (show q = true → (x == 0) = false from fun h => by
              have h2 : a ≠ b := by intro e; subst e; rw [hq] at h; simp at h
              simpa using hof h2)
            have HQ := hI9 hq
            have hx1 : ¬ x < -1 := by omega
            have hgl : gT < wr.heap.size := by have := (HSQ0.out.below HW.out).gl; omega
            have hga : rT a < wr.heap.size := by have := (HSQ0.out.below HW.out).gl; have := (HSQ0.out.below HW.out).rl a hlt; omega
            have hgb : rT b < wr.heap.size := by have := (HSQ0.out.below HW.out).gl; have := (HSQ0.out.below HW.out).rl b hltb; omega
            have HC1 := hI9 (fun w1 (h : RowKit.Below wr.heap.size wr w1) => (h.cell (p := ⟨gT, a, none⟩) hgl).trans co)
            have HC2 := hI9 (fun w1 (h : RowKit.Below wr.heap.size wr w1) => (h.cell (p := ⟨rT a, b, none⟩) hga).trans cc)
            have HC3 := hI9 (fun w1 (h : RowKit.Below wr.heap.size wr w1) => (h.cell (p := ⟨gT, b, none⟩) hgl).trans cob)
            have HC4 := hI9 (fun w1 (h : RowKit.Below wr.heap.size wr w1) => (h.cell (p := ⟨rT b, a, none⟩) hgb).trans ccb)
            clear hof hq co cc cob ccb hlo hga hgb
            go_wp2_with (fail)
            refine wp_region_spec 39 (tgR gT P cT (rT a) (rT b) ca cb a b x q) (fun i => false) (by kernel_rfl) (by kernel_rfl) tgR_below ?hop1 ?htail1
            case hop1 =>
              simp only [List.take_succ_cons, List.take_zero, allOps]
              refine ⟨?_, ?_, ?_, ?_, ?_, ?_, ?_, ?_, ?_, ?_, ?_, ?_, ?_, ?_, ?_, ?_, ?_, ?_, ?_, ?_, ?_, ?_, ?_, ?_, ?_, ?_, ?_, ?_, ?_, ?_, ?_, ?_, ?_, ?_, ?_, ?_, ?_, ?_, ?_, trivial⟩
              · as_aux_lemma =>
                  intro u A w1 hA hb hd
                  simp only [putAll, dstOf, gtA, gtS, gtZ, Option.bind_some, Option.bind, Act.put, List.setIfInBounds_toArray, List.set_cons_succ, List.set_cons_zero] at hA; subst hA
                  have HB1 := hI9 hb
                  clear hb hd
                  go_wp2
                  exact ⟨_, rfl, Below.refl _ _, rfl, fun h => absurd h (by decide)⟩
              · as_aux_lemma =>
                  intro u A w1 hA hb hd
                  simp only [putAll, dstOf, gtA, gtS, gtZ, Option.bind_some, Option.bind, Act.put, List.setIfInBounds_toArray, List.set_cons_succ, List.set_cons_zero] at hA; subst hA
                  have HB1 := hI9 hb
                  clear hb hd
                  go_wp2
                  exact ⟨_, rfl, Below.refl _ _, rfl, fun h => absurd h (by decide)⟩
              · as_aux_lemma =>
                  intro u A w1 hA hb hd
                  simp only [putAll, dstOf, gtA, gtS, gtZ, Option.bind_some, Option.bind, Act.put, List.setIfInBounds_toArray, List.set_cons_succ, List.set_cons_zero] at hA; subst hA
                  have HB1 := hI9 hb
                  have d0 : u 0 = _ := hd 0 (by omega) (by kernel_rfl)
                  have d1 : u 1 = _ := hd 1 (by omega) (by kernel_rfl)
                  clear hb hd
                  rw [d0, d1]
                  clear d0 d1
                  go_wp2
                  exact ⟨_, rfl, RowKit.Below.refl _ _, (by first | rfl | simp), fun h => absurd h (by decide)⟩
              · as_aux_lemma =>
                  intro u A w1 hA hb hd
                  simp only [putAll, dstOf, gtA, gtS, gtZ, Option.bind_some, Option.bind, Act.put, List.setIfInBounds_toArray, List.set_cons_succ, List.set_cons_zero] at hA; subst hA
                  have HB1 := hI9 hb
                  have d2 : u 2 = _ := hd 2 (by omega) (by kernel_rfl)
                  clear hb hd
                  rw [d2]
                  clear d2
                  have xr := HC1.out _ HB1.out
                  go_wp2
                  exact ⟨_, rfl, Below.refl _ _, rfl, fun h => absurd h (by decide)⟩
              · as_aux_lemma =>
                  intro u A w1 hA hb hd
                  simp only [putAll, dstOf, gtA, gtS, gtZ, Option.bind_some, Option.bind, Act.put, List.setIfInBounds_toArray, List.set_cons_succ, List.set_cons_zero] at hA; subst hA
                  have HB1 := hI9 hb
                  clear hb hd
                  go_wp2
                  exact ⟨_, rfl, Below.refl _ _, rfl, fun h => absurd h (by decide)⟩
              · as_aux_lemma =>
                  intro u A w1 hA hb hd
                  simp only [putAll, dstOf, gtA, gtS, gtZ, Option.bind_some, Option.bind, Act.put, List.setIfInBounds_toArray, List.set_cons_succ, List.set_cons_zero] at hA; subst hA
                  have HB1 := hI9 hb
                  have d3 : u 3 = _ := hd 3 (by omega) (by kernel_rfl)
                  have d4 : u 4 = _ := hd 4 (by omega) (by kernel_rfl)
                  clear hb hd
                  rw [d3, d4]
                  clear d3 d4
                  go_wp2
                  exact ⟨_, rfl, RowKit.Below.refl _ _, (by first | rfl | simp), fun h => absurd h (by decide)⟩
              · as_aux_lemma =>
                  intro u A w1 hA hb hd
                  simp only [putAll, dstOf, gtA, gtS, gtZ, Option.bind_some, Option.bind, Act.put, List.setIfInBounds_toArray, List.set_cons_succ, List.set_cons_zero] at hA; subst hA
                  have HB1 := hI9 hb
                  have d5 : u 5 = _ := hd 5 (by omega) (by kernel_rfl)
                  clear hb hd
                  rw [d5]
                  clear d5
                  have xr := HC2.out _ HB1.out
                  go_wp2
                  exact ⟨_, rfl, Below.refl _ _, rfl, fun h => absurd h (by decide)⟩
              · as_aux_lemma =>
                  intro u A w1 hA hb hd
                  simp only [putAll, dstOf, gtA, gtS, gtZ, Option.bind_some, Option.bind, Act.put, List.setIfInBounds_toArray, List.set_cons_succ, List.set_cons_zero] at hA; subst hA
                  have HB1 := hI9 hb
                  clear hb hd
                  go_wp2
                  exact ⟨_, rfl, Below.refl _ _, rfl, fun h => absurd h (by decide)⟩
              · as_aux_lemma =>
                  intro u A w1 hA hb hd
                  simp only [putAll, dstOf, gtA, gtS, gtZ, Option.bind_some, Option.bind, Act.put, List.setIfInBounds_toArray, List.set_cons_succ, List.set_cons_zero] at hA; subst hA
                  have HB1 := hI9 hb
                  clear hb hd
                  go_wp2
                  exact ⟨_, rfl, Below.refl _ _, rfl, fun h => absurd h (by decide)⟩
              · as_aux_lemma =>
                  intro u A w1 hA hb hd
                  simp only [putAll, dstOf, gtA, gtS, gtZ, Option.bind_some, Option.bind, Act.put, List.setIfInBounds_toArray, List.set_cons_succ, List.set_cons_zero] at hA; subst hA
                  have HB1 := hI9 hb
                  have d7 : u 7 = _ := hd 7 (by omega) (by kernel_rfl)
                  have d8 : u 8 = _ := hd 8 (by omega) (by kernel_rfl)
                  clear hb hd
                  rw [d7, d8]
                  clear d7 d8
                  go_wp2
                  exact ⟨_, rfl, RowKit.Below.refl _ _, (by first | rfl | simp), fun h => absurd h (by decide)⟩
              · as_aux_lemma =>
                  intro u A w1 hA hb hd
                  simp only [putAll, dstOf, gtA, gtS, gtZ, Option.bind_some, Option.bind, Act.put, List.setIfInBounds_toArray, List.set_cons_succ, List.set_cons_zero] at hA; subst hA
                  have HB1 := hI9 hb
                  have d9 : u 9 = _ := hd 9 (by omega) (by kernel_rfl)
                  clear hb hd
                  rw [d9]
                  clear d9
                  have xr := HC3.out _ HB1.out
                  go_wp2
                  exact ⟨_, rfl, Below.refl _ _, rfl, fun h => absurd h (by decide)⟩
              · as_aux_lemma =>
                  intro u A w1 hA hb hd
                  simp only [putAll, dstOf, gtA, gtS, gtZ, Option.bind_some, Option.bind, Act.put, List.setIfInBounds_toArray, List.set_cons_succ, List.set_cons_zero] at hA; subst hA
                  have HB1 := hI9 hb
                  clear hb hd
                  go_wp2
                  exact ⟨_, rfl, Below.refl _ _, rfl, fun h => absurd h (by decide)⟩
              · as_aux_lemma =>
                  intro u A w1 hA hb hd
                  simp only [putAll, dstOf, gtA, gtS, gtZ, Option.bind_some, Option.bind, Act.put, List.setIfInBounds_toArray, List.set_cons_succ, List.set_cons_zero] at hA; subst hA
                  have HB1 := hI9 hb
                  have d10 : u 10 = _ := hd 10 (by omega) (by kernel_rfl)
                  have d11 : u 11 = _ := hd 11 (by omega) (by kernel_rfl)
                  clear hb hd
                  rw [d10, d11]
                  clear d10 d11
                  go_wp2
                  exact ⟨_, rfl, RowKit.Below.refl _ _, (by first | rfl | simp), fun h => absurd h (by decide)⟩
              · as_aux_lemma =>
                  intro u A w1 hA hb hd
                  simp only [putAll, dstOf, gtA, gtS, gtZ, Option.bind_some, Option.bind, Act.put, List.setIfInBounds_toArray, List.set_cons_succ, List.set_cons_zero] at hA; subst hA
                  have HB1 := hI9 hb
                  have d12 : u 12 = _ := hd 12 (by omega) (by kernel_rfl)
                  clear hb hd
                  rw [d12]
                  clear d12
                  have xr := HC4.out _ HB1.out
                  go_wp2
                  exact ⟨_, rfl, Below.refl _ _, rfl, fun h => absurd h (by decide)⟩
              · as_aux_lemma =>
                  intro u A w1 hA hb hd
                  simp only [putAll, dstOf, gtA, gtS, gtZ, Option.bind_some, Option.bind, Act.put, List.setIfInBounds_toArray, List.set_cons_succ, List.set_cons_zero] at hA; subst hA
                  have HB1 := hI9 hb
                  have d6 : u 6 = _ := hd 6 (by omega) (by kernel_rfl)
                  have d13 : u 13 = _ := hd 13 (by omega) (by kernel_rfl)
                  clear hb hd
                  rw [d6, d13]
                  clear d6 d13
                  go_wp2
                  exact ⟨_, rfl, RowKit.Below.refl _ _, (by first | rfl | simp), fun h => absurd h (by decide)⟩
              · as_aux_lemma =>
                  intro u A w1 hA hb hd
                  simp only [putAll, dstOf, gtA, gtS, gtZ, Option.bind_some, Option.bind, Act.put, List.setIfInBounds_toArray, List.set_cons_succ, List.set_cons_zero] at hA; subst hA
                  have HB1 := hI9 hb
                  have d14 : u 14 = _ := hd 14 (by omega) (by kernel_rfl)
                  clear hb hd
                  rw [d14]
                  clear d14
                  go_wp2
                  exact ⟨_, rfl, Below.refl _ _, rfl, fun h => absurd h (by decide)⟩
              · as_aux_lemma =>
                  intro u A w1 hA hb hd
                  simp only [putAll, dstOf, gtA, gtS, gtZ, Option.bind_some, Option.bind, Act.put, List.setIfInBounds_toArray, List.set_cons_succ, List.set_cons_zero] at hA; subst hA
                  have HB1 := hI9 hb
                  have d15 : u 15 = _ := hd 15 (by omega) (by kernel_rfl)
                  clear hb hd
                  rw [d15]
                  clear d15
                  go_wp2
                  exact ⟨_, rfl, Below.refl _ _, rfl, fun h => absurd h (by decide)⟩
              · as_aux_lemma =>
                  intro u A w1 hA hb hd
                  simp only [putAll, dstOf, gtA, gtS, gtZ, Option.bind_some, Option.bind, Act.put, List.setIfInBounds_toArray, List.set_cons_succ, List.set_cons_zero] at hA; subst hA
                  have HB1 := hI9 hb
                  have d15 : u 15 = _ := hd 15 (by omega) (by kernel_rfl)
                  clear hb hd
                  rw [d15]
                  clear d15
                  go_wp2
                  exact ⟨_, rfl, Below.refl _ _, rfl, fun h => absurd h (by decide)⟩
              · as_aux_lemma =>
                  intro u A w1 hA hb hd
                  simp only [putAll, dstOf, gtA, gtS, gtZ, Option.bind_some, Option.bind, Act.put, List.setIfInBounds_toArray, List.set_cons_succ, List.set_cons_zero] at hA; subst hA
                  have HB1 := hI9 hb
                  have d15 : u 15 = _ := hd 15 (by omega) (by kernel_rfl)
                  have d16 : u 16 = _ := hd 16 (by omega) (by kernel_rfl)
                  have d17 : u 17 = _ := hd 17 (by omega) (by kernel_rfl)
                  clear hb hd
                  rw [d15, d16, d17]
                  clear d15 d16 d17
                  go_wp2
                  exact ⟨_, rfl, RowKit.Below.refl _ _, (by first | rfl | simp), fun h => absurd h (by decide)⟩
              · as_aux_lemma =>
                  intro u A w1 hA hb hd
                  simp only [putAll, dstOf, gtA, gtS, gtZ, Option.bind_some, Option.bind, Act.put, List.setIfInBounds_toArray, List.set_cons_succ, List.set_cons_zero] at hA; subst hA
                  have HB1 := hI9 hb
                  have d15 : u 15 = _ := hd 15 (by omega) (by kernel_rfl)
                  have d18 : u 18 = _ := hd 18 (by omega) (by kernel_rfl)
                  clear hb hd
                  rw [d15, d18]
                  clear d15 d18
                  have xr := HC1.out _ HB1.out
                  go_wp2
                  exact ⟨_, rfl, Below.refl _ _, rfl, fun h => absurd h (by decide)⟩
              · as_aux_lemma =>
                  intro u A w1 hA hb hd
                  simp only [putAll, dstOf, gtA, gtS, gtZ, Option.bind_some, Option.bind, Act.put, List.setIfInBounds_toArray, List.set_cons_succ, List.set_cons_zero] at hA; subst hA
                  have HB1 := hI9 hb
                  have d15 : u 15 = _ := hd 15 (by omega) (by kernel_rfl)
                  clear hb hd
                  rw [d15]
                  clear d15
                  go_wp2
                  exact ⟨_, rfl, Below.refl _ _, rfl, fun h => absurd h (by decide)⟩
              · as_aux_lemma =>
                  intro u A w1 hA hb hd
                  simp only [putAll, dstOf, gtA, gtS, gtZ, Option.bind_some, Option.bind, Act.put, List.setIfInBounds_toArray, List.set_cons_succ, List.set_cons_zero] at hA; subst hA
                  have HB1 := hI9 hb
                  have d15 : u 15 = _ := hd 15 (by omega) (by kernel_rfl)
                  have d19 : u 19 = _ := hd 19 (by omega) (by kernel_rfl)
                  have d20 : u 20 = _ := hd 20 (by omega) (by kernel_rfl)
                  clear hb hd
                  rw [d15, d19, d20]
                  clear d15 d19 d20
                  go_wp2
                  exact ⟨_, rfl, RowKit.Below.refl _ _, (by first | rfl | simp), fun h => absurd h (by decide)⟩
              · as_aux_lemma =>
                  intro u A w1 hA hb hd
                  simp only [putAll, dstOf, gtA, gtS, gtZ, Option.bind_some, Option.bind, Act.put, List.setIfInBounds_toArray, List.set_cons_succ, List.set_cons_zero] at hA; subst hA
                  have HB1 := hI9 hb
                  have d15 : u 15 = _ := hd 15 (by omega) (by kernel_rfl)
                  have d21 : u 21 = _ := hd 21 (by omega) (by kernel_rfl)
                  clear hb hd
                  rw [d15, d21]
                  clear d15 d21
                  have xr := HC2.out _ HB1.out
                  go_wp2
                  exact ⟨_, rfl, Below.refl _ _, rfl, fun h => absurd h (by decide)⟩
              · as_aux_lemma =>
                  intro u A w1 hA hb hd
                  simp only [putAll, dstOf, gtA, gtS, gtZ, Option.bind_some, Option.bind, Act.put, List.setIfInBounds_toArray, List.set_cons_succ, List.set_cons_zero] at hA; subst hA
                  have HB1 := hI9 hb
                  have d15 : u 15 = _ := hd 15 (by omega) (by kernel_rfl)
                  have d22 : u 22 = _ := hd 22 (by omega) (by kernel_rfl)
                  clear hb hd
                  rw [d15, d22]
                  clear d15 d22
                  go_wp2
                  exact ⟨_, rfl, RowKit.Below.refl _ _, congrArg Value.bool (decide_eq_false (by omega)), fun h => absurd h (by decide)⟩
              · as_aux_lemma =>
                  intro u A w1 hA hb hd
                  simp only [putAll, dstOf, gtA, gtS, gtZ, Option.bind_some, Option.bind, Act.put, List.setIfInBounds_toArray, List.set_cons_succ, List.set_cons_zero] at hA; subst hA
                  have HB1 := hI9 hb
                  have d15 : u 15 = _ := hd 15 (by omega) (by kernel_rfl)
                  have d23 : u 23 = _ := hd 23 (by omega) (by kernel_rfl)
                  clear hb hd
                  rw [d15, d23]
                  clear d15 d23
                  go_wp2
                  exact ⟨_, rfl, Below.refl _ _, rfl, fun h => absurd h (by decide)⟩
              · as_aux_lemma =>
                  intro u A w1 hA hb hd
                  simp only [putAll, dstOf, gtA, gtS, gtZ, Option.bind_some, Option.bind, Act.put, List.setIfInBounds_toArray, List.set_cons_succ, List.set_cons_zero] at hA; subst hA
                  have HB1 := hI9 hb
                  have d15 : u 15 = _ := hd 15 (by omega) (by kernel_rfl)
                  have d24 : u 24 = _ := hd 24 (by omega) (by kernel_rfl)
                  clear hb hd
                  rw [d15, d24]
                  clear d15 d24
                  go_wp2
                  exact ⟨_, rfl, Below.refl _ _, rfl, fun h => absurd h (by decide)⟩
              · as_aux_lemma =>
                  intro u A w1 hA hb hd
                  simp only [putAll, dstOf, gtA, gtS, gtZ, Option.bind_some, Option.bind, Act.put, List.setIfInBounds_toArray, List.set_cons_succ, List.set_cons_zero] at hA; subst hA
                  have HB1 := hI9 hb
                  have d25 : u 25 = _ := hd 25 (by omega) (by kernel_rfl)
                  clear hb hd
                  rw [d25]
                  clear d25
                  go_wp2
                  exact ⟨_, rfl, Below.refl _ _, rfl, fun h => absurd h (by decide)⟩
              · as_aux_lemma =>
                  intro u A w1 hA hb hd
                  simp only [putAll, dstOf, gtA, gtS, gtZ, Option.bind_some, Option.bind, Act.put, List.setIfInBounds_toArray, List.set_cons_succ, List.set_cons_zero] at hA; subst hA
                  have HB1 := hI9 hb
                  have d25 : u 25 = _ := hd 25 (by omega) (by kernel_rfl)
                  clear hb hd
                  rw [d25]
                  clear d25
                  go_wp2
                  exact ⟨_, rfl, Below.refl _ _, rfl, fun h => absurd h (by decide)⟩
              · as_aux_lemma =>
                  intro u A w1 hA hb hd
                  simp only [putAll, dstOf, gtA, gtS, gtZ, Option.bind_some, Option.bind, Act.put, List.setIfInBounds_toArray, List.set_cons_succ, List.set_cons_zero] at hA; subst hA
                  have HB1 := hI9 hb
                  have d25 : u 25 = _ := hd 25 (by omega) (by kernel_rfl)
                  have d26 : u 26 = _ := hd 26 (by omega) (by kernel_rfl)
                  have d27 : u 27 = _ := hd 27 (by omega) (by kernel_rfl)
                  clear hb hd
                  rw [d25, d26, d27]
                  clear d25 d26 d27
                  go_wp2
                  exact ⟨_, rfl, RowKit.Below.refl _ _, congrArg Value.bool HQ.out.symm, fun h => absurd h (by decide)⟩
              · as_aux_lemma =>
                  intro u A w1 hA hb hd
                  simp only [putAll, dstOf, gtA, gtS, gtZ, Option.bind_some, Option.bind, Act.put, List.setIfInBounds_toArray, List.set_cons_succ, List.set_cons_zero] at hA; subst hA
                  have HB1 := hI9 hb
                  have d25 : u 25 = _ := hd 25 (by omega) (by kernel_rfl)
                  have d28 : u 28 = _ := hd 28 (by omega) (by kernel_rfl)
                  clear hb hd
                  rw [d25, d28]
                  clear d25 d28
                  go_wp2
                  exact ⟨_, rfl, Below.refl _ _, rfl, fun h => absurd h (by decide)⟩
              · as_aux_lemma =>
                  intro u A w1 hA hb hd
                  simp only [putAll, dstOf, gtA, gtS, gtZ, Option.bind_some, Option.bind, Act.put, List.setIfInBounds_toArray, List.set_cons_succ, List.set_cons_zero] at hA; subst hA
                  have HB1 := hI9 hb
                  have d29 : u 29 = _ := hd 29 (by omega) (by kernel_rfl)
                  clear hb hd
                  rw [d29]
                  clear d29
                  rcases q with _ | _
                  · (go_wp2; exact ⟨_, rfl, RowKit.Below.refl _ _, (fun h => by cases h), fun h => absurd h (by decide)⟩)
                  · (go_wp2; exact ⟨_, rfl, RowKit.Below.refl _ _, fun _ => rfl, fun h => absurd h (by decide)⟩)
                  done
              · as_aux_lemma =>
                  intro u A w1 hA hb hd
                  simp only [putAll, dstOf, gtA, gtS, gtZ, Option.bind_some, Option.bind, Act.put, List.setIfInBounds_toArray, List.set_cons_succ, List.set_cons_zero] at hA; subst hA
                  have HB1 := hI9 hb
                  have d29 : u 29 = _ := hd 29 (by omega) (by kernel_rfl)
                  clear hb hd
                  rw [d29]
                  clear d29
                  rcases q with _ | _
                  · (go_wp2; exact ⟨_, rfl, RowKit.Below.refl _ _, (fun h => by cases h), fun h => absurd h (by decide)⟩)
                  · (go_wp2; exact ⟨_, rfl, RowKit.Below.refl _ _, fun _ => rfl, fun h => absurd h (by decide)⟩)
                  done
              · as_aux_lemma =>
                  intro u A w1 hA hb hd
                  simp only [putAll, dstOf, gtA, gtS, gtZ, Option.bind_some, Option.bind, Act.put, List.setIfInBounds_toArray, List.set_cons_succ, List.set_cons_zero] at hA; subst hA
                  have HB1 := hI9 hb
                  have d29 : u 29 = _ := hd 29 (by omega) (by kernel_rfl)
                  have d30 := hd 30 (by omega) (by kernel_rfl)
                  have d31 := hd 31 (by omega) (by kernel_rfl)
                  clear hb hd
                  rw [d29]
                  clear d29
                  rcases q with _ | _
                  · (go_wp2; exact ⟨_, rfl, RowKit.Below.refl _ _, (fun h => by cases h), fun h => absurd h (by decide)⟩)
                  · (have e30 : u 30 = _ := d30 rfl; rw [e30]; clear e30; have e31 : u 31 = _ := d31 rfl; rw [e31]; clear e31; go_wp2; exact ⟨_, rfl, RowKit.Below.refl _ _, fun _ => (by first | rfl | simp), fun h => absurd h (by decide)⟩)
                  done
              · as_aux_lemma =>
                  intro u A w1 hA hb hd
                  simp only [putAll, dstOf, gtA, gtS, gtZ, Option.bind_some, Option.bind, Act.put, List.setIfInBounds_toArray, List.set_cons_succ, List.set_cons_zero] at hA; subst hA
                  have HB1 := hI9 hb
                  have d29 : u 29 = _ := hd 29 (by omega) (by kernel_rfl)
                  have d32 := hd 32 (by omega) (by kernel_rfl)
                  clear hb hd
                  rw [d29]
                  clear d29
                  rcases q with _ | _
                  · (go_wp2; exact ⟨_, rfl, RowKit.Below.refl _ _, (fun h => by cases h), fun h => absurd h (by decide)⟩)
                  · (have e32 : u 32 = _ := d32 rfl; rw [e32]; clear e32; have xr := HC1.out _ HB1.out; go_wp2; exact ⟨_, rfl, RowKit.Below.refl _ _, fun _ => rfl, fun h => absurd h (by decide)⟩)
                  done
              · as_aux_lemma =>
                  intro u A w1 hA hb hd
                  simp only [putAll, dstOf, gtA, gtS, gtZ, Option.bind_some, Option.bind, Act.put, List.setIfInBounds_toArray, List.set_cons_succ, List.set_cons_zero] at hA; subst hA
                  have HB1 := hI9 hb
                  have d29 : u 29 = _ := hd 29 (by omega) (by kernel_rfl)
                  clear hb hd
                  rw [d29]
                  clear d29
                  rcases q with _ | _
                  · (go_wp2; exact ⟨_, rfl, RowKit.Below.refl _ _, (fun h => by cases h), fun h => absurd h (by decide)⟩)
                  · (go_wp2; exact ⟨_, rfl, RowKit.Below.refl _ _, fun _ => rfl, fun h => absurd h (by decide)⟩)
                  done
              · as_aux_lemma =>
                  intro u A w1 hA hb hd
                  simp only [putAll, dstOf, gtA, gtS, gtZ, Option.bind_some, Option.bind, Act.put, List.setIfInBounds_toArray, List.set_cons_succ, List.set_cons_zero] at hA; subst hA
                  have HB1 := hI9 hb
                  have d29 : u 29 = _ := hd 29 (by omega) (by kernel_rfl)
                  have d33 := hd 33 (by omega) (by kernel_rfl)
                  have d34 := hd 34 (by omega) (by kernel_rfl)
                  clear hb hd
                  rw [d29]
                  clear d29
                  rcases q with _ | _
                  · (go_wp2; exact ⟨_, rfl, RowKit.Below.refl _ _, (fun h => by cases h), fun h => absurd h (by decide)⟩)
                  · (have e33 : u 33 = _ := d33 rfl; rw [e33]; clear e33; have e34 : u 34 = _ := d34 rfl; rw [e34]; clear e34; go_wp2; exact ⟨_, rfl, RowKit.Below.refl _ _, fun _ => (by first | rfl | simp), fun h => absurd h (by decide)⟩)
                  done
              · as_aux_lemma =>
                  intro u A w1 hA hb hd
                  simp only [putAll, dstOf, gtA, gtS, gtZ, Option.bind_some, Option.bind, Act.put, List.setIfInBounds_toArray, List.set_cons_succ, List.set_cons_zero] at hA; subst hA
                  have HB1 := hI9 hb
                  have d29 : u 29 = _ := hd 29 (by omega) (by kernel_rfl)
                  have d35 := hd 35 (by omega) (by kernel_rfl)
                  clear hb hd
                  rw [d29]
                  clear d29
                  rcases q with _ | _
                  · (go_wp2; exact ⟨_, rfl, RowKit.Below.refl _ _, (fun h => by cases h), fun h => absurd h (by decide)⟩)
                  · (have e35 : u 35 = _ := d35 rfl; rw [e35]; clear e35; have xr := HC2.out _ HB1.out; go_wp2; exact ⟨_, rfl, RowKit.Below.refl _ _, fun _ => rfl, fun h => absurd h (by decide)⟩)
                  done
              · as_aux_lemma =>
                  intro u A w1 hA hb hd
                  simp only [putAll, dstOf, gtA, gtS, gtZ, Option.bind_some, Option.bind, Act.put, List.setIfInBounds_toArray, List.set_cons_succ, List.set_cons_zero] at hA; subst hA
                  have HB1 := hI9 hb
                  have d29 : u 29 = _ := hd 29 (by omega) (by kernel_rfl)
                  have d36 := hd 36 (by omega) (by kernel_rfl)
                  clear hb hd
                  rw [d29]
                  clear d29
                  rcases q with _ | _
                  · (go_wp2; exact ⟨_, rfl, RowKit.Below.refl _ _, (fun h => by cases h), fun h => absurd h (by decide)⟩)
                  · (have e36 : u 36 = _ := d36 rfl; rw [e36]; clear e36; go_wp2; exact ⟨_, rfl, RowKit.Below.refl _ _, fun _ => congrArg Value.bool (HZ.out (by first | rfl | trivial)), fun h => absurd h (by decide)⟩)
                  done
              · as_aux_lemma =>
                  intro u A w1 hA hb hd
                  simp only [putAll, dstOf, gtA, gtS, gtZ, Option.bind_some, Option.bind, Act.put, List.setIfInBounds_toArray, List.set_cons_succ, List.set_cons_zero] at hA; subst hA
                  have HB1 := hI9 hb
                  have d25 : u 25 = _ := hd 25 (by omega) (by kernel_rfl)
                  have d29 : u 29 = _ := hd 29 (by omega) (by kernel_rfl)
                  have d37 := hd 37 (by omega) (by kernel_rfl)
                  clear hb hd
                  rw [d25, d29]
                  clear d25 d29
                  rcases q with _ | _
                  · (go_wp2; exact ⟨_, rfl, RowKit.Below.refl _ _, rfl, fun h => absurd h (by decide)⟩)
                  · (have e37 : u 37 = _ := d37 rfl; rw [e37]; clear e37; go_wp2; exact ⟨_, rfl, RowKit.Below.refl _ _, rfl, fun h => absurd h (by decide)⟩)
                  done
            case htail1 =>
              as_aux_lemma =>
                intro u A w1 hA hb hd hf
                simp only [putAll, dstOf, gtA, gtS, gtZ, Option.bind_some, Option.bind, Act.put, List.setIfInBounds_toArray, List.set_cons_succ, List.set_cons_zero] at hA; subst hA
                have e0 : u 0 = _ := hd 0 (by omega)
                have e1 : u 1 = _ := hd 1 (by omega)
                have e2 : u 2 = _ := hd 2 (by omega)
                have e3 : u 3 = _ := hd 3 (by omega)
                have e4 : u 4 = _ := hd 4 (by omega)
                have e5 : u 5 = _ := hd 5 (by omega)
                have e6 : u 6 = _ := hd 6 (by omega)
                have e7 : u 7 = _ := hd 7 (by omega)
                have e8 : u 8 = _ := hd 8 (by omega)
                have e9 : u 9 = _ := hd 9 (by omega)
                have e10 : u 10 = _ := hd 10 (by omega)
                have e11 : u 11 = _ := hd 11 (by omega)
                have e12 : u 12 = _ := hd 12 (by omega)
                have e13 : u 13 = _ := hd 13 (by omega)
                have e14 : u 14 = _ := hd 14 (by omega)
                have e15 : u 15 = _ := hd 15 (by omega)
                have e16 : u 16 = _ := hd 16 (by omega)
                have e17 : u 17 = _ := hd 17 (by omega)
                have e18 : u 18 = _ := hd 18 (by omega)
                have e19 : u 19 = _ := hd 19 (by omega)
                have e20 : u 20 = _ := hd 20 (by omega)
                have e21 : u 21 = _ := hd 21 (by omega)
                have e22 : u 22 = _ := hd 22 (by omega)
                have e23 : u 23 = _ := hd 23 (by omega)
                have e24 : u 24 = _ := hd 24 (by omega)
                have e25 : u 25 = _ := hd 25 (by omega)
                have e26 : u 26 = _ := hd 26 (by omega)
                have e27 : u 27 = _ := hd 27 (by omega)
                have e28 : u 28 = _ := hd 28 (by omega)
                have e29 : u 29 = _ := hd 29 (by omega)
                have p30 := hd 30 (by omega)
                have p31 := hd 31 (by omega)
                have p32 := hd 32 (by omega)
                have p33 := hd 33 (by omega)
                have p34 := hd 34 (by omega)
                have p35 := hd 35 (by omega)
                have p36 := hd 36 (by omega)
                have p37 := hd 37 (by omega)
                have e38 : u 38 = _ := hd 38 (by omega)
                first | rw [e0, e1, e2, e3, e4, e5, e6, e7, e8, e9, e10, e11, e12, e13, e14, e15, e16, e17, e18, e19, e20, e21, e22, e23, e24, e25, e26, e27, e28, e29, e38] | simp only [e0, e1, e2, e3, e4, e5, e6, e7, e8, e9, e10, e11, e12, e13, e14, e15, e16, e17, e18, e19, e20, e21, e22, e23, e24, e25, e26, e27, e28, e29, e38]
                clear e0 e1 e2 e3 e4 e5 e6 e7 e8 e9 e10 e11 e12 e13 e14 e15 e16 e17 e18 e19 e20 e21 e22 e23 e24 e25 e26 e27 e28 e29 e38
                clear hd hf
                have HW2 := hI9 (bthen HW.out hb)
                clear hb HW HC1 HC2 HC3 HC4 HZ HQ hx1 hgl p30 p31 p32 p33 p34 p35 p36 p37
                go_wp2_with (fail)
                go_loopg [11] P (fun gz iv wr => ∃ c3 : Nat, iv = .int .i64 c3 ∧ c3 ≤ P ∧ P - c3 ≤ gz ∧ Hid (RowKit.Below w2.heap.size w2 wr))
                case atStart => exact ⟨0, rfl, Nat.zero_le _, Nat.sub_le _ _, HW2⟩
                case round =>
                  clear HW2
                  obtain ⟨c3, rfl, hc3, hgz, HW⟩ := hrel
                  by_cases hltc : c3 < P
                  case pos =>
                    have hcz : (c3 : Int) < (P : Int) := by omega
                    obtain ⟨ca, -, -, coa⟩ := (HSQ0.out.below HW.out).o a hlt
                    obtain ⟨cc3, -, -, coc⟩ := (HSQ0.out.below HW.out).o c3 hltc
                    have cca := (HSQ0.out.below HW.out).cell hlt hltc
                    have ccb := (HSQ0.out.below HW.out).cell hltc hltb
                    have ccx := (HSQ0.out.below HW.out).cell hlt hltb
                    have htri := HT.out.tri a b c3 hlt hltb hltc hltc
                    have b1 := HTB.out a c3 hlt hltc
                    have b2 := HTB.out c3 b hltc hltb
                    generalize timT S n P a c3 = u at *
                    generalize timT S n P c3 b = v at *
                    generalize timT S n P a b = x at *
                    obtain ⟨pu, hpu⟩ : ∃ q, q = decide (u ≥ 0) := ⟨_, rfl⟩
                    obtain ⟨pv, hpv⟩ : ∃ q, q = decide (v ≥ 0) := ⟨_, rfl⟩
                    obtain ⟨q, hq⟩ : ∃ q, q = (pu && pv) := ⟨_, rfl⟩
                    have HPU := hI9 (And.intro hpu (And.intro hpv hq))
                    have HQ1 := hI9 (show q = true → decide (x < 0) = false ∧ wrap64 (u + v) = u + v ∧ decide (x > u + v) = false from fun h => by
                      rw [hq, hpu, hpv, Bool.and_eq_true, decide_eq_true_eq, decide_eq_true_eq] at h
                      obtain ⟨h1, h2⟩ := htri h.1 h.2
                      exact ⟨decide_eq_false (by omega), wrap64_in (by omega) (by omega), decide_eq_false (by omega)⟩)
                    have hgl : gT < wr.heap.size := by have := (HSQ0.out.below HW.out).gl; omega
                    have hga : rT a < wr.heap.size := by have := (HSQ0.out.below HW.out).gl; have := (HSQ0.out.below HW.out).rl a hlt; omega
                    have hgc : rT c3 < wr.heap.size := by have := (HSQ0.out.below HW.out).gl; have := (HSQ0.out.below HW.out).rl c3 hltc; omega
                    have HC1 := hI9 (fun w1 (h : RowKit.Below wr.heap.size wr w1) => (h.cell (p := ⟨gT, a, none⟩) hgl).trans coa)
                    have HC2 := hI9 (fun w1 (h : RowKit.Below wr.heap.size wr w1) => (h.cell (p := ⟨rT a, c3, none⟩) hga).trans cca)
                    have HC3 := hI9 (fun w1 (h : RowKit.Below wr.heap.size wr w1) => (h.cell (p := ⟨gT, c3, none⟩) hgl).trans coc)
                    have HC4 := hI9 (fun w1 (h : RowKit.Below wr.heap.size wr w1) => (h.cell (p := ⟨rT c3, b, none⟩) hgc).trans ccb)
                    have HC5 := hI9 (fun w1 (h : RowKit.Below wr.heap.size wr w1) => (h.cell (p := ⟨rT a, b, none⟩) hga).trans ccx)
                    clear htri b1 b2 hpu hpv hq hgl hga hgc coa cca coc ccb ccx
                    go_wp2_with (fail)
                    refine wp_region_spec 52 (tfR gT P cT (rT a) (rT c3) ca cc3 a b c3 u v x pu pv q) (fun i => false) (by kernel_rfl) (by kernel_rfl) tfR_below ?hop2 ?htail2
                    case hop2 =>
                      simp only [List.take_succ_cons, List.take_zero, allOps]
                      refine ⟨?_, ?_, ?_, ?_, ?_, ?_, ?_, ?_, ?_, ?_, ?_, ?_, ?_, ?_, ?_, ?_, ?_, ?_, ?_, ?_, ?_, ?_, ?_, ?_, ?_, ?_, ?_, ?_, ?_, ?_, ?_, ?_, ?_, ?_, ?_, ?_, ?_, ?_, ?_, ?_, ?_, ?_, ?_, ?_, ?_, ?_, ?_, ?_, ?_, ?_, ?_, ?_, trivial⟩
                      · as_aux_lemma =>
                          intro u A w1 hA hb hd
                          simp only [putAll, dstOf, gtA, gtS, gtZ, Option.bind_some, Option.bind, Act.put, List.setIfInBounds_toArray, List.set_cons_succ, List.set_cons_zero] at hA; subst hA
                          have HB1 := hI9 hb
                          clear hb hd
                          go_wp2
                          exact ⟨_, rfl, Below.refl _ _, rfl, fun h => absurd h (by decide)⟩
                      · as_aux_lemma =>
                          intro u A w1 hA hb hd
                          simp only [putAll, dstOf, gtA, gtS, gtZ, Option.bind_some, Option.bind, Act.put, List.setIfInBounds_toArray, List.set_cons_succ, List.set_cons_zero] at hA; subst hA
                          have HB1 := hI9 hb
                          clear hb hd
                          go_wp2
                          exact ⟨_, rfl, Below.refl _ _, rfl, fun h => absurd h (by decide)⟩
                      · as_aux_lemma =>
                          intro u A w1 hA hb hd
                          simp only [putAll, dstOf, gtA, gtS, gtZ, Option.bind_some, Option.bind, Act.put, List.setIfInBounds_toArray, List.set_cons_succ, List.set_cons_zero] at hA; subst hA
                          have HB1 := hI9 hb
                          have d0 : u 0 = _ := hd 0 (by omega) (by kernel_rfl)
                          have d1 : u 1 = _ := hd 1 (by omega) (by kernel_rfl)
                          clear hb hd
                          rw [d0, d1]
                          clear d0 d1
                          go_wp2
                          exact ⟨_, rfl, RowKit.Below.refl _ _, (by first | rfl | simp), fun h => absurd h (by decide)⟩
                      · as_aux_lemma =>
                          intro u A w1 hA hb hd
                          simp only [putAll, dstOf, gtA, gtS, gtZ, Option.bind_some, Option.bind, Act.put, List.setIfInBounds_toArray, List.set_cons_succ, List.set_cons_zero] at hA; subst hA
                          have HB1 := hI9 hb
                          have d2 : u 2 = _ := hd 2 (by omega) (by kernel_rfl)
                          clear hb hd
                          rw [d2]
                          clear d2
                          have xr := HC1.out _ HB1.out
                          go_wp2
                          exact ⟨_, rfl, Below.refl _ _, rfl, fun h => absurd h (by decide)⟩
                      · as_aux_lemma =>
                          intro u A w1 hA hb hd
                          simp only [putAll, dstOf, gtA, gtS, gtZ, Option.bind_some, Option.bind, Act.put, List.setIfInBounds_toArray, List.set_cons_succ, List.set_cons_zero] at hA; subst hA
                          have HB1 := hI9 hb
                          clear hb hd
                          go_wp2
                          exact ⟨_, rfl, Below.refl _ _, rfl, fun h => absurd h (by decide)⟩
                      · as_aux_lemma =>
                          intro u A w1 hA hb hd
                          simp only [putAll, dstOf, gtA, gtS, gtZ, Option.bind_some, Option.bind, Act.put, List.setIfInBounds_toArray, List.set_cons_succ, List.set_cons_zero] at hA; subst hA
                          have HB1 := hI9 hb
                          have d3 : u 3 = _ := hd 3 (by omega) (by kernel_rfl)
                          have d4 : u 4 = _ := hd 4 (by omega) (by kernel_rfl)
                          clear hb hd
                          rw [d3, d4]
                          clear d3 d4
                          go_wp2
                          exact ⟨_, rfl, RowKit.Below.refl _ _, (by first | rfl | simp), fun h => absurd h (by decide)⟩
                      · as_aux_lemma =>
                          intro u A w1 hA hb hd
                          simp only [putAll, dstOf, gtA, gtS, gtZ, Option.bind_some, Option.bind, Act.put, List.setIfInBounds_toArray, List.set_cons_succ, List.set_cons_zero] at hA; subst hA
                          have HB1 := hI9 hb
                          have d5 : u 5 = _ := hd 5 (by omega) (by kernel_rfl)
                          clear hb hd
                          rw [d5]
                          clear d5
                          have xr := HC2.out _ HB1.out
                          go_wp2
                          exact ⟨_, rfl, Below.refl _ _, rfl, fun h => absurd h (by decide)⟩
                      · as_aux_lemma =>
                          intro u A w1 hA hb hd
                          simp only [putAll, dstOf, gtA, gtS, gtZ, Option.bind_some, Option.bind, Act.put, List.setIfInBounds_toArray, List.set_cons_succ, List.set_cons_zero] at hA; subst hA
                          have HB1 := hI9 hb
                          have d6 : u 6 = _ := hd 6 (by omega) (by kernel_rfl)
                          clear hb hd
                          rw [d6]
                          clear d6
                          go_wp2
                          exact ⟨_, rfl, RowKit.Below.refl _ _, congrArg Value.bool HPU.out.1.symm, fun h => absurd h (by decide)⟩
                      · as_aux_lemma =>
                          intro u A w1 hA hb hd
                          simp only [putAll, dstOf, gtA, gtS, gtZ, Option.bind_some, Option.bind, Act.put, List.setIfInBounds_toArray, List.set_cons_succ, List.set_cons_zero] at hA; subst hA
                          have HB1 := hI9 hb
                          have d7 : u 7 = _ := hd 7 (by omega) (by kernel_rfl)
                          clear hb hd
                          rw [d7]
                          clear d7
                          go_wp2
                          exact ⟨_, rfl, Below.refl _ _, rfl, fun h => absurd h (by decide)⟩
                      · as_aux_lemma =>
                          intro u A w1 hA hb hd
                          simp only [putAll, dstOf, gtA, gtS, gtZ, Option.bind_some, Option.bind, Act.put, List.setIfInBounds_toArray, List.set_cons_succ, List.set_cons_zero] at hA; subst hA
                          have HB1 := hI9 hb
                          have d8 : u 8 = _ := hd 8 (by omega) (by kernel_rfl)
                          clear hb hd
                          rw [d8]
                          clear d8
                          rcases pu with _ | _
                          · (go_wp2; exact ⟨_, rfl, RowKit.Below.refl _ _, (fun h => by cases h), fun h => absurd h (by decide)⟩)
                          · (go_wp2; exact ⟨_, rfl, RowKit.Below.refl _ _, fun _ => rfl, fun h => absurd h (by decide)⟩)
                          done
                      · as_aux_lemma =>
                          intro u A w1 hA hb hd
                          simp only [putAll, dstOf, gtA, gtS, gtZ, Option.bind_some, Option.bind, Act.put, List.setIfInBounds_toArray, List.set_cons_succ, List.set_cons_zero] at hA; subst hA
                          have HB1 := hI9 hb
                          have d8 : u 8 = _ := hd 8 (by omega) (by kernel_rfl)
                          clear hb hd
                          rw [d8]
                          clear d8
                          rcases pu with _ | _
                          · (go_wp2; exact ⟨_, rfl, RowKit.Below.refl _ _, (fun h => by cases h), fun h => absurd h (by decide)⟩)
                          · (go_wp2; exact ⟨_, rfl, RowKit.Below.refl _ _, fun _ => rfl, fun h => absurd h (by decide)⟩)
                          done
                      · as_aux_lemma =>
                          intro u A w1 hA hb hd
                          simp only [putAll, dstOf, gtA, gtS, gtZ, Option.bind_some, Option.bind, Act.put, List.setIfInBounds_toArray, List.set_cons_succ, List.set_cons_zero] at hA; subst hA
                          have HB1 := hI9 hb
                          have d8 : u 8 = _ := hd 8 (by omega) (by kernel_rfl)
                          have d9 := hd 9 (by omega) (by kernel_rfl)
                          have d10 := hd 10 (by omega) (by kernel_rfl)
                          clear hb hd
                          rw [d8]
                          clear d8
                          rcases pu with _ | _
                          · (go_wp2; exact ⟨_, rfl, RowKit.Below.refl _ _, (fun h => by cases h), fun h => absurd h (by decide)⟩)
                          · (have e9 : u 9 = _ := d9 rfl; rw [e9]; clear e9; have e10 : u 10 = _ := d10 rfl; rw [e10]; clear e10; go_wp2; exact ⟨_, rfl, RowKit.Below.refl _ _, fun _ => (by first | rfl | simp), fun h => absurd h (by decide)⟩)
                          done
                      · as_aux_lemma =>
                          intro u A w1 hA hb hd
                          simp only [putAll, dstOf, gtA, gtS, gtZ, Option.bind_some, Option.bind, Act.put, List.setIfInBounds_toArray, List.set_cons_succ, List.set_cons_zero] at hA; subst hA
                          have HB1 := hI9 hb
                          have d8 : u 8 = _ := hd 8 (by omega) (by kernel_rfl)
                          have d11 := hd 11 (by omega) (by kernel_rfl)
                          clear hb hd
                          rw [d8]
                          clear d8
                          rcases pu with _ | _
                          · (go_wp2; exact ⟨_, rfl, RowKit.Below.refl _ _, (fun h => by cases h), fun h => absurd h (by decide)⟩)
                          · (have e11 : u 11 = _ := d11 rfl; rw [e11]; clear e11; have xr := HC3.out _ HB1.out; go_wp2; exact ⟨_, rfl, RowKit.Below.refl _ _, fun _ => rfl, fun h => absurd h (by decide)⟩)
                          done
                      · as_aux_lemma =>
                          intro u A w1 hA hb hd
                          simp only [putAll, dstOf, gtA, gtS, gtZ, Option.bind_some, Option.bind, Act.put, List.setIfInBounds_toArray, List.set_cons_succ, List.set_cons_zero] at hA; subst hA
                          have HB1 := hI9 hb
                          have d8 : u 8 = _ := hd 8 (by omega) (by kernel_rfl)
                          clear hb hd
                          rw [d8]
                          clear d8
                          rcases pu with _ | _
                          · (go_wp2; exact ⟨_, rfl, RowKit.Below.refl _ _, (fun h => by cases h), fun h => absurd h (by decide)⟩)
                          · (go_wp2; exact ⟨_, rfl, RowKit.Below.refl _ _, fun _ => rfl, fun h => absurd h (by decide)⟩)
                          done
                      · as_aux_lemma =>
                          intro u A w1 hA hb hd
                          simp only [putAll, dstOf, gtA, gtS, gtZ, Option.bind_some, Option.bind, Act.put, List.setIfInBounds_toArray, List.set_cons_succ, List.set_cons_zero] at hA; subst hA
                          have HB1 := hI9 hb
                          have d8 : u 8 = _ := hd 8 (by omega) (by kernel_rfl)
                          have d12 := hd 12 (by omega) (by kernel_rfl)
                          have d13 := hd 13 (by omega) (by kernel_rfl)
                          clear hb hd
                          rw [d8]
                          clear d8
                          rcases pu with _ | _
                          · (go_wp2; exact ⟨_, rfl, RowKit.Below.refl _ _, (fun h => by cases h), fun h => absurd h (by decide)⟩)
                          · (have e12 : u 12 = _ := d12 rfl; rw [e12]; clear e12; have e13 : u 13 = _ := d13 rfl; rw [e13]; clear e13; go_wp2; exact ⟨_, rfl, RowKit.Below.refl _ _, fun _ => (by first | rfl | simp), fun h => absurd h (by decide)⟩)
                          done
                      · as_aux_lemma =>
                          intro u A w1 hA hb hd
                          simp only [putAll, dstOf, gtA, gtS, gtZ, Option.bind_some, Option.bind, Act.put, List.setIfInBounds_toArray, List.set_cons_succ, List.set_cons_zero] at hA; subst hA
                          have HB1 := hI9 hb
                          have d8 : u 8 = _ := hd 8 (by omega) (by kernel_rfl)
                          have d14 := hd 14 (by omega) (by kernel_rfl)
                          clear hb hd
                          rw [d8]
                          clear d8
                          rcases pu with _ | _
                          · (go_wp2; exact ⟨_, rfl, RowKit.Below.refl _ _, (fun h => by cases h), fun h => absurd h (by decide)⟩)
                          · (have e14 : u 14 = _ := d14 rfl; rw [e14]; clear e14; have xr := HC4.out _ HB1.out; go_wp2; exact ⟨_, rfl, RowKit.Below.refl _ _, fun _ => rfl, fun h => absurd h (by decide)⟩)
                          done
                      · as_aux_lemma =>
                          intro u A w1 hA hb hd
                          simp only [putAll, dstOf, gtA, gtS, gtZ, Option.bind_some, Option.bind, Act.put, List.setIfInBounds_toArray, List.set_cons_succ, List.set_cons_zero] at hA; subst hA
                          have HB1 := hI9 hb
                          have d8 : u 8 = _ := hd 8 (by omega) (by kernel_rfl)
                          have d15 := hd 15 (by omega) (by kernel_rfl)
                          clear hb hd
                          rw [d8]
                          clear d8
                          rcases pu with _ | _
                          · (go_wp2; exact ⟨_, rfl, RowKit.Below.refl _ _, (fun h => by cases h), fun h => absurd h (by decide)⟩)
                          · (have e15 : u 15 = _ := d15 rfl; rw [e15]; clear e15; go_wp2; exact ⟨_, rfl, RowKit.Below.refl _ _, fun _ => congrArg Value.bool HPU.out.2.1.symm, fun h => absurd h (by decide)⟩)
                          done
                      · as_aux_lemma =>
                          intro u A w1 hA hb hd
                          simp only [putAll, dstOf, gtA, gtS, gtZ, Option.bind_some, Option.bind, Act.put, List.setIfInBounds_toArray, List.set_cons_succ, List.set_cons_zero] at hA; subst hA
                          have HB1 := hI9 hb
                          have d8 : u 8 = _ := hd 8 (by omega) (by kernel_rfl)
                          have d16 := hd 16 (by omega) (by kernel_rfl)
                          clear hb hd
                          rw [d8]
                          clear d8
                          rcases pu with _ | _
                          · (go_wp2; exact ⟨_, rfl, RowKit.Below.refl _ _, congrArg Value.bool HPU.out.2.2.symm, fun h => absurd h (by decide)⟩)
                          · (have e16 : u 16 = _ := d16 rfl; rw [e16]; clear e16; go_wp2; exact ⟨_, rfl, RowKit.Below.refl _ _, congrArg Value.bool HPU.out.2.2.symm, fun h => absurd h (by decide)⟩)
                          done
                      · as_aux_lemma =>
                          intro u A w1 hA hb hd
                          simp only [putAll, dstOf, gtA, gtS, gtZ, Option.bind_some, Option.bind, Act.put, List.setIfInBounds_toArray, List.set_cons_succ, List.set_cons_zero] at hA; subst hA
                          have HB1 := hI9 hb
                          have d8 : u 8 = _ := hd 8 (by omega) (by kernel_rfl)
                          have d17 : u 17 = _ := hd 17 (by omega) (by kernel_rfl)
                          clear hb hd
                          rw [d8, d17]
                          clear d8 d17
                          go_wp2
                          exact ⟨_, rfl, Below.refl _ _, rfl, fun h => absurd h (by decide)⟩
                      · as_aux_lemma =>
                          intro u A w1 hA hb hd
                          simp only [putAll, dstOf, gtA, gtS, gtZ, Option.bind_some, Option.bind, Act.put, List.setIfInBounds_toArray, List.set_cons_succ, List.set_cons_zero] at hA; subst hA
                          have HB1 := hI9 hb
                          have d18 : u 18 = _ := hd 18 (by omega) (by kernel_rfl)
                          clear hb hd
                          rw [d18]
                          clear d18
                          rcases q with _ | _
                          · (go_wp2; exact ⟨_, rfl, RowKit.Below.refl _ _, (fun h => by cases h), fun h => absurd h (by decide)⟩)
                          · (go_wp2; exact ⟨_, rfl, RowKit.Below.refl _ _, fun _ => rfl, fun h => absurd h (by decide)⟩)
                          done
                      · as_aux_lemma =>
                          intro u A w1 hA hb hd
                          simp only [putAll, dstOf, gtA, gtS, gtZ, Option.bind_some, Option.bind, Act.put, List.setIfInBounds_toArray, List.set_cons_succ, List.set_cons_zero] at hA; subst hA
                          have HB1 := hI9 hb
                          have d18 : u 18 = _ := hd 18 (by omega) (by kernel_rfl)
                          clear hb hd
                          rw [d18]
                          clear d18
                          rcases q with _ | _
                          · (go_wp2; exact ⟨_, rfl, RowKit.Below.refl _ _, (fun h => by cases h), fun h => absurd h (by decide)⟩)
                          · (go_wp2; exact ⟨_, rfl, RowKit.Below.refl _ _, fun _ => rfl, fun h => absurd h (by decide)⟩)
                          done
                      · as_aux_lemma =>
                          intro u A w1 hA hb hd
                          simp only [putAll, dstOf, gtA, gtS, gtZ, Option.bind_some, Option.bind, Act.put, List.setIfInBounds_toArray, List.set_cons_succ, List.set_cons_zero] at hA; subst hA
                          have HB1 := hI9 hb
                          have d18 : u 18 = _ := hd 18 (by omega) (by kernel_rfl)
                          have d19 := hd 19 (by omega) (by kernel_rfl)
                          have d20 := hd 20 (by omega) (by kernel_rfl)
                          clear hb hd
                          rw [d18]
                          clear d18
                          rcases q with _ | _
                          · (go_wp2; exact ⟨_, rfl, RowKit.Below.refl _ _, (fun h => by cases h), fun h => absurd h (by decide)⟩)
                          · (have e19 : u 19 = _ := d19 rfl; rw [e19]; clear e19; have e20 : u 20 = _ := d20 rfl; rw [e20]; clear e20; go_wp2; exact ⟨_, rfl, RowKit.Below.refl _ _, fun _ => (by first | rfl | simp), fun h => absurd h (by decide)⟩)
                          done
                      · as_aux_lemma =>
                          intro u A w1 hA hb hd
                          simp only [putAll, dstOf, gtA, gtS, gtZ, Option.bind_some, Option.bind, Act.put, List.setIfInBounds_toArray, List.set_cons_succ, List.set_cons_zero] at hA; subst hA
                          have HB1 := hI9 hb
                          have d18 : u 18 = _ := hd 18 (by omega) (by kernel_rfl)
                          have d21 := hd 21 (by omega) (by kernel_rfl)
                          clear hb hd
                          rw [d18]
                          clear d18
                          rcases q with _ | _
                          · (go_wp2; exact ⟨_, rfl, RowKit.Below.refl _ _, (fun h => by cases h), fun h => absurd h (by decide)⟩)
                          · (have e21 : u 21 = _ := d21 rfl; rw [e21]; clear e21; have xr := HC1.out _ HB1.out; go_wp2; exact ⟨_, rfl, RowKit.Below.refl _ _, fun _ => rfl, fun h => absurd h (by decide)⟩)
                          done
                      · as_aux_lemma =>
                          intro u A w1 hA hb hd
                          simp only [putAll, dstOf, gtA, gtS, gtZ, Option.bind_some, Option.bind, Act.put, List.setIfInBounds_toArray, List.set_cons_succ, List.set_cons_zero] at hA; subst hA
                          have HB1 := hI9 hb
                          have d18 : u 18 = _ := hd 18 (by omega) (by kernel_rfl)
                          clear hb hd
                          rw [d18]
                          clear d18
                          rcases q with _ | _
                          · (go_wp2; exact ⟨_, rfl, RowKit.Below.refl _ _, (fun h => by cases h), fun h => absurd h (by decide)⟩)
                          · (go_wp2; exact ⟨_, rfl, RowKit.Below.refl _ _, fun _ => rfl, fun h => absurd h (by decide)⟩)
                          done
                      · as_aux_lemma =>
                          intro u A w1 hA hb hd
                          simp only [putAll, dstOf, gtA, gtS, gtZ, Option.bind_some, Option.bind, Act.put, List.setIfInBounds_toArray, List.set_cons_succ, List.set_cons_zero] at hA; subst hA
                          have HB1 := hI9 hb
                          have d18 : u 18 = _ := hd 18 (by omega) (by kernel_rfl)
                          have d22 := hd 22 (by omega) (by kernel_rfl)
                          have d23 := hd 23 (by omega) (by kernel_rfl)
                          clear hb hd
                          rw [d18]
                          clear d18
                          rcases q with _ | _
                          · (go_wp2; exact ⟨_, rfl, RowKit.Below.refl _ _, (fun h => by cases h), fun h => absurd h (by decide)⟩)
                          · (have e22 : u 22 = _ := d22 rfl; rw [e22]; clear e22; have e23 : u 23 = _ := d23 rfl; rw [e23]; clear e23; go_wp2; exact ⟨_, rfl, RowKit.Below.refl _ _, fun _ => (by first | rfl | simp), fun h => absurd h (by decide)⟩)
                          done
                      · as_aux_lemma =>
                          intro u A w1 hA hb hd
                          simp only [putAll, dstOf, gtA, gtS, gtZ, Option.bind_some, Option.bind, Act.put, List.setIfInBounds_toArray, List.set_cons_succ, List.set_cons_zero] at hA; subst hA
                          have HB1 := hI9 hb
                          have d18 : u 18 = _ := hd 18 (by omega) (by kernel_rfl)
                          have d24 := hd 24 (by omega) (by kernel_rfl)
                          clear hb hd
                          rw [d18]
                          clear d18
                          rcases q with _ | _
                          · (go_wp2; exact ⟨_, rfl, RowKit.Below.refl _ _, (fun h => by cases h), fun h => absurd h (by decide)⟩)
                          · (have e24 : u 24 = _ := d24 rfl; rw [e24]; clear e24; have xr := HC5.out _ HB1.out; go_wp2; exact ⟨_, rfl, RowKit.Below.refl _ _, fun _ => rfl, fun h => absurd h (by decide)⟩)
                          done
                      · as_aux_lemma =>
                          intro u A w1 hA hb hd
                          simp only [putAll, dstOf, gtA, gtS, gtZ, Option.bind_some, Option.bind, Act.put, List.setIfInBounds_toArray, List.set_cons_succ, List.set_cons_zero] at hA; subst hA
                          have HB1 := hI9 hb
                          have d18 : u 18 = _ := hd 18 (by omega) (by kernel_rfl)
                          have d25 := hd 25 (by omega) (by kernel_rfl)
                          clear hb hd
                          rw [d18]
                          clear d18
                          rcases q with _ | _
                          · (go_wp2; exact ⟨_, rfl, RowKit.Below.refl _ _, (fun h => by cases h), fun h => absurd h (by decide)⟩)
                          · (have e25 : u 25 = _ := d25 rfl; rw [e25]; clear e25; go_wp2; exact ⟨_, rfl, RowKit.Below.refl _ _, fun _ => congrArg Value.bool (HQ1.out (by first | rfl | trivial)).1, fun h => absurd h (by decide)⟩)
                          done
                      · as_aux_lemma =>
                          intro u A w1 hA hb hd
                          simp only [putAll, dstOf, gtA, gtS, gtZ, Option.bind_some, Option.bind, Act.put, List.setIfInBounds_toArray, List.set_cons_succ, List.set_cons_zero] at hA; subst hA
                          have HB1 := hI9 hb
                          have d18 : u 18 = _ := hd 18 (by omega) (by kernel_rfl)
                          have d26 := hd 26 (by omega) (by kernel_rfl)
                          clear hb hd
                          rw [d18]
                          clear d18
                          rcases q with _ | _
                          · (go_wp2; exact ⟨_, rfl, RowKit.Below.refl _ _, rfl, fun h => absurd h (by decide)⟩)
                          · (have e26 : u 26 = _ := d26 rfl; rw [e26]; clear e26; go_wp2; exact ⟨_, rfl, RowKit.Below.refl _ _, rfl, fun h => absurd h (by decide)⟩)
                          done
                      · as_aux_lemma =>
                          intro u A w1 hA hb hd
                          simp only [putAll, dstOf, gtA, gtS, gtZ, Option.bind_some, Option.bind, Act.put, List.setIfInBounds_toArray, List.set_cons_succ, List.set_cons_zero] at hA; subst hA
                          have HB1 := hI9 hb
                          have d27 : u 27 = _ := hd 27 (by omega) (by kernel_rfl)
                          clear hb hd
                          rw [d27]
                          clear d27
                          rcases q with _ | _
                          · (simp only [cond_false]; (go_wp2; exact ⟨_, rfl, RowKit.Below.refl _ _, (fun h => by cases h), fun h => absurd h (by decide)⟩))
                          · (simp only [cond_true]; go_wp2; exact ⟨_, rfl, RowKit.Below.refl _ _, fun _ => rfl, fun h => absurd h (by decide)⟩)
                          done
                      · as_aux_lemma =>
                          intro u A w1 hA hb hd
                          simp only [putAll, dstOf, gtA, gtS, gtZ, Option.bind_some, Option.bind, Act.put, List.setIfInBounds_toArray, List.set_cons_succ, List.set_cons_zero] at hA; subst hA
                          have HB1 := hI9 hb
                          have d27 : u 27 = _ := hd 27 (by omega) (by kernel_rfl)
                          clear hb hd
                          rw [d27]
                          clear d27
                          rcases q with _ | _
                          · (simp only [cond_false]; (go_wp2; exact ⟨_, rfl, RowKit.Below.refl _ _, (fun h => by cases h), fun h => absurd h (by decide)⟩))
                          · (simp only [cond_true]; go_wp2; exact ⟨_, rfl, RowKit.Below.refl _ _, fun _ => rfl, fun h => absurd h (by decide)⟩)
                          done
                      · as_aux_lemma =>
                          intro u A w1 hA hb hd
                          simp only [putAll, dstOf, gtA, gtS, gtZ, Option.bind_some, Option.bind, Act.put, List.setIfInBounds_toArray, List.set_cons_succ, List.set_cons_zero] at hA; subst hA
                          have HB1 := hI9 hb
                          have d27 : u 27 = _ := hd 27 (by omega) (by kernel_rfl)
                          have d28 := hd 28 (by omega) (by kernel_rfl)
                          have d29 := hd 29 (by omega) (by kernel_rfl)
                          clear hb hd
                          rw [d27]
                          clear d27
                          rcases q with _ | _
                          · (simp only [cond_false]; (go_wp2; exact ⟨_, rfl, RowKit.Below.refl _ _, (fun h => by cases h), fun h => absurd h (by decide)⟩))
                          · (simp only [cond_true]; have e28 : u 28 = _ := d28 rfl; rw [e28]; clear e28; have e29 : u 29 = _ := d29 rfl; rw [e29]; clear e29; go_wp2; exact ⟨_, rfl, RowKit.Below.refl _ _, fun _ => (by first | rfl | simp), fun h => absurd h (by decide)⟩)
                          done
                      · as_aux_lemma =>
                          intro u A w1 hA hb hd
                          simp only [putAll, dstOf, gtA, gtS, gtZ, Option.bind_some, Option.bind, Act.put, List.setIfInBounds_toArray, List.set_cons_succ, List.set_cons_zero] at hA; subst hA
                          have HB1 := hI9 hb
                          have d27 : u 27 = _ := hd 27 (by omega) (by kernel_rfl)
                          have d30 := hd 30 (by omega) (by kernel_rfl)
                          clear hb hd
                          rw [d27]
                          clear d27
                          rcases q with _ | _
                          · (simp only [cond_false]; (go_wp2; exact ⟨_, rfl, RowKit.Below.refl _ _, (fun h => by cases h), fun h => absurd h (by decide)⟩))
                          · (simp only [cond_true]; have e30 : u 30 = _ := d30 rfl; rw [e30]; clear e30; have xr := HC1.out _ HB1.out; go_wp2; exact ⟨_, rfl, RowKit.Below.refl _ _, fun _ => rfl, fun h => absurd h (by decide)⟩)
                          done
                      · as_aux_lemma =>
                          intro u A w1 hA hb hd
                          simp only [putAll, dstOf, gtA, gtS, gtZ, Option.bind_some, Option.bind, Act.put, List.setIfInBounds_toArray, List.set_cons_succ, List.set_cons_zero] at hA; subst hA
                          have HB1 := hI9 hb
                          have d27 : u 27 = _ := hd 27 (by omega) (by kernel_rfl)
                          clear hb hd
                          rw [d27]
                          clear d27
                          rcases q with _ | _
                          · (simp only [cond_false]; (go_wp2; exact ⟨_, rfl, RowKit.Below.refl _ _, (fun h => by cases h), fun h => absurd h (by decide)⟩))
                          · (simp only [cond_true]; go_wp2; exact ⟨_, rfl, RowKit.Below.refl _ _, fun _ => rfl, fun h => absurd h (by decide)⟩)
                          done
                      · as_aux_lemma =>
                          intro u A w1 hA hb hd
                          simp only [putAll, dstOf, gtA, gtS, gtZ, Option.bind_some, Option.bind, Act.put, List.setIfInBounds_toArray, List.set_cons_succ, List.set_cons_zero] at hA; subst hA
                          have HB1 := hI9 hb
                          have d27 : u 27 = _ := hd 27 (by omega) (by kernel_rfl)
                          have d31 := hd 31 (by omega) (by kernel_rfl)
                          have d32 := hd 32 (by omega) (by kernel_rfl)
                          clear hb hd
                          rw [d27]
                          clear d27
                          rcases q with _ | _
                          · (simp only [cond_false]; (go_wp2; exact ⟨_, rfl, RowKit.Below.refl _ _, (fun h => by cases h), fun h => absurd h (by decide)⟩))
                          · (simp only [cond_true]; have e31 : u 31 = _ := d31 rfl; rw [e31]; clear e31; have e32 : u 32 = _ := d32 rfl; rw [e32]; clear e32; go_wp2; exact ⟨_, rfl, RowKit.Below.refl _ _, fun _ => (by first | rfl | simp), fun h => absurd h (by decide)⟩)
                          done
                      · as_aux_lemma =>
                          intro u A w1 hA hb hd
                          simp only [putAll, dstOf, gtA, gtS, gtZ, Option.bind_some, Option.bind, Act.put, List.setIfInBounds_toArray, List.set_cons_succ, List.set_cons_zero] at hA; subst hA
                          have HB1 := hI9 hb
                          have d27 : u 27 = _ := hd 27 (by omega) (by kernel_rfl)
                          have d33 := hd 33 (by omega) (by kernel_rfl)
                          clear hb hd
                          rw [d27]
                          clear d27
                          rcases q with _ | _
                          · (simp only [cond_false]; (go_wp2; exact ⟨_, rfl, RowKit.Below.refl _ _, (fun h => by cases h), fun h => absurd h (by decide)⟩))
                          · (simp only [cond_true]; have e33 : u 33 = _ := d33 rfl; rw [e33]; clear e33; have xr := HC5.out _ HB1.out; go_wp2; exact ⟨_, rfl, RowKit.Below.refl _ _, fun _ => rfl, fun h => absurd h (by decide)⟩)
                          done
                      · as_aux_lemma =>
                          intro u A w1 hA hb hd
                          simp only [putAll, dstOf, gtA, gtS, gtZ, Option.bind_some, Option.bind, Act.put, List.setIfInBounds_toArray, List.set_cons_succ, List.set_cons_zero] at hA; subst hA
                          have HB1 := hI9 hb
                          have d27 : u 27 = _ := hd 27 (by omega) (by kernel_rfl)
                          clear hb hd
                          rw [d27]
                          clear d27
                          rcases q with _ | _
                          · (simp only [cond_false]; (go_wp2; exact ⟨_, rfl, RowKit.Below.refl _ _, (fun h => by cases h), fun h => absurd h (by decide)⟩))
                          · (simp only [cond_true]; go_wp2; exact ⟨_, rfl, RowKit.Below.refl _ _, fun _ => rfl, fun h => absurd h (by decide)⟩)
                          done
                      · as_aux_lemma =>
                          intro u A w1 hA hb hd
                          simp only [putAll, dstOf, gtA, gtS, gtZ, Option.bind_some, Option.bind, Act.put, List.setIfInBounds_toArray, List.set_cons_succ, List.set_cons_zero] at hA; subst hA
                          have HB1 := hI9 hb
                          have d27 : u 27 = _ := hd 27 (by omega) (by kernel_rfl)
                          clear hb hd
                          rw [d27]
                          clear d27
                          rcases q with _ | _
                          · (simp only [cond_false]; (go_wp2; exact ⟨_, rfl, RowKit.Below.refl _ _, (fun h => by cases h), fun h => absurd h (by decide)⟩))
                          · (simp only [cond_true]; go_wp2; exact ⟨_, rfl, RowKit.Below.refl _ _, fun _ => rfl, fun h => absurd h (by decide)⟩)
                          done
                      · as_aux_lemma =>
                          intro u A w1 hA hb hd
                          simp only [putAll, dstOf, gtA, gtS, gtZ, Option.bind_some, Option.bind, Act.put, List.setIfInBounds_toArray, List.set_cons_succ, List.set_cons_zero] at hA; subst hA
                          have HB1 := hI9 hb
                          have d27 : u 27 = _ := hd 27 (by omega) (by kernel_rfl)
                          have d35 := hd 35 (by omega) (by kernel_rfl)
                          have d36 := hd 36 (by omega) (by kernel_rfl)
                          clear hb hd
                          rw [d27]
                          clear d27
                          rcases q with _ | _
                          · (simp only [cond_false]; (go_wp2; exact ⟨_, rfl, RowKit.Below.refl _ _, (fun h => by cases h), fun h => absurd h (by decide)⟩))
                          · (simp only [cond_true]; have e35 : u 35 = _ := d35 rfl; rw [e35]; clear e35; have e36 : u 36 = _ := d36 rfl; rw [e36]; clear e36; go_wp2; exact ⟨_, rfl, RowKit.Below.refl _ _, fun _ => (by first | rfl | simp), fun h => absurd h (by decide)⟩)
                          done
                      · as_aux_lemma =>
                          intro u A w1 hA hb hd
                          simp only [putAll, dstOf, gtA, gtS, gtZ, Option.bind_some, Option.bind, Act.put, List.setIfInBounds_toArray, List.set_cons_succ, List.set_cons_zero] at hA; subst hA
                          have HB1 := hI9 hb
                          have d27 : u 27 = _ := hd 27 (by omega) (by kernel_rfl)
                          have d37 := hd 37 (by omega) (by kernel_rfl)
                          clear hb hd
                          rw [d27]
                          clear d27
                          rcases q with _ | _
                          · (simp only [cond_false]; (go_wp2; exact ⟨_, rfl, RowKit.Below.refl _ _, (fun h => by cases h), fun h => absurd h (by decide)⟩))
                          · (simp only [cond_true]; have e37 : u 37 = _ := d37 rfl; rw [e37]; clear e37; have xr := HC1.out _ HB1.out; go_wp2; exact ⟨_, rfl, RowKit.Below.refl _ _, fun _ => rfl, fun h => absurd h (by decide)⟩)
                          done
                      · as_aux_lemma =>
                          intro u A w1 hA hb hd
                          simp only [putAll, dstOf, gtA, gtS, gtZ, Option.bind_some, Option.bind, Act.put, List.setIfInBounds_toArray, List.set_cons_succ, List.set_cons_zero] at hA; subst hA
                          have HB1 := hI9 hb
                          have d27 : u 27 = _ := hd 27 (by omega) (by kernel_rfl)
                          clear hb hd
                          rw [d27]
                          clear d27
                          rcases q with _ | _
                          · (simp only [cond_false]; (go_wp2; exact ⟨_, rfl, RowKit.Below.refl _ _, (fun h => by cases h), fun h => absurd h (by decide)⟩))
                          · (simp only [cond_true]; go_wp2; exact ⟨_, rfl, RowKit.Below.refl _ _, fun _ => rfl, fun h => absurd h (by decide)⟩)
                          done
                      · as_aux_lemma =>
                          intro u A w1 hA hb hd
                          simp only [putAll, dstOf, gtA, gtS, gtZ, Option.bind_some, Option.bind, Act.put, List.setIfInBounds_toArray, List.set_cons_succ, List.set_cons_zero] at hA; subst hA
                          have HB1 := hI9 hb
                          have d27 : u 27 = _ := hd 27 (by omega) (by kernel_rfl)
                          have d38 := hd 38 (by omega) (by kernel_rfl)
                          have d39 := hd 39 (by omega) (by kernel_rfl)
                          clear hb hd
                          rw [d27]
                          clear d27
                          rcases q with _ | _
                          · (simp only [cond_false]; (go_wp2; exact ⟨_, rfl, RowKit.Below.refl _ _, (fun h => by cases h), fun h => absurd h (by decide)⟩))
                          · (simp only [cond_true]; have e38 : u 38 = _ := d38 rfl; rw [e38]; clear e38; have e39 : u 39 = _ := d39 rfl; rw [e39]; clear e39; go_wp2; exact ⟨_, rfl, RowKit.Below.refl _ _, fun _ => (by first | rfl | simp), fun h => absurd h (by decide)⟩)
                          done
                      · as_aux_lemma =>
                          intro u A w1 hA hb hd
                          simp only [putAll, dstOf, gtA, gtS, gtZ, Option.bind_some, Option.bind, Act.put, List.setIfInBounds_toArray, List.set_cons_succ, List.set_cons_zero] at hA; subst hA
                          have HB1 := hI9 hb
                          have d27 : u 27 = _ := hd 27 (by omega) (by kernel_rfl)
                          have d40 := hd 40 (by omega) (by kernel_rfl)
                          clear hb hd
                          rw [d27]
                          clear d27
                          rcases q with _ | _
                          · (simp only [cond_false]; (go_wp2; exact ⟨_, rfl, RowKit.Below.refl _ _, (fun h => by cases h), fun h => absurd h (by decide)⟩))
                          · (simp only [cond_true]; have e40 : u 40 = _ := d40 rfl; rw [e40]; clear e40; have xr := HC2.out _ HB1.out; go_wp2; exact ⟨_, rfl, RowKit.Below.refl _ _, fun _ => rfl, fun h => absurd h (by decide)⟩)
                          done
                      · as_aux_lemma =>
                          intro u A w1 hA hb hd
                          simp only [putAll, dstOf, gtA, gtS, gtZ, Option.bind_some, Option.bind, Act.put, List.setIfInBounds_toArray, List.set_cons_succ, List.set_cons_zero] at hA; subst hA
                          have HB1 := hI9 hb
                          have d27 : u 27 = _ := hd 27 (by omega) (by kernel_rfl)
                          clear hb hd
                          rw [d27]
                          clear d27
                          rcases q with _ | _
                          · (simp only [cond_false]; (go_wp2; exact ⟨_, rfl, RowKit.Below.refl _ _, (fun h => by cases h), fun h => absurd h (by decide)⟩))
                          · (simp only [cond_true]; go_wp2; exact ⟨_, rfl, RowKit.Below.refl _ _, fun _ => rfl, fun h => absurd h (by decide)⟩)
                          done
                      · as_aux_lemma =>
                          intro u A w1 hA hb hd
                          simp only [putAll, dstOf, gtA, gtS, gtZ, Option.bind_some, Option.bind, Act.put, List.setIfInBounds_toArray, List.set_cons_succ, List.set_cons_zero] at hA; subst hA
                          have HB1 := hI9 hb
                          have d27 : u 27 = _ := hd 27 (by omega) (by kernel_rfl)
                          clear hb hd
                          rw [d27]
                          clear d27
                          rcases q with _ | _
                          · (simp only [cond_false]; (go_wp2; exact ⟨_, rfl, RowKit.Below.refl _ _, (fun h => by cases h), fun h => absurd h (by decide)⟩))
                          · (simp only [cond_true]; go_wp2; exact ⟨_, rfl, RowKit.Below.refl _ _, fun _ => rfl, fun h => absurd h (by decide)⟩)
                          done
                      · as_aux_lemma =>
                          intro u A w1 hA hb hd
                          simp only [putAll, dstOf, gtA, gtS, gtZ, Option.bind_some, Option.bind, Act.put, List.setIfInBounds_toArray, List.set_cons_succ, List.set_cons_zero] at hA; subst hA
                          have HB1 := hI9 hb
                          have d27 : u 27 = _ := hd 27 (by omega) (by kernel_rfl)
                          have d42 := hd 42 (by omega) (by kernel_rfl)
                          have d43 := hd 43 (by omega) (by kernel_rfl)
                          clear hb hd
                          rw [d27]
                          clear d27
                          rcases q with _ | _
                          · (simp only [cond_false]; (go_wp2; exact ⟨_, rfl, RowKit.Below.refl _ _, (fun h => by cases h), fun h => absurd h (by decide)⟩))
                          · (simp only [cond_true]; have e42 : u 42 = _ := d42 rfl; rw [e42]; clear e42; have e43 : u 43 = _ := d43 rfl; rw [e43]; clear e43; go_wp2; exact ⟨_, rfl, RowKit.Below.refl _ _, fun _ => (by first | rfl | simp), fun h => absurd h (by decide)⟩)
                          done
                      · as_aux_lemma =>
                          intro u A w1 hA hb hd
                          simp only [putAll, dstOf, gtA, gtS, gtZ, Option.bind_some, Option.bind, Act.put, List.setIfInBounds_toArray, List.set_cons_succ, List.set_cons_zero] at hA; subst hA
                          have HB1 := hI9 hb
                          have d27 : u 27 = _ := hd 27 (by omega) (by kernel_rfl)
                          have d44 := hd 44 (by omega) (by kernel_rfl)
                          clear hb hd
                          rw [d27]
                          clear d27
                          rcases q with _ | _
                          · (simp only [cond_false]; (go_wp2; exact ⟨_, rfl, RowKit.Below.refl _ _, (fun h => by cases h), fun h => absurd h (by decide)⟩))
                          · (simp only [cond_true]; have e44 : u 44 = _ := d44 rfl; rw [e44]; clear e44; have xr := HC3.out _ HB1.out; go_wp2; exact ⟨_, rfl, RowKit.Below.refl _ _, fun _ => rfl, fun h => absurd h (by decide)⟩)
                          done
                      · as_aux_lemma =>
                          intro u A w1 hA hb hd
                          simp only [putAll, dstOf, gtA, gtS, gtZ, Option.bind_some, Option.bind, Act.put, List.setIfInBounds_toArray, List.set_cons_succ, List.set_cons_zero] at hA; subst hA
                          have HB1 := hI9 hb
                          have d27 : u 27 = _ := hd 27 (by omega) (by kernel_rfl)
                          clear hb hd
                          rw [d27]
                          clear d27
                          rcases q with _ | _
                          · (simp only [cond_false]; (go_wp2; exact ⟨_, rfl, RowKit.Below.refl _ _, (fun h => by cases h), fun h => absurd h (by decide)⟩))
                          · (simp only [cond_true]; go_wp2; exact ⟨_, rfl, RowKit.Below.refl _ _, fun _ => rfl, fun h => absurd h (by decide)⟩)
                          done
                      · as_aux_lemma =>
                          intro u A w1 hA hb hd
                          simp only [putAll, dstOf, gtA, gtS, gtZ, Option.bind_some, Option.bind, Act.put, List.setIfInBounds_toArray, List.set_cons_succ, List.set_cons_zero] at hA; subst hA
                          have HB1 := hI9 hb
                          have d27 : u 27 = _ := hd 27 (by omega) (by kernel_rfl)
                          have d45 := hd 45 (by omega) (by kernel_rfl)
                          have d46 := hd 46 (by omega) (by kernel_rfl)
                          clear hb hd
                          rw [d27]
                          clear d27
                          rcases q with _ | _
                          · (simp only [cond_false]; (go_wp2; exact ⟨_, rfl, RowKit.Below.refl _ _, (fun h => by cases h), fun h => absurd h (by decide)⟩))
                          · (simp only [cond_true]; have e45 : u 45 = _ := d45 rfl; rw [e45]; clear e45; have e46 : u 46 = _ := d46 rfl; rw [e46]; clear e46; go_wp2; exact ⟨_, rfl, RowKit.Below.refl _ _, fun _ => (by first | rfl | simp), fun h => absurd h (by decide)⟩)
                          done
                      · as_aux_lemma =>
                          intro u A w1 hA hb hd
                          simp only [putAll, dstOf, gtA, gtS, gtZ, Option.bind_some, Option.bind, Act.put, List.setIfInBounds_toArray, List.set_cons_succ, List.set_cons_zero] at hA; subst hA
                          have HB1 := hI9 hb
                          have d27 : u 27 = _ := hd 27 (by omega) (by kernel_rfl)
                          have d47 := hd 47 (by omega) (by kernel_rfl)
                          clear hb hd
                          rw [d27]
                          clear d27
                          rcases q with _ | _
                          · (simp only [cond_false]; (go_wp2; exact ⟨_, rfl, RowKit.Below.refl _ _, (fun h => by cases h), fun h => absurd h (by decide)⟩))
                          · (simp only [cond_true]; have e47 : u 47 = _ := d47 rfl; rw [e47]; clear e47; have xr := HC4.out _ HB1.out; go_wp2; exact ⟨_, rfl, RowKit.Below.refl _ _, fun _ => rfl, fun h => absurd h (by decide)⟩)
                          done
                      · as_aux_lemma =>
                          intro u A w1 hA hb hd
                          simp only [putAll, dstOf, gtA, gtS, gtZ, Option.bind_some, Option.bind, Act.put, List.setIfInBounds_toArray, List.set_cons_succ, List.set_cons_zero] at hA; subst hA
                          have HB1 := hI9 hb
                          have d27 : u 27 = _ := hd 27 (by omega) (by kernel_rfl)
                          have d41 := hd 41 (by omega) (by kernel_rfl)
                          have d48 := hd 48 (by omega) (by kernel_rfl)
                          clear hb hd
                          rw [d27]
                          clear d27
                          rcases q with _ | _
                          · (simp only [cond_false]; (go_wp2; exact ⟨_, rfl, RowKit.Below.refl _ _, (fun h => by cases h), fun h => absurd h (by decide)⟩))
                          · (simp only [cond_true]; have e41 : u 41 = _ := d41 rfl; rw [e41]; clear e41; have e48 : u 48 = _ := d48 rfl; rw [e48]; clear e48; go_wp2; exact ⟨_, rfl, RowKit.Below.refl _ _, fun _ => congrArg (Value.int .i64) (HQ1.out (by first | rfl | trivial)).2.1, fun h => absurd h (by decide)⟩)
                          done
                      · as_aux_lemma =>
                          intro u A w1 hA hb hd
                          simp only [putAll, dstOf, gtA, gtS, gtZ, Option.bind_some, Option.bind, Act.put, List.setIfInBounds_toArray, List.set_cons_succ, List.set_cons_zero] at hA; subst hA
                          have HB1 := hI9 hb
                          have d27 : u 27 = _ := hd 27 (by omega) (by kernel_rfl)
                          have d34 := hd 34 (by omega) (by kernel_rfl)
                          have d49 := hd 49 (by omega) (by kernel_rfl)
                          clear hb hd
                          rw [d27]
                          clear d27
                          rcases q with _ | _
                          · (simp only [cond_false]; (go_wp2; exact ⟨_, rfl, RowKit.Below.refl _ _, (fun h => by cases h), fun h => absurd h (by decide)⟩))
                          · (simp only [cond_true]; have e34 : u 34 = _ := d34 rfl; rw [e34]; clear e34; have e49 : u 49 = _ := d49 rfl; rw [e49]; clear e49; go_wp2; exact ⟨_, rfl, RowKit.Below.refl _ _, fun _ => congrArg Value.bool (HQ1.out (by first | rfl | trivial)).2.2, fun h => absurd h (by decide)⟩)
                          done
                      · as_aux_lemma =>
                          intro u A w1 hA hb hd
                          simp only [putAll, dstOf, gtA, gtS, gtZ, Option.bind_some, Option.bind, Act.put, List.setIfInBounds_toArray, List.set_cons_succ, List.set_cons_zero] at hA; subst hA
                          have HB1 := hI9 hb
                          have d18 : u 18 = _ := hd 18 (by omega) (by kernel_rfl)
                          have d27 : u 27 = _ := hd 27 (by omega) (by kernel_rfl)
                          have d50 := hd 50 (by omega) (by kernel_rfl)
                          clear hb hd
                          rw [d18, d27]
                          clear d18 d27
                          rcases q with _ | _
                          · (simp only [cond_false]; go_wp2; exact ⟨_, rfl, RowKit.Below.refl _ _, (fun h => by cases h), fun h => absurd h (by decide)⟩)
                          · (simp only [cond_true]; have e50 : u 50 = _ := d50 rfl; rw [e50]; clear e50; go_wp2; exact ⟨_, rfl, RowKit.Below.refl _ _, fun _ => rfl, fun h => absurd h (by decide)⟩)
                          done
                    case htail2 =>
                      as_aux_lemma =>
                        intro u A w1 hA hb hd hf
                        simp only [putAll, dstOf, gtA, gtS, gtZ, Option.bind_some, Option.bind, Act.put, List.setIfInBounds_toArray, List.set_cons_succ, List.set_cons_zero] at hA; subst hA
                        have e0 : u 0 = _ := hd 0 (by omega)
                        have e1 : u 1 = _ := hd 1 (by omega)
                        have e2 : u 2 = _ := hd 2 (by omega)
                        have e3 : u 3 = _ := hd 3 (by omega)
                        have e4 : u 4 = _ := hd 4 (by omega)
                        have e5 : u 5 = _ := hd 5 (by omega)
                        have e6 : u 6 = _ := hd 6 (by omega)
                        have e7 : u 7 = _ := hd 7 (by omega)
                        have e8 : u 8 = _ := hd 8 (by omega)
                        have p9 := hd 9 (by omega)
                        have p10 := hd 10 (by omega)
                        have p11 := hd 11 (by omega)
                        have p12 := hd 12 (by omega)
                        have p13 := hd 13 (by omega)
                        have p14 := hd 14 (by omega)
                        have p15 := hd 15 (by omega)
                        have p16 := hd 16 (by omega)
                        have e17 : u 17 = _ := hd 17 (by omega)
                        have e18 : u 18 = _ := hd 18 (by omega)
                        have p19 := hd 19 (by omega)
                        have p20 := hd 20 (by omega)
                        have p21 := hd 21 (by omega)
                        have p22 := hd 22 (by omega)
                        have p23 := hd 23 (by omega)
                        have p24 := hd 24 (by omega)
                        have p25 := hd 25 (by omega)
                        have p26 := hd 26 (by omega)
                        have e27 : u 27 = _ := hd 27 (by omega)
                        have p28 := hd 28 (by omega)
                        have p29 := hd 29 (by omega)
                        have p30 := hd 30 (by omega)
                        have p31 := hd 31 (by omega)
                        have p32 := hd 32 (by omega)
                        have p33 := hd 33 (by omega)
                        have p34 := hd 34 (by omega)
                        have p35 := hd 35 (by omega)
                        have p36 := hd 36 (by omega)
                        have p37 := hd 37 (by omega)
                        have p38 := hd 38 (by omega)
                        have p39 := hd 39 (by omega)
                        have p40 := hd 40 (by omega)
                        have p41 := hd 41 (by omega)
                        have p42 := hd 42 (by omega)
                        have p43 := hd 43 (by omega)
                        have p44 := hd 44 (by omega)
                        have p45 := hd 45 (by omega)
                        have p46 := hd 46 (by omega)
                        have p47 := hd 47 (by omega)
                        have p48 := hd 48 (by omega)
                        have p49 := hd 49 (by omega)
                        have p50 := hd 50 (by omega)
                        have p51 := hd 51 (by omega)
                        first | rw [e0, e1, e2, e3, e4, e5, e6, e7, e8, e17, e18, e27] | simp only [e0, e1, e2, e3, e4, e5, e6, e7, e8, e17, e18, e27]
                        clear e0 e1 e2 e3 e4 e5 e6 e7 e8 e17 e18 e27
                        clear hd hf
                        have HW3 := hI9 (bthen HW.out hb)
                        clear hb HW HC1 HC2 HC3 HC4 HC5 HPU HQ1 p9 p10 p11 p12 p13 p14 p15 p16 p19 p20 p21 p22 p23 p24 p25 p26 p28 p29 p30 p31 p32 p33 p34 p35 p36 p37 p38 p39 p40 p41 p42 p43 p44 p45 p46 p47 p48 p49 p50
                        refine wpl_pickb rfl (.tmp 141) (.tmp 174) (.const (.bool false)) rfl q rfl (.bool false) (fun h => p51 h) (fun _ => rfl) ?_
                        simp only [Act.put]
                        clear p51
                        go_wp2_with (fail)
                        go_roundg (P - (c3 + 1))
                        case measure => omega
                        case rel => exact ⟨c3 + 1, by first | rfl | go_num | (congr 1; omega), by omega, Nat.le_refl _, HW3⟩
                  obtain rfl : P = c3 := by omega
                  have hnz : ¬ (P : Int) < (P : Int) := by omega
                  go_wp2_with (fail)
                  go_roundg (P - (b + 1))
                  case measure => omega
                  case rel => exact ⟨b + 1, by first | rfl | go_num | (congr 1; omega), by omega, Nat.le_refl _, HW⟩
          obtain rfl : P = b := by omega
          have hnz : ¬ (P : Int) < (P : Int) := by omega
          go_wp2_with (fail)
          go_roundg (P - (a + 1))
          case measure => omega
          case rel => exact ⟨a + 1, by first | rfl | go_num | (congr 1; omega), by omega, Nat.le_refl _, HW⟩
      obtain rfl : P = a := by omega
      have hnz : ¬ (P : Int) < (P : Int) := by omega
      clear HTB
      go_wp2_with (fail)
      have HWK := HW
      go_loopg [12] n (fun gy iv wr => ∃ k : Nat, iv = .int .i64 k ∧ k ≤ n ∧ n - k ≤ gy ∧ Hid (RowKit.Below w2.heap.size w2 wr))
      case atStart => exact ⟨0, rfl, Nat.zero_le _, Nat.sub_le _ _, HWK⟩
      case round =>
        clear HW HWK
        obtain ⟨k, rfl, hk, hgy, HW⟩ := hrel
        have x19 := (HX.out.below HW.out).cell 19
        simp only [gtA, gtS, gtZ] at x19
        by_cases hlt : k < n
        case pos =>
          have hkz : (k : Int) < (n : Int) := by omega
          obtain ⟨bL, oL, rfl, hbL, hcL⟩ := HL.out (by omega)
          have HBW := bthen HB.out HW.out
          have l0 := (HBW.cell (p := ⟨bL, oL + k * 3 + 0, none⟩) hbL).trans (hcL k hlt 0 (by omega))
          have l1 := (HBW.cell (p := ⟨bL, oL + k * 3 + 1, none⟩) hbL).trans (hcL k hlt 1 (by omega))
          have l2 := (HBW.cell (p := ⟨bL, oL + k * 3 + 2, none⟩) hbL).trans (hcL k hlt 2 (by omega))
          simp only [nV, Nat.add_zero] at l0 l1 l2
          have hla := HN.out.a k hlt
          have hlb := HN.out.b k hlt
          obtain ⟨hd0, hd1⟩ := leg_tri HN.out hlt
          obtain ⟨pa, hpa⟩ : ∃ pa : Nat, S k 0 = pa := ⟨(S k 0).toNat, by omega⟩
          obtain ⟨pb, hpb⟩ : ∃ pb : Nat, S k 1 = pb := ⟨(S k 1).toNat, by omega⟩
          obtain ⟨tt, htt⟩ : ∃ tt, tt = S k 2 := ⟨_, rfl⟩
          rw [hpa] at l0 hla hd0 hd1
          rw [hpb] at l1 hlb hd0 hd1
          rw [← htt] at l2 hd1
          rw [Int.toNat_natCast, Int.toNat_natCast] at hd0 hd1
          have hpaP : pa < P := by omega
          have hpbP : pb < P := by omega
          clear hcL hla hlb hpa hpb htt HBW
          go_wp2_with (fail)
          have HG := hI9 (Blk.new wr 45 #[.int .i64 (pa : Int), .int .i64 (pb : Int), .int .i64 tt])
          have HW2 := hI9 (bal HW.out (.cells #[.int .i64 (pa : Int), .int .i64 (pb : Int), .int .i64 tt] 45))
          clear HW l0 l1 l2 x19
          generalize wr.alloc (.cells #[.int .i64 (pa : Int), .int .i64 (pb : Int), .int .i64 tt] 45) = w3 at *
          generalize wr.heap.size = gG at *
          have g0 := HG.out.cell 0
          have g1 := HG.out.cell 1
          have g2 := HG.out.cell 2
          simp only [gtA, gtS, gtZ] at g0 g1 g2
          obtain ⟨ca, -, -, coa⟩ := (HSQ0.out.below HW2.out).o pa hpaP
          have cx := (HSQ0.out.below HW2.out).cell hpaP hpbP
          generalize timT S n P pa pb = x at *
          have hx0 : ¬ x < 0 := by omega
          have hx1 : ¬ tt < x := by omega
          clear hd0 hd1
          go_wp2_with (fail)
          go_quiet (fail)
          have HW3 := hI9 (bdn HW2.out nq)
          clear HW2 HG g0 g1 g2 cx coa
          generalize World.drewN _ nq = wq at *
          go_wp2_with (fail)
          go_roundg (n - (k + 1))
          case measure => omega
          case rel => exact ⟨k + 1, by first | rfl | go_num | (congr 1; omega), by omega, Nat.le_refl _, HW3⟩
        obtain rfl : n = k := by omega
        have hnz : ¬ (n : Int) < (n : Int) := by omega
        have hV := HW.out
        clear HW HSQ0 HTI HT
        have nHX := hI9 (HX.out.below hV)
        have nHY := hI9 (HY.out.below hV)
        have nHB := hI9 (bthen HB.out hV)
        clear HX HY HB hV
        have HX := nHX
        have HY := nHY
        have HB := nHB
        clear nHX nHY nHB
        have tok2 : True := trivial
        have tok3 : True := trivial
        go_wp2_with (first | (have _t := tok3; refine wpl_mid rfl 29 _ rfl w.heap.size 0 rfl 34 #[.int .i64 M.places, .int .i64 M.any.a0, .int .i64 M.any.a1, .int .i64 M.any.a2, .int .i64 M.any.a3, .int .i64 M.any.a4, .int .i64 M.any.a5, .bool M.any.i, .bool M.any.s, .int .i64 M.mw, .int .i64 M.ms, .int .i64 M.mc, vF, vS, .int .i64 lw, .int .i64 ls, .int .i64 lc, .bool li, .bool lb, .slice A n c] #[.int .i64 M.places, .int .i64 M.any.a0, .int .i64 M.any.a1, .int .i64 M.any.a2, .int .i64 M.any.a3, .int .i64 M.any.a4, .int .i64 M.any.a5, .bool M.any.i, .bool M.any.s, .int .i64 M.mw, .int .i64 M.ms, .int .i64 M.mc, vF, vS] 14 HX.out Tryz.rowMet [] [.int .i64 lw, .int .i64 ls, .int .i64 lc, .bool li, .bool lb, .slice A n c] rfl rfl rfl ?_; simp only [Act.put]; clear tok3) | (have _t := tok2; refine wpl_row rfl 37 (.tmp 3) rfl _ rfl #[.slice AR F.m cR, .int .i64 F.dep, .int .i64 F.fuel, .int .i64 F.burn, .int .i64 F.res] 5 HY.out Tryz.rowFli rfl ?_; simp only [Act.put]; clear tok2))
        refine (HAR.out _ (HM.out.below HB.out) (HL.out.below HB.out) (HR.out.below HB.out)).mono ?_
        rintro e w4 ⟨vA, rfl, hbA, harr⟩
        have nHX := hI9 (HX.out.below hbA)
        have nHY := hI9 (HY.out.below hbA)
        have nHB := hI9 (bthen HB.out hbA)
        clear HX HY HB hbA
        have HX := nHX
        have HY := nHY
        have HB := nHB
        clear nHX nHY nHB
        have x19 := HX.out.cell 19
        simp only [gtA, gtS, gtZ] at x19
        have tok2 : True := trivial
        have tok3 : True := trivial
        go_wp2_with (first | (have _t := tok3; refine wpl_mid rfl 29 _ rfl w.heap.size 0 rfl 34 #[.int .i64 M.places, .int .i64 M.any.a0, .int .i64 M.any.a1, .int .i64 M.any.a2, .int .i64 M.any.a3, .int .i64 M.any.a4, .int .i64 M.any.a5, .bool M.any.i, .bool M.any.s, .int .i64 M.mw, .int .i64 M.ms, .int .i64 M.mc, vF, vS, .int .i64 lw, .int .i64 ls, .int .i64 lc, .bool li, .bool lb, .slice A n c] #[.int .i64 M.places, .int .i64 M.any.a0, .int .i64 M.any.a1, .int .i64 M.any.a2, .int .i64 M.any.a3, .int .i64 M.any.a4, .int .i64 M.any.a5, .bool M.any.i, .bool M.any.s, .int .i64 M.mw, .int .i64 M.ms, .int .i64 M.mc, vF, vS] 14 HX.out Tryz.rowMet [] [.int .i64 lw, .int .i64 ls, .int .i64 lc, .bool li, .bool lb, .slice A n c] rfl rfl rfl ?_; simp only [Act.put]; clear tok3) | (have _t := tok2; refine wpl_row rfl 37 (.tmp 3) rfl _ rfl #[.slice AR F.m cR, .int .i64 F.dep, .int .i64 F.fuel, .int .i64 F.burn, .int .i64 F.res] 5 HY.out Tryz.rowFli rfl ?_; simp only [Act.put]; clear tok2))
        refine (HCR.out _ (HM.out.below HB.out) (HL.out.below HB.out) (HR.out.below HB.out)).mono ?_
        rintro e w5 ⟨rfl, hbB⟩
        have HRR := hI9 (fun (h : NE = 0) => (harr.1 h).below hbB)
        clear harr x19
        have nHX := hI9 (HX.out.below hbB)
        have nHY := hI9 (HY.out.below hbB)
        have nHB := hI9 (bthen HB.out hbB)
        clear HX HY HB hbB
        have HX := nHX
        have HY := nHY
        have HB := nHB
        clear nHX nHY nHB
        by_cases h1 : NE = 0
        case neg =>
          obtain rfl : NE = 51 := by
            have := HNE.out
            unfold nfE at this
            rw [if_pos rfl] at this
            split at this
            · exact absurd this h1
            · exact this
          go_wp2_with (first | (go_at_call 7; (with_reducible refine (rworks_c _).mono ?_); rintro e w1 ⟨rfl, hb1⟩; have nHX := hI9 (HX.out.below hb1); have nHY := hI9 (HY.out.below hb1); have nHB := hI9 (bthen HB.out hb1); have zz1 := hb1.size; clear HX HY HB hb1; have HX := nHX; have HY := nHY; have HB := nHB; clear nHX nHY nHB))
          go_ret
          exact ⟨rfl, HB.out⟩
        subst h1
        have hok : F.ok P (lgT S n) := by
          have := HNE.out
          unfold nfE at this
          rw [if_pos rfl, ← HPP.out] at this
          refine FliD.okB_iff.1 ?_
          cases e : F.okB P (lgT S n)
          · rw [e] at this; cases this
          · rfl
        have hrr := HRR.out rfl
        have HOK := hI9 hok
        obtain ⟨AA, cA, rfl, a1, a2, hA⟩ := hrr
        obtain ⟨⟨n1, n2⟩, n3, -⟩ := FliD.nums_iff.1 hok.1
        obtain ⟨bA, oA, rfl, hbA2, hcA⟩ := hA (by omega)
        have HCA := hI9 (fun i (hi : i < F.m) => hcA i hi 0 (by omega))
        clear HRR hok hcA hA
        have a0 := HCA.out 0 (by omega)
        simp only [nL, Nat.zero_mul, Nat.add_zero] at a0
        have zHY := HY.out.lt
        have cHY0 := HY.out.cell 0
        have cHY1 := HY.out.cell 1
        simp only [gtA, gtS, gtZ] at cHY0 cHY1
        have hm0 : (0 : Int) < (F.m : Int) := by omega
        have hdz : (F.at_ (lgT S n) 0 != F.dep) = false := by show (F.dep != F.dep) = false; simp
        go_wp2_with (fail)
        go_quiet (fail)
        have hD := bdn (RowKit.Below.refl w5.heap.size w5) nq
        clear a0 cHY0 cHY1
        have HBA := hI9 hbA2
        have HCA2 := hI9 (fun i (hi : i < F.m) => (hD.cell (p := ⟨bA, oA + i * 1 + 0, none⟩) hbA2).trans (HCA.out i hi))
        have HLT := hI9 (Nat.lt_of_lt_of_le hbA2 hD.size)
        clear HCA HBA hbA2
        have nHX := hI9 (HX.out.below hD)
        have nHY := hI9 (HY.out.below hD)
        have nHB := hI9 (bthen HB.out hD)
        clear HX HY HB hD
        have HX := nHX
        have HY := nHY
        have HB := nHB
        clear nHX nHY nHB
        generalize World.drewN w5 nq = w6 at *
        go_wp2_with (fail)
        (try generalize Value.agg #[.int .i64 M.places, .int .i64 M.any.a0, .int .i64 M.any.a1, .int .i64 M.any.a2, .int .i64 M.any.a3, .int .i64 M.any.a4, .int .i64 M.any.a5, .bool M.any.i, .bool M.any.s, .int .i64 M.mw, .int .i64 M.ms, .int .i64 M.mc, vF, vS, .int .i64 lw, .int .i64 ls, .int .i64 lc, .bool li, .bool lb, .slice A n c] = zP)
        (try generalize Value.agg #[.int .i64 M.places, .int .i64 M.any.a0, .int .i64 M.any.a1, .int .i64 M.any.a2, .int .i64 M.any.a3, .int .i64 M.any.a4, .int .i64 M.any.a5, .bool M.any.i, .bool M.any.s, .int .i64 M.mw, .int .i64 M.ms, .int .i64 M.mc, vF, vS] = zM)
        (try generalize Value.agg #[.slice AR F.m cR, .int .i64 F.dep, .int .i64 F.fuel, .int .i64 F.burn, .int .i64 F.res] = zF)
        obtain ⟨bR, oR, rfl, hbR, hcR⟩ : ∃ b off, AR = some ⟨b, off, none⟩ ∧ b < w.heap.size ∧ ∀ i, i < F.m → w.cell? ⟨b, off + i * 1 + 0, none⟩ = some (.int .i64 (F.R i)) := by
          obtain ⟨A9, c9, e9, -, -, r9⟩ := HR.out
          cases e9
          obtain ⟨b9, o9, e, hb9, hc9⟩ := r9 (by omega)
          exact ⟨b9, o9, e, hb9, fun i hi => hc9 i hi 0 (by omega)⟩
        have HCR2 := hI9 (fun i (hi : i < F.m) => (HB.out.cell (p := ⟨bR, oR + i * 1 + 0, none⟩) hbR).trans (hcR i hi))
        have HLR := hI9 (Nat.lt_of_lt_of_le hbR HB.out.size)
        clear hbR hcR HR HCR HAR HM
        have HWI := hI9 (RowKit.Below.refl w6.heap.size w6)
        have HNM := hI9 (And.intro n2 n3)
        clear n3
        go_loopg [15] F.m (fun gy iv wr => ∃ i : Nat, iv = .int .i64 i ∧ 1 ≤ i ∧ i ≤ F.m ∧ F.m - i ≤ gy ∧ Hid (RowKit.Below w6.heap.size w6 wr))
        case atStart => exact ⟨1, rfl, Nat.le_refl _, by omega, Nat.sub_le _ _, HWI⟩
        case round =>
          clear HWI
          obtain ⟨i, rfl, hi1, hi, hgy, HW⟩ := hrel
          by_cases hlt : i < F.m
          case pos =>
            have hiz : (i : Int) < (F.m : Int) := by omega
            obtain ⟨j, hj⟩ : ∃ j, i = j + 1 := ⟨i - 1, by omega⟩
            have hij : (i : Int) - 1 = (j : Int) := by omega
            obtain ⟨hst, hpos⟩ := step_leg HN.out HOK.out (i := j) (by omega)
            rw [← hj] at hst hpos
            have b1 := FliD.at_in HLIN.out HNM.out.2 i ⟨fun q hq => HOK.out.2.1.1 q (by omega), fun q hq => HOK.out.2.1.2 q (by omega)⟩
            have b2 := FliD.at_in HLIN.out HNM.out.2 j ⟨fun q hq => HOK.out.2.1.1 q (by omega), fun q hq => HOK.out.2.1.2 q (by omega)⟩
            have r1 := HOK.out.2.1.1 j (by omega)
            have r2 := HOK.out.2.1.1 i (by omega)
            have hle := fun k hk (hjn : lgJ (S k 0) (S k 1) (F.R j) (F.R i) = true) => legK_le' r1.1 r2.1 hk hjn (fun q hq => by have := HN.out.t q hq; omega)
            have his := legK_is' (S := S) r1.1 r2.1 (l := n) hpos
            rw [← hst] at hle his
            have HAI := hI9 (fun wr (hb : RowKit.Below w6.heap.size w6 wr) => (hb.cell (p := ⟨bA, oA + i * 1 + 0, none⟩) HLT.out).trans (HCA2.out i (by omega)))
            have HAJ := hI9 (fun wr (hb : RowKit.Below w6.heap.size w6 wr) => (hb.cell (p := ⟨bA, oA + j * 1 + 0, none⟩) HLT.out).trans (HCA2.out j (by omega)))
            have HRI := hI9 (fun wr (hb : RowKit.Below w6.heap.size w6 wr) => (hb.cell (p := ⟨bR, oR + i * 1 + 0, none⟩) HLR.out).trans (HCR2.out i (by omega)))
            have HRJ := hI9 (fun wr (hb : RowKit.Below w6.heap.size w6 wr) => (hb.cell (p := ⟨bR, oR + j * 1 + 0, none⟩) HLR.out).trans (HCR2.out j (by omega)))
            simp only [nL, Nat.mul_one, Nat.add_zero] at HAI HAJ HRI HRJ
            have hjm : j < F.m := by omega
            have hjz : (j : Int) < (F.m : Int) := by omega
            have hti : 0 ≤ F.at_ (lgT S n) i ∧ F.at_ (lgT S n) i ≤ 4000 := by have := HNM.out.1; omega
            have htj : 0 ≤ F.at_ (lgT S n) j ∧ F.at_ (lgT S n) j ≤ 4000 := by have := HNM.out.1; omega
            generalize F.at_ (lgT S n) i = ti at *
            generalize F.at_ (lgT S n) j = tj at *
            generalize F.R i = fb at *
            generalize F.R j = fa at *
            have HLE := hI9 hle
            have HIS := hI9 his
            have hwd : IntKind.i64.wrap (ti - tj) = ti - tj := by rw [IntKind.wrap_i64]; omega
            clear hle his hst hpos b1 b2 r1 r2 hj
            go_wp2_with (fail)
            have HWK := HW
            go_loopg [16, 17] n (fun gz sv kv wr => ∃ k : Nat, sv = .bool (isK S fa fb (ti - tj) k) ∧ kv = .int .i64 k ∧ k ≤ n ∧ n - k ≤ gz ∧ Hid (RowKit.Below w6.heap.size w6 wr))
            case atStart => exact ⟨0, rfl, rfl, Nat.zero_le _, Nat.sub_le _ _, HWK⟩
            case round =>
              clear HW HWK
              obtain ⟨k, rfl, rfl, hk, hgz, HW⟩ := hrel
              have x19 := (HX.out.below HW.out).cell 19
              simp only [gtA, gtS, gtZ] at x19
              by_cases hltk : k < n
              case pos =>
                have hkz : (k : Int) < (n : Int) := by omega
                obtain ⟨bL, oL, rfl, hbL, hcL⟩ := HL.out (by omega)
                have HBW := bthen HB.out HW.out
                have l0 := (HBW.cell (p := ⟨bL, oL + k * 3 + 0, none⟩) hbL).trans (hcL k hltk 0 (by omega))
                have l1 := (HBW.cell (p := ⟨bL, oL + k * 3 + 1, none⟩) hbL).trans (hcL k hltk 1 (by omega))
                have l2 := (HBW.cell (p := ⟨bL, oL + k * 3 + 2, none⟩) hbL).trans (hcL k hltk 2 (by omega))
                simp only [nV, Nat.add_zero] at l0 l1 l2
                obtain ⟨bs, hbs⟩ : ∃ bs, bs = isK S fa fb (ti - tj) k := ⟨_, rfl⟩
                have hnext : isK S fa fb (ti - tj) (k + 1) = (bs || (lgJ (S k 0) (S k 1) fa fb && decide (S k 2 = ti - tj))) := by rw [hbs]; rfl
                rw [← hbs]
                have hle := HLE.out k hltk
                have hne := HN.out.ne k hltk
                clear hcL hbs HBW
                generalize S k 0 = sa at *
                generalize S k 1 = sb at *
                generalize S k 2 = st at *
                go_wp2_with (fail)
                have HG := hI9 (Blk.new wr 45 #[.int .i64 sa, .int .i64 sb, .int .i64 st])
                have HW2 := hI9 (bal HW.out (.cells #[.int .i64 sa, .int .i64 sb, .int .i64 st] 45))
                clear HW l0 l1 l2 x19
                generalize wr.alloc (.cells #[.int .i64 sa, .int .i64 sb, .int .i64 st] 45) = w7 at *
                generalize wr.heap.size = gG at *
                have g0 := HG.out.cell 0
                have g1 := HG.out.cell 1
                have g2 := HG.out.cell 2
                clear g0 g1 g2
                obtain ⟨pA, hpA⟩ : ∃ q, q = (sa == fa) := ⟨_, rfl⟩
                obtain ⟨pB, hpB⟩ : ∃ q, q = (sb == fb) := ⟨_, rfl⟩
                obtain ⟨pC, hpC⟩ : ∃ q, q = (sb == fa) := ⟨_, rfl⟩
                obtain ⟨pD, hpD⟩ : ∃ q, q = (sa == fb) := ⟨_, rfl⟩
                obtain ⟨pE, hpE⟩ : ∃ q, q = (st == (ti - tj)) := ⟨_, rfl⟩
                obtain ⟨q1, hq1⟩ : ∃ q, q = (pA && pB) := ⟨_, rfl⟩
                obtain ⟨q2, hq2⟩ : ∃ q, q = (pC && pD) := ⟨_, rfl⟩
                obtain ⟨J, hJ⟩ : ∃ q, q = (q1 || q2) := ⟨_, rfl⟩
                have hlj : lgJ sa sb fa fb = J := by rw [hJ, hq1, hq2, hpA, hpB, hpC, hpD]; show _ = _; unfold lgJ; rw [Bool.and_comm (sa == fb)]
                rw [hlj] at hle hnext
                have HNX := hI9 (show isK S fa fb (ti - tj) (k + 1) = (bs || (J && pE)) from by rw [hnext, hpE]; rfl)
                have HSD := hI9 (show J = true → decide (st < ti - tj) = false from fun h => by have := hle h; simpa using this)
                have HP := hI9 (And.intro hpA (And.intro hpB (And.intro hpC (And.intro hpD (And.intro hpE (And.intro hq1 (And.intro hq2 hJ)))))))
                clear hle hnext hlj hne hpA hpB hpC hpD hpE hq1 hq2 hJ
                refine wp_region_spec 40 (tjR gG (w.heap.size + 1) bR oR F.m cR i j sa sb fa fb pA pB pC pD q1 q2 J) (fun i => false) (by kernel_rfl) (by kernel_rfl) tjR_below ?hop3 ?htail3
                case hop3 =>
                  simp only [List.take_succ_cons, List.take_zero, allOps]
                  refine ⟨?_, ?_, ?_, ?_, ?_, ?_, ?_, ?_, ?_, ?_, ?_, ?_, ?_, ?_, ?_, ?_, ?_, ?_, ?_, ?_, ?_, ?_, ?_, ?_, ?_, ?_, ?_, ?_, ?_, ?_, ?_, ?_, ?_, ?_, ?_, ?_, ?_, ?_, ?_, ?_, trivial⟩
                  · as_aux_lemma =>
                      intro u A w1 hA hb hd
                      simp only [putAll, dstOf, gtA, gtS, gtZ, Option.bind_some, Option.bind, Act.put, List.setIfInBounds_toArray, List.set_cons_succ, List.set_cons_zero] at hA; subst hA
                      have HB1 := hI9 hb
                      clear hb hd
                      go_wp2
                      exact ⟨_, rfl, Below.refl _ _, rfl, fun h => absurd h (by decide)⟩
                  · as_aux_lemma =>
                      intro u A w1 hA hb hd
                      simp only [putAll, dstOf, gtA, gtS, gtZ, Option.bind_some, Option.bind, Act.put, List.setIfInBounds_toArray, List.set_cons_succ, List.set_cons_zero] at hA; subst hA
                      have HB1 := hI9 hb
                      have d0 : u 0 = _ := hd 0 (by omega) (by kernel_rfl)
                      clear hb hd
                      rw [d0]
                      clear d0
                      have xg := (HG.out.below HB1.out).cell 0
                      simp only [gtA, gtS, gtZ] at xg
                      go_wp2
                      exact ⟨_, rfl, Below.refl _ _, rfl, fun h => absurd h (by decide)⟩
                  · as_aux_lemma =>
                      intro u A w1 hA hb hd
                      simp only [putAll, dstOf, gtA, gtS, gtZ, Option.bind_some, Option.bind, Act.put, List.setIfInBounds_toArray, List.set_cons_succ, List.set_cons_zero] at hA; subst hA
                      have HB1 := hI9 hb
                      clear hb hd
                      go_wp2
                      exact ⟨_, rfl, Below.refl _ _, rfl, fun h => absurd h (by decide)⟩
                  · as_aux_lemma =>
                      intro u A w1 hA hb hd
                      simp only [putAll, dstOf, gtA, gtS, gtZ, Option.bind_some, Option.bind, Act.put, List.setIfInBounds_toArray, List.set_cons_succ, List.set_cons_zero] at hA; subst hA
                      have HB1 := hI9 hb
                      have d2 : u 2 = _ := hd 2 (by omega) (by kernel_rfl)
                      clear hb hd
                      rw [d2]
                      clear d2
                      have xy := (HY.out.below (bthen HW2.out HB1.out)).cell 0
                      simp only [List.getElem?_toArray, List.getElem?_cons_zero] at xy
                      go_wp2
                      exact ⟨_, rfl, Below.refl _ _, rfl, fun h => absurd h (by decide)⟩
                  · as_aux_lemma =>
                      intro u A w1 hA hb hd
                      simp only [putAll, dstOf, gtA, gtS, gtZ, Option.bind_some, Option.bind, Act.put, List.setIfInBounds_toArray, List.set_cons_succ, List.set_cons_zero] at hA; subst hA
                      have HB1 := hI9 hb
                      clear hb hd
                      go_wp2
                      exact ⟨_, rfl, Below.refl _ _, rfl, fun h => absurd h (by decide)⟩
                  · as_aux_lemma =>
                      intro u A w1 hA hb hd
                      simp only [putAll, dstOf, gtA, gtS, gtZ, Option.bind_some, Option.bind, Act.put, List.setIfInBounds_toArray, List.set_cons_succ, List.set_cons_zero] at hA; subst hA
                      have HB1 := hI9 hb
                      have d4 : u 4 = _ := hd 4 (by omega) (by kernel_rfl)
                      clear hb hd
                      rw [d4]
                      clear d4
                      go_wp2
                      exact ⟨_, rfl, RowKit.Below.refl _ _, (by first | rfl | go_num | (congr 1; omega)), fun h => absurd h (by decide)⟩
                  · as_aux_lemma =>
                      intro u A w1 hA hb hd
                      simp only [putAll, dstOf, gtA, gtS, gtZ, Option.bind_some, Option.bind, Act.put, List.setIfInBounds_toArray, List.set_cons_succ, List.set_cons_zero] at hA; subst hA
                      have HB1 := hI9 hb
                      have d3 : u 3 = _ := hd 3 (by omega) (by kernel_rfl)
                      have d5 : u 5 = _ := hd 5 (by omega) (by kernel_rfl)
                      clear hb hd
                      rw [d3, d5]
                      clear d3 d5
                      go_wp2
                      exact ⟨_, rfl, Below.refl _ _, rfl, fun h => absurd h (by decide)⟩
                  · as_aux_lemma =>
                      intro u A w1 hA hb hd
                      simp only [putAll, dstOf, gtA, gtS, gtZ, Option.bind_some, Option.bind, Act.put, List.setIfInBounds_toArray, List.set_cons_succ, List.set_cons_zero] at hA; subst hA
                      have HB1 := hI9 hb
                      have d6 : u 6 = _ := hd 6 (by omega) (by kernel_rfl)
                      clear hb hd
                      rw [d6]
                      clear d6
                      have xr := HRJ.out _ (bthen HW2.out HB1.out)
                      go_wp2
                      exact ⟨_, rfl, Below.refl _ _, rfl, fun h => absurd h (by decide)⟩
                  · as_aux_lemma =>
                      intro u A w1 hA hb hd
                      simp only [putAll, dstOf, gtA, gtS, gtZ, Option.bind_some, Option.bind, Act.put, List.setIfInBounds_toArray, List.set_cons_succ, List.set_cons_zero] at hA; subst hA
                      have HB1 := hI9 hb
                      have d1 : u 1 = _ := hd 1 (by omega) (by kernel_rfl)
                      have d7 : u 7 = _ := hd 7 (by omega) (by kernel_rfl)
                      clear hb hd
                      rw [d1, d7]
                      clear d1 d7
                      go_wp2
                      exact ⟨_, rfl, RowKit.Below.refl _ _, congrArg Value.bool HP.out.1.symm, fun h => absurd h (by decide)⟩
                  · as_aux_lemma =>
                      intro u A w1 hA hb hd
                      simp only [putAll, dstOf, gtA, gtS, gtZ, Option.bind_some, Option.bind, Act.put, List.setIfInBounds_toArray, List.set_cons_succ, List.set_cons_zero] at hA; subst hA
                      have HB1 := hI9 hb
                      have d8 : u 8 = _ := hd 8 (by omega) (by kernel_rfl)
                      clear hb hd
                      rw [d8]
                      clear d8
                      go_wp2
                      exact ⟨_, rfl, Below.refl _ _, rfl, fun h => absurd h (by decide)⟩
                  · as_aux_lemma =>
                      intro u A w1 hA hb hd
                      simp only [putAll, dstOf, gtA, gtS, gtZ, Option.bind_some, Option.bind, Act.put, List.setIfInBounds_toArray, List.set_cons_succ, List.set_cons_zero] at hA; subst hA
                      have HB1 := hI9 hb
                      have d9 : u 9 = _ := hd 9 (by omega) (by kernel_rfl)
                      clear hb hd
                      rw [d9]
                      clear d9
                      rcases pA with _ | _
                      · (go_wp2; exact ⟨_, rfl, RowKit.Below.refl _ _, (fun h => by cases h), fun h => absurd h (by decide)⟩)
                      · (go_wp2; exact ⟨_, rfl, RowKit.Below.refl _ _, fun _ => rfl, fun h => absurd h (by decide)⟩)
                      done
                  · as_aux_lemma =>
                      intro u A w1 hA hb hd
                      simp only [putAll, dstOf, gtA, gtS, gtZ, Option.bind_some, Option.bind, Act.put, List.setIfInBounds_toArray, List.set_cons_succ, List.set_cons_zero] at hA; subst hA
                      have HB1 := hI9 hb
                      have d9 : u 9 = _ := hd 9 (by omega) (by kernel_rfl)
                      have d10 := hd 10 (by omega) (by kernel_rfl)
                      clear hb hd
                      rw [d9]
                      clear d9
                      rcases pA with _ | _
                      · (go_wp2; exact ⟨_, rfl, RowKit.Below.refl _ _, (fun h => by cases h), fun h => absurd h (by decide)⟩)
                      · (have e10 : u 10 = _ := d10 rfl; rw [e10]; clear e10; have xg := (HG.out.below HB1.out).cell 1; simp only [gtA, gtS, gtZ] at xg; go_wp2; exact ⟨_, rfl, RowKit.Below.refl _ _, fun _ => rfl, fun h => absurd h (by decide)⟩)
                      done
                  · as_aux_lemma =>
                      intro u A w1 hA hb hd
                      simp only [putAll, dstOf, gtA, gtS, gtZ, Option.bind_some, Option.bind, Act.put, List.setIfInBounds_toArray, List.set_cons_succ, List.set_cons_zero] at hA; subst hA
                      have HB1 := hI9 hb
                      have d9 : u 9 = _ := hd 9 (by omega) (by kernel_rfl)
                      clear hb hd
                      rw [d9]
                      clear d9
                      rcases pA with _ | _
                      · (go_wp2; exact ⟨_, rfl, RowKit.Below.refl _ _, (fun h => by cases h), fun h => absurd h (by decide)⟩)
                      · (go_wp2; exact ⟨_, rfl, RowKit.Below.refl _ _, fun _ => rfl, fun h => absurd h (by decide)⟩)
                      done
                  · as_aux_lemma =>
                      intro u A w1 hA hb hd
                      simp only [putAll, dstOf, gtA, gtS, gtZ, Option.bind_some, Option.bind, Act.put, List.setIfInBounds_toArray, List.set_cons_succ, List.set_cons_zero] at hA; subst hA
                      have HB1 := hI9 hb
                      have d9 : u 9 = _ := hd 9 (by omega) (by kernel_rfl)
                      have d12 := hd 12 (by omega) (by kernel_rfl)
                      clear hb hd
                      rw [d9]
                      clear d9
                      rcases pA with _ | _
                      · (go_wp2; exact ⟨_, rfl, RowKit.Below.refl _ _, (fun h => by cases h), fun h => absurd h (by decide)⟩)
                      · (have e12 : u 12 = _ := d12 rfl; rw [e12]; clear e12; have xy := (HY.out.below (bthen HW2.out HB1.out)).cell 0; simp only [List.getElem?_toArray, List.getElem?_cons_zero] at xy; go_wp2; exact ⟨_, rfl, RowKit.Below.refl _ _, fun _ => rfl, fun h => absurd h (by decide)⟩)
                      done
                  · as_aux_lemma =>
                      intro u A w1 hA hb hd
                      simp only [putAll, dstOf, gtA, gtS, gtZ, Option.bind_some, Option.bind, Act.put, List.setIfInBounds_toArray, List.set_cons_succ, List.set_cons_zero] at hA; subst hA
                      have HB1 := hI9 hb
                      have d9 : u 9 = _ := hd 9 (by omega) (by kernel_rfl)
                      clear hb hd
                      rw [d9]
                      clear d9
                      rcases pA with _ | _
                      · (go_wp2; exact ⟨_, rfl, RowKit.Below.refl _ _, (fun h => by cases h), fun h => absurd h (by decide)⟩)
                      · (go_wp2; exact ⟨_, rfl, RowKit.Below.refl _ _, fun _ => rfl, fun h => absurd h (by decide)⟩)
                      done
                  · as_aux_lemma =>
                      intro u A w1 hA hb hd
                      simp only [putAll, dstOf, gtA, gtS, gtZ, Option.bind_some, Option.bind, Act.put, List.setIfInBounds_toArray, List.set_cons_succ, List.set_cons_zero] at hA; subst hA
                      have HB1 := hI9 hb
                      have d9 : u 9 = _ := hd 9 (by omega) (by kernel_rfl)
                      have d13 := hd 13 (by omega) (by kernel_rfl)
                      have d14 := hd 14 (by omega) (by kernel_rfl)
                      clear hb hd
                      rw [d9]
                      clear d9
                      rcases pA with _ | _
                      · (go_wp2; exact ⟨_, rfl, RowKit.Below.refl _ _, (fun h => by cases h), fun h => absurd h (by decide)⟩)
                      · (have e13 : u 13 = _ := d13 rfl; rw [e13]; clear e13; have e14 : u 14 = _ := d14 rfl; rw [e14]; clear e14; go_wp2; exact ⟨_, rfl, RowKit.Below.refl _ _, fun _ => rfl, fun h => absurd h (by decide)⟩)
                      done
                  · as_aux_lemma =>
                      intro u A w1 hA hb hd
                      simp only [putAll, dstOf, gtA, gtS, gtZ, Option.bind_some, Option.bind, Act.put, List.setIfInBounds_toArray, List.set_cons_succ, List.set_cons_zero] at hA; subst hA
                      have HB1 := hI9 hb
                      have d9 : u 9 = _ := hd 9 (by omega) (by kernel_rfl)
                      have d15 := hd 15 (by omega) (by kernel_rfl)
                      clear hb hd
                      rw [d9]
                      clear d9
                      rcases pA with _ | _
                      · (go_wp2; exact ⟨_, rfl, RowKit.Below.refl _ _, (fun h => by cases h), fun h => absurd h (by decide)⟩)
                      · (have e15 : u 15 = _ := d15 rfl; rw [e15]; clear e15; have xr := HRI.out _ (bthen HW2.out HB1.out); go_wp2; exact ⟨_, rfl, RowKit.Below.refl _ _, fun _ => rfl, fun h => absurd h (by decide)⟩)
                      done
                  · as_aux_lemma =>
                      intro u A w1 hA hb hd
                      simp only [putAll, dstOf, gtA, gtS, gtZ, Option.bind_some, Option.bind, Act.put, List.setIfInBounds_toArray, List.set_cons_succ, List.set_cons_zero] at hA; subst hA
                      have HB1 := hI9 hb
                      have d9 : u 9 = _ := hd 9 (by omega) (by kernel_rfl)
                      have d11 := hd 11 (by omega) (by kernel_rfl)
                      have d16 := hd 16 (by omega) (by kernel_rfl)
                      clear hb hd
                      rw [d9]
                      clear d9
                      rcases pA with _ | _
                      · (go_wp2; exact ⟨_, rfl, RowKit.Below.refl _ _, (fun h => by cases h), fun h => absurd h (by decide)⟩)
                      · (have e11 : u 11 = _ := d11 rfl; rw [e11]; clear e11; have e16 : u 16 = _ := d16 rfl; rw [e16]; clear e16; go_wp2; exact ⟨_, rfl, RowKit.Below.refl _ _, fun _ => congrArg Value.bool HP.out.2.1.symm, fun h => absurd h (by decide)⟩)
                      done
                  · as_aux_lemma =>
                      intro u A w1 hA hb hd
                      simp only [putAll, dstOf, gtA, gtS, gtZ, Option.bind_some, Option.bind, Act.put, List.setIfInBounds_toArray, List.set_cons_succ, List.set_cons_zero] at hA; subst hA
                      have HB1 := hI9 hb
                      have d9 : u 9 = _ := hd 9 (by omega) (by kernel_rfl)
                      have d17 := hd 17 (by omega) (by kernel_rfl)
                      clear hb hd
                      rw [d9]
                      clear d9
                      rcases pA with _ | _
                      · (go_wp2; exact ⟨_, rfl, RowKit.Below.refl _ _, congrArg Value.bool HP.out.2.2.2.2.2.1.symm, fun h => absurd h (by decide)⟩)
                      · (have e17 : u 17 = _ := d17 rfl; rw [e17]; clear e17; go_wp2; exact ⟨_, rfl, RowKit.Below.refl _ _, congrArg Value.bool HP.out.2.2.2.2.2.1.symm, fun h => absurd h (by decide)⟩)
                      done
                  · as_aux_lemma =>
                      intro u A w1 hA hb hd
                      simp only [putAll, dstOf, gtA, gtS, gtZ, Option.bind_some, Option.bind, Act.put, List.setIfInBounds_toArray, List.set_cons_succ, List.set_cons_zero] at hA; subst hA
                      have HB1 := hI9 hb
                      have d9 : u 9 = _ := hd 9 (by omega) (by kernel_rfl)
                      have d18 : u 18 = _ := hd 18 (by omega) (by kernel_rfl)
                      clear hb hd
                      rw [d9, d18]
                      clear d9 d18
                      go_wp2
                      exact ⟨_, rfl, Below.refl _ _, rfl, fun h => absurd h (by decide)⟩
                  · as_aux_lemma =>
                      intro u A w1 hA hb hd
                      simp only [putAll, dstOf, gtA, gtS, gtZ, Option.bind_some, Option.bind, Act.put, List.setIfInBounds_toArray, List.set_cons_succ, List.set_cons_zero] at hA; subst hA
                      have HB1 := hI9 hb
                      have d19 : u 19 = _ := hd 19 (by omega) (by kernel_rfl)
                      clear hb hd
                      rw [d19]
                      clear d19
                      rcases q1 with _ | _
                      · (go_wp2; exact ⟨_, rfl, RowKit.Below.refl _ _, fun _ => rfl, fun h => absurd h (by decide)⟩)
                      · (go_wp2; exact ⟨_, rfl, RowKit.Below.refl _ _, (fun h => by cases h), fun h => absurd h (by decide)⟩)
                      done
                  · as_aux_lemma =>
                      intro u A w1 hA hb hd
                      simp only [putAll, dstOf, gtA, gtS, gtZ, Option.bind_some, Option.bind, Act.put, List.setIfInBounds_toArray, List.set_cons_succ, List.set_cons_zero] at hA; subst hA
                      have HB1 := hI9 hb
                      have d19 : u 19 = _ := hd 19 (by omega) (by kernel_rfl)
                      have d20 := hd 20 (by omega) (by kernel_rfl)
                      clear hb hd
                      rw [d19]
                      clear d19
                      rcases q1 with _ | _
                      · (have e20 : u 20 = _ := d20 rfl; rw [e20]; clear e20; have xg := (HG.out.below HB1.out).cell 1; simp only [gtA, gtS, gtZ] at xg; go_wp2; exact ⟨_, rfl, RowKit.Below.refl _ _, fun _ => rfl, fun h => absurd h (by decide)⟩)
                      · (go_wp2; exact ⟨_, rfl, RowKit.Below.refl _ _, (fun h => by cases h), fun h => absurd h (by decide)⟩)
                      done
                  · as_aux_lemma =>
                      intro u A w1 hA hb hd
                      simp only [putAll, dstOf, gtA, gtS, gtZ, Option.bind_some, Option.bind, Act.put, List.setIfInBounds_toArray, List.set_cons_succ, List.set_cons_zero] at hA; subst hA
                      have HB1 := hI9 hb
                      have d19 : u 19 = _ := hd 19 (by omega) (by kernel_rfl)
                      clear hb hd
                      rw [d19]
                      clear d19
                      rcases q1 with _ | _
                      · (go_wp2; exact ⟨_, rfl, RowKit.Below.refl _ _, fun _ => rfl, fun h => absurd h (by decide)⟩)
                      · (go_wp2; exact ⟨_, rfl, RowKit.Below.refl _ _, (fun h => by cases h), fun h => absurd h (by decide)⟩)
                      done
                  · as_aux_lemma =>
                      intro u A w1 hA hb hd
                      simp only [putAll, dstOf, gtA, gtS, gtZ, Option.bind_some, Option.bind, Act.put, List.setIfInBounds_toArray, List.set_cons_succ, List.set_cons_zero] at hA; subst hA
                      have HB1 := hI9 hb
                      have d19 : u 19 = _ := hd 19 (by omega) (by kernel_rfl)
                      have d22 := hd 22 (by omega) (by kernel_rfl)
                      clear hb hd
                      rw [d19]
                      clear d19
                      rcases q1 with _ | _
                      · (have e22 : u 22 = _ := d22 rfl; rw [e22]; clear e22; have xy := (HY.out.below (bthen HW2.out HB1.out)).cell 0; simp only [List.getElem?_toArray, List.getElem?_cons_zero] at xy; go_wp2; exact ⟨_, rfl, RowKit.Below.refl _ _, fun _ => rfl, fun h => absurd h (by decide)⟩)
                      · (go_wp2; exact ⟨_, rfl, RowKit.Below.refl _ _, (fun h => by cases h), fun h => absurd h (by decide)⟩)
                      done
                  · as_aux_lemma =>
                      intro u A w1 hA hb hd
                      simp only [putAll, dstOf, gtA, gtS, gtZ, Option.bind_some, Option.bind, Act.put, List.setIfInBounds_toArray, List.set_cons_succ, List.set_cons_zero] at hA; subst hA
                      have HB1 := hI9 hb
                      have d19 : u 19 = _ := hd 19 (by omega) (by kernel_rfl)
                      clear hb hd
                      rw [d19]
                      clear d19
                      rcases q1 with _ | _
                      · (go_wp2; exact ⟨_, rfl, RowKit.Below.refl _ _, fun _ => rfl, fun h => absurd h (by decide)⟩)
                      · (go_wp2; exact ⟨_, rfl, RowKit.Below.refl _ _, (fun h => by cases h), fun h => absurd h (by decide)⟩)
                      done
                  · as_aux_lemma =>
                      intro u A w1 hA hb hd
                      simp only [putAll, dstOf, gtA, gtS, gtZ, Option.bind_some, Option.bind, Act.put, List.setIfInBounds_toArray, List.set_cons_succ, List.set_cons_zero] at hA; subst hA
                      have HB1 := hI9 hb
                      have d19 : u 19 = _ := hd 19 (by omega) (by kernel_rfl)
                      have d24 := hd 24 (by omega) (by kernel_rfl)
                      clear hb hd
                      rw [d19]
                      clear d19
                      rcases q1 with _ | _
                      · (have e24 : u 24 = _ := d24 rfl; rw [e24]; clear e24; go_wp2; exact ⟨_, rfl, RowKit.Below.refl _ _, fun _ => (by first | rfl | go_num | (congr 1; omega)), fun h => absurd h (by decide)⟩)
                      · (go_wp2; exact ⟨_, rfl, RowKit.Below.refl _ _, (fun h => by cases h), fun h => absurd h (by decide)⟩)
                      done
                  · as_aux_lemma =>
                      intro u A w1 hA hb hd
                      simp only [putAll, dstOf, gtA, gtS, gtZ, Option.bind_some, Option.bind, Act.put, List.setIfInBounds_toArray, List.set_cons_succ, List.set_cons_zero] at hA; subst hA
                      have HB1 := hI9 hb
                      have d19 : u 19 = _ := hd 19 (by omega) (by kernel_rfl)
                      have d23 := hd 23 (by omega) (by kernel_rfl)
                      have d25 := hd 25 (by omega) (by kernel_rfl)
                      clear hb hd
                      rw [d19]
                      clear d19
                      rcases q1 with _ | _
                      · (have e23 : u 23 = _ := d23 rfl; rw [e23]; clear e23; have e25 : u 25 = _ := d25 rfl; rw [e25]; clear e25; go_wp2; exact ⟨_, rfl, RowKit.Below.refl _ _, fun _ => rfl, fun h => absurd h (by decide)⟩)
                      · (go_wp2; exact ⟨_, rfl, RowKit.Below.refl _ _, (fun h => by cases h), fun h => absurd h (by decide)⟩)
                      done
                  · as_aux_lemma =>
                      intro u A w1 hA hb hd
                      simp only [putAll, dstOf, gtA, gtS, gtZ, Option.bind_some, Option.bind, Act.put, List.setIfInBounds_toArray, List.set_cons_succ, List.set_cons_zero] at hA; subst hA
                      have HB1 := hI9 hb
                      have d19 : u 19 = _ := hd 19 (by omega) (by kernel_rfl)
                      have d26 := hd 26 (by omega) (by kernel_rfl)
                      clear hb hd
                      rw [d19]
                      clear d19
                      rcases q1 with _ | _
                      · (have e26 : u 26 = _ := d26 rfl; rw [e26]; clear e26; have xr := HRJ.out _ (bthen HW2.out HB1.out); go_wp2; exact ⟨_, rfl, RowKit.Below.refl _ _, fun _ => rfl, fun h => absurd h (by decide)⟩)
                      · (go_wp2; exact ⟨_, rfl, RowKit.Below.refl _ _, (fun h => by cases h), fun h => absurd h (by decide)⟩)
                      done
                  · as_aux_lemma =>
                      intro u A w1 hA hb hd
                      simp only [putAll, dstOf, gtA, gtS, gtZ, Option.bind_some, Option.bind, Act.put, List.setIfInBounds_toArray, List.set_cons_succ, List.set_cons_zero] at hA; subst hA
                      have HB1 := hI9 hb
                      have d19 : u 19 = _ := hd 19 (by omega) (by kernel_rfl)
                      have d21 := hd 21 (by omega) (by kernel_rfl)
                      have d27 := hd 27 (by omega) (by kernel_rfl)
                      clear hb hd
                      rw [d19]
                      clear d19
                      rcases q1 with _ | _
                      · (have e21 : u 21 = _ := d21 rfl; rw [e21]; clear e21; have e27 : u 27 = _ := d27 rfl; rw [e27]; clear e27; go_wp2; exact ⟨_, rfl, RowKit.Below.refl _ _, fun _ => congrArg Value.bool HP.out.2.2.1.symm, fun h => absurd h (by decide)⟩)
                      · (go_wp2; exact ⟨_, rfl, RowKit.Below.refl _ _, (fun h => by cases h), fun h => absurd h (by decide)⟩)
                      done
                  · as_aux_lemma =>
                      intro u A w1 hA hb hd
                      simp only [putAll, dstOf, gtA, gtS, gtZ, Option.bind_some, Option.bind, Act.put, List.setIfInBounds_toArray, List.set_cons_succ, List.set_cons_zero] at hA; subst hA
                      have HB1 := hI9 hb
                      have d19 : u 19 = _ := hd 19 (by omega) (by kernel_rfl)
                      have d28 := hd 28 (by omega) (by kernel_rfl)
                      clear hb hd
                      rw [d19]
                      clear d19
                      rcases q1 with _ | _
                      · (have e28 : u 28 = _ := d28 rfl; rw [e28]; clear e28; go_wp2; exact ⟨_, rfl, RowKit.Below.refl _ _, rfl, fun h => absurd h (by decide)⟩)
                      · (go_wp2; exact ⟨_, rfl, RowKit.Below.refl _ _, rfl, fun h => absurd h (by decide)⟩)
                      done
                  · as_aux_lemma =>
                      intro u A w1 hA hb hd
                      simp only [putAll, dstOf, gtA, gtS, gtZ, Option.bind_some, Option.bind, Act.put, List.setIfInBounds_toArray, List.set_cons_succ, List.set_cons_zero] at hA; subst hA
                      have HB1 := hI9 hb
                      have d29 : u 29 = _ := hd 29 (by omega) (by kernel_rfl)
                      clear hb hd
                      rw [d29]
                      clear d29
                      rcases q1 with _ | _
                      · (simp only [cond_false]; rcases pC with _ | _; (focus (go_wp2; exact ⟨_, rfl, RowKit.Below.refl _ _, (fun _ h => by cases h), fun h => absurd h (by decide)⟩)); (focus (go_wp2; exact ⟨_, rfl, RowKit.Below.refl _ _, fun _ _ => rfl, fun h => absurd h (by decide)⟩)))
                      · (simp only [cond_true]; (go_wp2; exact ⟨_, rfl, RowKit.Below.refl _ _, (fun h => by cases h), fun h => absurd h (by decide)⟩))
                      done
                  · as_aux_lemma =>
                      intro u A w1 hA hb hd
                      simp only [putAll, dstOf, gtA, gtS, gtZ, Option.bind_some, Option.bind, Act.put, List.setIfInBounds_toArray, List.set_cons_succ, List.set_cons_zero] at hA; subst hA
                      have HB1 := hI9 hb
                      have d29 : u 29 = _ := hd 29 (by omega) (by kernel_rfl)
                      have d30 := hd 30 (by omega) (by kernel_rfl)
                      clear hb hd
                      rw [d29]
                      clear d29
                      rcases q1 with _ | _
                      · (simp only [cond_false]; rcases pC with _ | _; (focus (go_wp2; exact ⟨_, rfl, RowKit.Below.refl _ _, (fun _ h => by cases h), fun h => absurd h (by decide)⟩)); (focus (have e30 : u 30 = _ := d30 rfl rfl; rw [e30]; clear e30; have xg := (HG.out.below HB1.out).cell 0; simp only [gtA, gtS, gtZ] at xg; go_wp2; exact ⟨_, rfl, RowKit.Below.refl _ _, fun _ _ => rfl, fun h => absurd h (by decide)⟩)))
                      · (simp only [cond_true]; (go_wp2; exact ⟨_, rfl, RowKit.Below.refl _ _, (fun h => by cases h), fun h => absurd h (by decide)⟩))
                      done
                  · as_aux_lemma =>
                      intro u A w1 hA hb hd
                      simp only [putAll, dstOf, gtA, gtS, gtZ, Option.bind_some, Option.bind, Act.put, List.setIfInBounds_toArray, List.set_cons_succ, List.set_cons_zero] at hA; subst hA
                      have HB1 := hI9 hb
                      have d29 : u 29 = _ := hd 29 (by omega) (by kernel_rfl)
                      clear hb hd
                      rw [d29]
                      clear d29
                      rcases q1 with _ | _
                      · (simp only [cond_false]; rcases pC with _ | _; (focus (go_wp2; exact ⟨_, rfl, RowKit.Below.refl _ _, (fun _ h => by cases h), fun h => absurd h (by decide)⟩)); (focus (go_wp2; exact ⟨_, rfl, RowKit.Below.refl _ _, fun _ _ => rfl, fun h => absurd h (by decide)⟩)))
                      · (simp only [cond_true]; (go_wp2; exact ⟨_, rfl, RowKit.Below.refl _ _, (fun h => by cases h), fun h => absurd h (by decide)⟩))
                      done
                  · as_aux_lemma =>
                      intro u A w1 hA hb hd
                      simp only [putAll, dstOf, gtA, gtS, gtZ, Option.bind_some, Option.bind, Act.put, List.setIfInBounds_toArray, List.set_cons_succ, List.set_cons_zero] at hA; subst hA
                      have HB1 := hI9 hb
                      have d29 : u 29 = _ := hd 29 (by omega) (by kernel_rfl)
                      have d32 := hd 32 (by omega) (by kernel_rfl)
                      clear hb hd
                      rw [d29]
                      clear d29
                      rcases q1 with _ | _
                      · (simp only [cond_false]; rcases pC with _ | _; (focus (go_wp2; exact ⟨_, rfl, RowKit.Below.refl _ _, (fun _ h => by cases h), fun h => absurd h (by decide)⟩)); (focus (have e32 : u 32 = _ := d32 rfl rfl; rw [e32]; clear e32; have xy := (HY.out.below (bthen HW2.out HB1.out)).cell 0; simp only [List.getElem?_toArray, List.getElem?_cons_zero] at xy; go_wp2; exact ⟨_, rfl, RowKit.Below.refl _ _, fun _ _ => rfl, fun h => absurd h (by decide)⟩)))
                      · (simp only [cond_true]; (go_wp2; exact ⟨_, rfl, RowKit.Below.refl _ _, (fun h => by cases h), fun h => absurd h (by decide)⟩))
                      done
                  · as_aux_lemma =>
                      intro u A w1 hA hb hd
                      simp only [putAll, dstOf, gtA, gtS, gtZ, Option.bind_some, Option.bind, Act.put, List.setIfInBounds_toArray, List.set_cons_succ, List.set_cons_zero] at hA; subst hA
                      have HB1 := hI9 hb
                      have d29 : u 29 = _ := hd 29 (by omega) (by kernel_rfl)
                      clear hb hd
                      rw [d29]
                      clear d29
                      rcases q1 with _ | _
                      · (simp only [cond_false]; rcases pC with _ | _; (focus (go_wp2; exact ⟨_, rfl, RowKit.Below.refl _ _, (fun _ h => by cases h), fun h => absurd h (by decide)⟩)); (focus (go_wp2; exact ⟨_, rfl, RowKit.Below.refl _ _, fun _ _ => rfl, fun h => absurd h (by decide)⟩)))
                      · (simp only [cond_true]; (go_wp2; exact ⟨_, rfl, RowKit.Below.refl _ _, (fun h => by cases h), fun h => absurd h (by decide)⟩))
                      done
                  · as_aux_lemma =>
                      intro u A w1 hA hb hd
                      simp only [putAll, dstOf, gtA, gtS, gtZ, Option.bind_some, Option.bind, Act.put, List.setIfInBounds_toArray, List.set_cons_succ, List.set_cons_zero] at hA; subst hA
                      have HB1 := hI9 hb
                      have d29 : u 29 = _ := hd 29 (by omega) (by kernel_rfl)
                      have d33 := hd 33 (by omega) (by kernel_rfl)
                      have d34 := hd 34 (by omega) (by kernel_rfl)
                      clear hb hd
                      rw [d29]
                      clear d29
                      rcases q1 with _ | _
                      · (simp only [cond_false]; rcases pC with _ | _; (focus (go_wp2; exact ⟨_, rfl, RowKit.Below.refl _ _, (fun _ h => by cases h), fun h => absurd h (by decide)⟩)); (focus (have e33 : u 33 = _ := d33 rfl rfl; rw [e33]; clear e33; have e34 : u 34 = _ := d34 rfl rfl; rw [e34]; clear e34; go_wp2; exact ⟨_, rfl, RowKit.Below.refl _ _, fun _ _ => rfl, fun h => absurd h (by decide)⟩)))
                      · (simp only [cond_true]; (go_wp2; exact ⟨_, rfl, RowKit.Below.refl _ _, (fun h => by cases h), fun h => absurd h (by decide)⟩))
                      done
                  · as_aux_lemma =>
                      intro u A w1 hA hb hd
                      simp only [putAll, dstOf, gtA, gtS, gtZ, Option.bind_some, Option.bind, Act.put, List.setIfInBounds_toArray, List.set_cons_succ, List.set_cons_zero] at hA; subst hA
                      have HB1 := hI9 hb
                      have d29 : u 29 = _ := hd 29 (by omega) (by kernel_rfl)
                      have d35 := hd 35 (by omega) (by kernel_rfl)
                      clear hb hd
                      rw [d29]
                      clear d29
                      rcases q1 with _ | _
                      · (simp only [cond_false]; rcases pC with _ | _; (focus (go_wp2; exact ⟨_, rfl, RowKit.Below.refl _ _, (fun _ h => by cases h), fun h => absurd h (by decide)⟩)); (focus (have e35 : u 35 = _ := d35 rfl rfl; rw [e35]; clear e35; have xr := HRI.out _ (bthen HW2.out HB1.out); go_wp2; exact ⟨_, rfl, RowKit.Below.refl _ _, fun _ _ => rfl, fun h => absurd h (by decide)⟩)))
                      · (simp only [cond_true]; (go_wp2; exact ⟨_, rfl, RowKit.Below.refl _ _, (fun h => by cases h), fun h => absurd h (by decide)⟩))
                      done
                  · as_aux_lemma =>
                      intro u A w1 hA hb hd
                      simp only [putAll, dstOf, gtA, gtS, gtZ, Option.bind_some, Option.bind, Act.put, List.setIfInBounds_toArray, List.set_cons_succ, List.set_cons_zero] at hA; subst hA
                      have HB1 := hI9 hb
                      have d29 : u 29 = _ := hd 29 (by omega) (by kernel_rfl)
                      have d31 := hd 31 (by omega) (by kernel_rfl)
                      have d36 := hd 36 (by omega) (by kernel_rfl)
                      clear hb hd
                      rw [d29]
                      clear d29
                      rcases q1 with _ | _
                      · (simp only [cond_false]; rcases pC with _ | _; (focus (go_wp2; exact ⟨_, rfl, RowKit.Below.refl _ _, (fun _ h => by cases h), fun h => absurd h (by decide)⟩)); (focus (have e31 : u 31 = _ := d31 rfl rfl; rw [e31]; clear e31; have e36 : u 36 = _ := d36 rfl rfl; rw [e36]; clear e36; go_wp2; exact ⟨_, rfl, RowKit.Below.refl _ _, fun _ _ => congrArg Value.bool HP.out.2.2.2.1.symm, fun h => absurd h (by decide)⟩)))
                      · (simp only [cond_true]; (go_wp2; exact ⟨_, rfl, RowKit.Below.refl _ _, (fun h => by cases h), fun h => absurd h (by decide)⟩))
                      done
                  · as_aux_lemma =>
                      intro u A w1 hA hb hd
                      simp only [putAll, dstOf, gtA, gtS, gtZ, Option.bind_some, Option.bind, Act.put, List.setIfInBounds_toArray, List.set_cons_succ, List.set_cons_zero] at hA; subst hA
                      have HB1 := hI9 hb
                      have d19 : u 19 = _ := hd 19 (by omega) (by kernel_rfl)
                      have d29 : u 29 = _ := hd 29 (by omega) (by kernel_rfl)
                      have d37 := hd 37 (by omega) (by kernel_rfl)
                      clear hb hd
                      rw [d19, d29]
                      clear d19 d29
                      rcases q1 with _ | _
                      · (simp only [cond_false]; rcases pC with _ | _; (focus (go_wp2; exact ⟨_, rfl, RowKit.Below.refl _ _, fun _ => congrArg Value.bool HP.out.2.2.2.2.2.2.1.symm, fun h => absurd h (by decide)⟩)); (have e37 : u 37 = _ := d37 rfl rfl; rw [e37]; clear e37; go_wp2; exact ⟨_, rfl, RowKit.Below.refl _ _, fun _ => congrArg Value.bool HP.out.2.2.2.2.2.2.1.symm, fun h => absurd h (by decide)⟩))
                      · (go_wp2; exact ⟨_, rfl, RowKit.Below.refl _ _, (fun h => by cases h), fun h => absurd h (by decide)⟩)
                      done
                  · as_aux_lemma =>
                      intro u A w1 hA hb hd
                      simp only [putAll, dstOf, gtA, gtS, gtZ, Option.bind_some, Option.bind, Act.put, List.setIfInBounds_toArray, List.set_cons_succ, List.set_cons_zero] at hA; subst hA
                      have HB1 := hI9 hb
                      have d19 : u 19 = _ := hd 19 (by omega) (by kernel_rfl)
                      have d38 := hd 38 (by omega) (by kernel_rfl)
                      clear hb hd
                      rw [d19]
                      clear d19
                      rcases q1 with _ | _
                      · (have e38 : u 38 = _ := d38 rfl; rw [e38]; clear e38; go_wp2; exact ⟨_, rfl, RowKit.Below.refl _ _, congrArg Value.bool HP.out.2.2.2.2.2.2.2.symm, fun h => absurd h (by decide)⟩)
                      · (go_wp2; exact ⟨_, rfl, RowKit.Below.refl _ _, congrArg Value.bool HP.out.2.2.2.2.2.2.2.symm, fun h => absurd h (by decide)⟩)
                      done
                case htail3 =>
                  as_aux_lemma =>
                    intro u A w1 hA hb hd hf
                    simp only [putAll, dstOf, gtA, gtS, gtZ, Option.bind_some, Option.bind, Act.put, List.setIfInBounds_toArray, List.set_cons_succ, List.set_cons_zero] at hA; subst hA
                    have e0 : u 0 = _ := hd 0 (by omega)
                    have e1 : u 1 = _ := hd 1 (by omega)
                    have e2 : u 2 = _ := hd 2 (by omega)
                    have e3 : u 3 = _ := hd 3 (by omega)
                    have e4 : u 4 = _ := hd 4 (by omega)
                    have e5 : u 5 = _ := hd 5 (by omega)
                    have e6 : u 6 = _ := hd 6 (by omega)
                    have e7 : u 7 = _ := hd 7 (by omega)
                    have e8 : u 8 = _ := hd 8 (by omega)
                    have e9 : u 9 = _ := hd 9 (by omega)
                    have p10 := hd 10 (by omega)
                    have p11 := hd 11 (by omega)
                    have p12 := hd 12 (by omega)
                    have p13 := hd 13 (by omega)
                    have p14 := hd 14 (by omega)
                    have p15 := hd 15 (by omega)
                    have p16 := hd 16 (by omega)
                    have p17 := hd 17 (by omega)
                    have e18 : u 18 = _ := hd 18 (by omega)
                    have e19 : u 19 = _ := hd 19 (by omega)
                    have p20 := hd 20 (by omega)
                    have p21 := hd 21 (by omega)
                    have p22 := hd 22 (by omega)
                    have p23 := hd 23 (by omega)
                    have p24 := hd 24 (by omega)
                    have p25 := hd 25 (by omega)
                    have p26 := hd 26 (by omega)
                    have p27 := hd 27 (by omega)
                    have p28 := hd 28 (by omega)
                    have e29 : u 29 = _ := hd 29 (by omega)
                    have p30 := hd 30 (by omega)
                    have p31 := hd 31 (by omega)
                    have p32 := hd 32 (by omega)
                    have p33 := hd 33 (by omega)
                    have p34 := hd 34 (by omega)
                    have p35 := hd 35 (by omega)
                    have p36 := hd 36 (by omega)
                    have p37 := hd 37 (by omega)
                    have p38 := hd 38 (by omega)
                    have e39 : u 39 = _ := hd 39 (by omega)
                    first | rw [e0, e1, e2, e3, e4, e5, e6, e7, e8, e9, e18, e19, e29, e39] | simp only [e0, e1, e2, e3, e4, e5, e6, e7, e8, e9, e18, e19, e29, e39]
                    clear e0 e1 e2 e3 e4 e5 e6 e7 e8 e9 e18 e19 e29 e39
                    clear hd hf
                    have HW3 := hI9 (bthen HW2.out hb)
                    have nG := hI9 (HG.out.below hb)
                    clear hb HW2 HG p10 p11 p12 p13 p14 p15 p16 p17 p20 p21 p22 p23 p24 p25 p26 p27 p28 p30 p31 p32 p33 p34 p35 p36 p37 p38
                    have HG := nG
                    clear nG
                    go_wp2_with (fail)
                    refine wp_region_spec 15 (tkR gG bA oA F.m cA i j st ti tj J) (fun i => false) (by kernel_rfl) (by kernel_rfl) tkR_below ?hop4 ?htail4
                    case hop4 =>
                      simp only [List.take_succ_cons, List.take_zero, allOps]
                      refine ⟨?_, ?_, ?_, ?_, ?_, ?_, ?_, ?_, ?_, ?_, ?_, ?_, ?_, ?_, ?_, trivial⟩
                      · as_aux_lemma =>
                          intro u A w1 hA hb hd
                          simp only [putAll, dstOf, gtA, gtS, gtZ, Option.bind_some, Option.bind, Act.put, List.setIfInBounds_toArray, List.set_cons_succ, List.set_cons_zero] at hA; subst hA
                          have HB1 := hI9 hb
                          clear hb hd
                          go_wp2
                          exact ⟨_, rfl, Below.refl _ _, rfl, fun h => absurd h (by decide)⟩
                      · as_aux_lemma =>
                          intro u A w1 hA hb hd
                          simp only [putAll, dstOf, gtA, gtS, gtZ, Option.bind_some, Option.bind, Act.put, List.setIfInBounds_toArray, List.set_cons_succ, List.set_cons_zero] at hA; subst hA
                          have HB1 := hI9 hb
                          have d0 : u 0 = _ := hd 0 (by omega) (by kernel_rfl)
                          clear hb hd
                          rw [d0]
                          clear d0
                          go_wp2
                          exact ⟨_, rfl, Below.refl _ _, rfl, fun h => absurd h (by decide)⟩
                      · as_aux_lemma =>
                          intro u A w1 hA hb hd
                          simp only [putAll, dstOf, gtA, gtS, gtZ, Option.bind_some, Option.bind, Act.put, List.setIfInBounds_toArray, List.set_cons_succ, List.set_cons_zero] at hA; subst hA
                          have HB1 := hI9 hb
                          have d1 : u 1 = _ := hd 1 (by omega) (by kernel_rfl)
                          clear hb hd
                          rw [d1]
                          clear d1
                          rcases J with _ | _
                          · (go_wp2; exact ⟨_, rfl, RowKit.Below.refl _ _, (fun h => by cases h), fun h => absurd h (by decide)⟩)
                          · (go_wp2; exact ⟨_, rfl, RowKit.Below.refl _ _, fun _ => rfl, fun h => absurd h (by decide)⟩)
                          done
                      · as_aux_lemma =>
                          intro u A w1 hA hb hd
                          simp only [putAll, dstOf, gtA, gtS, gtZ, Option.bind_some, Option.bind, Act.put, List.setIfInBounds_toArray, List.set_cons_succ, List.set_cons_zero] at hA; subst hA
                          have HB1 := hI9 hb
                          have d1 : u 1 = _ := hd 1 (by omega) (by kernel_rfl)
                          have d2 := hd 2 (by omega) (by kernel_rfl)
                          clear hb hd
                          rw [d1]
                          clear d1
                          rcases J with _ | _
                          · (go_wp2; exact ⟨_, rfl, RowKit.Below.refl _ _, (fun h => by cases h), fun h => absurd h (by decide)⟩)
                          · (have e2 : u 2 = _ := d2 rfl; rw [e2]; clear e2; have xg := (HG.out.below HB1.out).cell 2; simp only [gtA, gtS, gtZ] at xg; go_wp2; exact ⟨_, rfl, RowKit.Below.refl _ _, fun _ => rfl, fun h => absurd h (by decide)⟩)
                          done
                      · as_aux_lemma =>
                          intro u A w1 hA hb hd
                          simp only [putAll, dstOf, gtA, gtS, gtZ, Option.bind_some, Option.bind, Act.put, List.setIfInBounds_toArray, List.set_cons_succ, List.set_cons_zero] at hA; subst hA
                          have HB1 := hI9 hb
                          have d1 : u 1 = _ := hd 1 (by omega) (by kernel_rfl)
                          clear hb hd
                          rw [d1]
                          clear d1
                          rcases J with _ | _
                          · (go_wp2; exact ⟨_, rfl, RowKit.Below.refl _ _, (fun h => by cases h), fun h => absurd h (by decide)⟩)
                          · (go_wp2; exact ⟨_, rfl, RowKit.Below.refl _ _, fun _ => rfl, fun h => absurd h (by decide)⟩)
                          done
                      · as_aux_lemma =>
                          intro u A w1 hA hb hd
                          simp only [putAll, dstOf, gtA, gtS, gtZ, Option.bind_some, Option.bind, Act.put, List.setIfInBounds_toArray, List.set_cons_succ, List.set_cons_zero] at hA; subst hA
                          have HB1 := hI9 hb
                          have d1 : u 1 = _ := hd 1 (by omega) (by kernel_rfl)
                          clear hb hd
                          rw [d1]
                          clear d1
                          rcases J with _ | _
                          · (go_wp2; exact ⟨_, rfl, RowKit.Below.refl _ _, (fun h => by cases h), fun h => absurd h (by decide)⟩)
                          · (go_wp2; exact ⟨_, rfl, RowKit.Below.refl _ _, fun _ => rfl, fun h => absurd h (by decide)⟩)
                          done
                      · as_aux_lemma =>
                          intro u A w1 hA hb hd
                          simp only [putAll, dstOf, gtA, gtS, gtZ, Option.bind_some, Option.bind, Act.put, List.setIfInBounds_toArray, List.set_cons_succ, List.set_cons_zero] at hA; subst hA
                          have HB1 := hI9 hb
                          have d1 : u 1 = _ := hd 1 (by omega) (by kernel_rfl)
                          have d4 := hd 4 (by omega) (by kernel_rfl)
                          have d5 := hd 5 (by omega) (by kernel_rfl)
                          clear hb hd
                          rw [d1]
                          clear d1
                          rcases J with _ | _
                          · (go_wp2; exact ⟨_, rfl, RowKit.Below.refl _ _, (fun h => by cases h), fun h => absurd h (by decide)⟩)
                          · (have e4 : u 4 = _ := d4 rfl; rw [e4]; clear e4; have e5 : u 5 = _ := d5 rfl; rw [e5]; clear e5; go_wp2; exact ⟨_, rfl, RowKit.Below.refl _ _, fun _ => rfl, fun h => absurd h (by decide)⟩)
                          done
                      · as_aux_lemma =>
                          intro u A w1 hA hb hd
                          simp only [putAll, dstOf, gtA, gtS, gtZ, Option.bind_some, Option.bind, Act.put, List.setIfInBounds_toArray, List.set_cons_succ, List.set_cons_zero] at hA; subst hA
                          have HB1 := hI9 hb
                          have d1 : u 1 = _ := hd 1 (by omega) (by kernel_rfl)
                          have d6 := hd 6 (by omega) (by kernel_rfl)
                          clear hb hd
                          rw [d1]
                          clear d1
                          rcases J with _ | _
                          · (go_wp2; exact ⟨_, rfl, RowKit.Below.refl _ _, (fun h => by cases h), fun h => absurd h (by decide)⟩)
                          · (have e6 : u 6 = _ := d6 rfl; rw [e6]; clear e6; have xr := HAI.out _ (bthen HW3.out HB1.out); go_wp2; exact ⟨_, rfl, RowKit.Below.refl _ _, fun _ => rfl, fun h => absurd h (by decide)⟩)
                          done
                      · as_aux_lemma =>
                          intro u A w1 hA hb hd
                          simp only [putAll, dstOf, gtA, gtS, gtZ, Option.bind_some, Option.bind, Act.put, List.setIfInBounds_toArray, List.set_cons_succ, List.set_cons_zero] at hA; subst hA
                          have HB1 := hI9 hb
                          have d1 : u 1 = _ := hd 1 (by omega) (by kernel_rfl)
                          clear hb hd
                          rw [d1]
                          clear d1
                          rcases J with _ | _
                          · (go_wp2; exact ⟨_, rfl, RowKit.Below.refl _ _, (fun h => by cases h), fun h => absurd h (by decide)⟩)
                          · (go_wp2; exact ⟨_, rfl, RowKit.Below.refl _ _, fun _ => rfl, fun h => absurd h (by decide)⟩)
                          done
                      · as_aux_lemma =>
                          intro u A w1 hA hb hd
                          simp only [putAll, dstOf, gtA, gtS, gtZ, Option.bind_some, Option.bind, Act.put, List.setIfInBounds_toArray, List.set_cons_succ, List.set_cons_zero] at hA; subst hA
                          have HB1 := hI9 hb
                          have d1 : u 1 = _ := hd 1 (by omega) (by kernel_rfl)
                          clear hb hd
                          rw [d1]
                          clear d1
                          rcases J with _ | _
                          · (go_wp2; exact ⟨_, rfl, RowKit.Below.refl _ _, (fun h => by cases h), fun h => absurd h (by decide)⟩)
                          · (go_wp2; exact ⟨_, rfl, RowKit.Below.refl _ _, fun _ => rfl, fun h => absurd h (by decide)⟩)
                          done
                      · as_aux_lemma =>
                          intro u A w1 hA hb hd
                          simp only [putAll, dstOf, gtA, gtS, gtZ, Option.bind_some, Option.bind, Act.put, List.setIfInBounds_toArray, List.set_cons_succ, List.set_cons_zero] at hA; subst hA
                          have HB1 := hI9 hb
                          have d1 : u 1 = _ := hd 1 (by omega) (by kernel_rfl)
                          have d9 := hd 9 (by omega) (by kernel_rfl)
                          clear hb hd
                          rw [d1]
                          clear d1
                          rcases J with _ | _
                          · (go_wp2; exact ⟨_, rfl, RowKit.Below.refl _ _, (fun h => by cases h), fun h => absurd h (by decide)⟩)
                          · (have e9 : u 9 = _ := d9 rfl; rw [e9]; clear e9; go_wp2; exact ⟨_, rfl, RowKit.Below.refl _ _, fun _ => (by first | rfl | go_num | (congr 1; omega)), fun h => absurd h (by decide)⟩)
                          done
                      · as_aux_lemma =>
                          intro u A w1 hA hb hd
                          simp only [putAll, dstOf, gtA, gtS, gtZ, Option.bind_some, Option.bind, Act.put, List.setIfInBounds_toArray, List.set_cons_succ, List.set_cons_zero] at hA; subst hA
                          have HB1 := hI9 hb
                          have d1 : u 1 = _ := hd 1 (by omega) (by kernel_rfl)
                          have d8 := hd 8 (by omega) (by kernel_rfl)
                          have d10 := hd 10 (by omega) (by kernel_rfl)
                          clear hb hd
                          rw [d1]
                          clear d1
                          rcases J with _ | _
                          · (go_wp2; exact ⟨_, rfl, RowKit.Below.refl _ _, (fun h => by cases h), fun h => absurd h (by decide)⟩)
                          · (have e8 : u 8 = _ := d8 rfl; rw [e8]; clear e8; have e10 : u 10 = _ := d10 rfl; rw [e10]; clear e10; go_wp2; exact ⟨_, rfl, RowKit.Below.refl _ _, fun _ => rfl, fun h => absurd h (by decide)⟩)
                          done
                      · as_aux_lemma =>
                          intro u A w1 hA hb hd
                          simp only [putAll, dstOf, gtA, gtS, gtZ, Option.bind_some, Option.bind, Act.put, List.setIfInBounds_toArray, List.set_cons_succ, List.set_cons_zero] at hA; subst hA
                          have HB1 := hI9 hb
                          have d1 : u 1 = _ := hd 1 (by omega) (by kernel_rfl)
                          have d11 := hd 11 (by omega) (by kernel_rfl)
                          clear hb hd
                          rw [d1]
                          clear d1
                          rcases J with _ | _
                          · (go_wp2; exact ⟨_, rfl, RowKit.Below.refl _ _, (fun h => by cases h), fun h => absurd h (by decide)⟩)
                          · (have e11 : u 11 = _ := d11 rfl; rw [e11]; clear e11; have xr := HAJ.out _ (bthen HW3.out HB1.out); go_wp2; exact ⟨_, rfl, RowKit.Below.refl _ _, fun _ => rfl, fun h => absurd h (by decide)⟩)
                          done
                      · as_aux_lemma =>
                          intro u A w1 hA hb hd
                          simp only [putAll, dstOf, gtA, gtS, gtZ, Option.bind_some, Option.bind, Act.put, List.setIfInBounds_toArray, List.set_cons_succ, List.set_cons_zero] at hA; subst hA
                          have HB1 := hI9 hb
                          have d1 : u 1 = _ := hd 1 (by omega) (by kernel_rfl)
                          have d7 := hd 7 (by omega) (by kernel_rfl)
                          have d12 := hd 12 (by omega) (by kernel_rfl)
                          clear hb hd
                          rw [d1]
                          clear d1
                          rcases J with _ | _
                          · (go_wp2; exact ⟨_, rfl, RowKit.Below.refl _ _, (fun h => by cases h), fun h => absurd h (by decide)⟩)
                          · (have e7 : u 7 = _ := d7 rfl; rw [e7]; clear e7; have e12 : u 12 = _ := d12 rfl; rw [e12]; clear e12; go_wp2; exact ⟨_, rfl, RowKit.Below.refl _ _, fun _ => (by first | rfl | exact congrArg (Value.int .i64) hwd), fun h => absurd h (by decide)⟩)
                          done
                      · as_aux_lemma =>
                          intro u A w1 hA hb hd
                          simp only [putAll, dstOf, gtA, gtS, gtZ, Option.bind_some, Option.bind, Act.put, List.setIfInBounds_toArray, List.set_cons_succ, List.set_cons_zero] at hA; subst hA
                          have HB1 := hI9 hb
                          have d1 : u 1 = _ := hd 1 (by omega) (by kernel_rfl)
                          have d3 := hd 3 (by omega) (by kernel_rfl)
                          have d13 := hd 13 (by omega) (by kernel_rfl)
                          clear hb hd
                          rw [d1]
                          clear d1
                          rcases J with _ | _
                          · (go_wp2; exact ⟨_, rfl, RowKit.Below.refl _ _, (fun h => by cases h), fun h => absurd h (by decide)⟩)
                          · (have e3 : u 3 = _ := d3 rfl; rw [e3]; clear e3; have e13 : u 13 = _ := d13 rfl; rw [e13]; clear e13; go_wp2; exact ⟨_, rfl, RowKit.Below.refl _ _, fun _ => congrArg Value.bool (HSD.out (by first | rfl | trivial)), fun h => absurd h (by decide)⟩)
                          done
                    case htail4 =>
                      as_aux_lemma =>
                        intro u A w1 hA hb hd hf
                        simp only [putAll, dstOf, gtA, gtS, gtZ, Option.bind_some, Option.bind, Act.put, List.setIfInBounds_toArray, List.set_cons_succ, List.set_cons_zero] at hA; subst hA
                        have e0 : u 0 = _ := hd 0 (by omega)
                        have e1 : u 1 = _ := hd 1 (by omega)
                        have p2 := hd 2 (by omega)
                        have p3 := hd 3 (by omega)
                        have p4 := hd 4 (by omega)
                        have p5 := hd 5 (by omega)
                        have p6 := hd 6 (by omega)
                        have p7 := hd 7 (by omega)
                        have p8 := hd 8 (by omega)
                        have p9 := hd 9 (by omega)
                        have p10 := hd 10 (by omega)
                        have p11 := hd 11 (by omega)
                        have p12 := hd 12 (by omega)
                        have p13 := hd 13 (by omega)
                        have p14 := hd 14 (by omega)
                        first | rw [e0, e1] | simp only [e0, e1]
                        clear e0 e1
                        clear hd hf
                        have nW := hI9 (bthen HW3.out hb)
                        have nG := hI9 (HG.out.below hb)
                        clear hb HW3 HG p2 p3 p4 p5 p6 p7 p8 p9 p10 p11 p12 p13
                        have HW3 := nW
                        have HG := nG
                        clear nG nW
                        refine wpl_pickb rfl (.tmp 310) (.tmp 323) (.const (.bool false)) rfl J rfl (.bool false) (fun h => p14 h) (fun _ => rfl) ?_
                        simp only [Act.put]
                        clear p14
                        go_wp2_with (fail)
                        refine wp_region_spec 19 (tlR gG bA oA F.m cA i j st ti tj bs J pE) (fun i => false) (by kernel_rfl) (by kernel_rfl) tlR_below ?hop5 ?htail5
                        case hop5 =>
                          simp only [List.take_succ_cons, List.take_zero, allOps]
                          refine ⟨?_, ?_, ?_, ?_, ?_, ?_, ?_, ?_, ?_, ?_, ?_, ?_, ?_, ?_, ?_, ?_, ?_, ?_, ?_, trivial⟩
                          · as_aux_lemma =>
                              intro u A w1 hA hb hd
                              simp only [putAll, dstOf, gtA, gtS, gtZ, Option.bind_some, Option.bind, Act.put, List.setIfInBounds_toArray, List.set_cons_succ, List.set_cons_zero] at hA; subst hA
                              have HB1 := hI9 hb
                              clear hb hd
                              go_wp2
                              exact ⟨_, rfl, Below.refl _ _, rfl, fun h => absurd h (by decide)⟩
                          · as_aux_lemma =>
                              intro u A w1 hA hb hd
                              simp only [putAll, dstOf, gtA, gtS, gtZ, Option.bind_some, Option.bind, Act.put, List.setIfInBounds_toArray, List.set_cons_succ, List.set_cons_zero] at hA; subst hA
                              have HB1 := hI9 hb
                              have d0 : u 0 = _ := hd 0 (by omega) (by kernel_rfl)
                              clear hb hd
                              rw [d0]
                              clear d0
                              go_wp2
                              exact ⟨_, rfl, Below.refl _ _, rfl, fun h => absurd h (by decide)⟩
                          · as_aux_lemma =>
                              intro u A w1 hA hb hd
                              simp only [putAll, dstOf, gtA, gtS, gtZ, Option.bind_some, Option.bind, Act.put, List.setIfInBounds_toArray, List.set_cons_succ, List.set_cons_zero] at hA; subst hA
                              have HB1 := hI9 hb
                              have d1 : u 1 = _ := hd 1 (by omega) (by kernel_rfl)
                              clear hb hd
                              rw [d1]
                              clear d1
                              rcases bs with _ | _
                              · (go_wp2; exact ⟨_, rfl, RowKit.Below.refl _ _, fun _ => rfl, fun h => absurd h (by decide)⟩)
                              · (go_wp2; exact ⟨_, rfl, RowKit.Below.refl _ _, (fun h => by cases h), fun h => absurd h (by decide)⟩)
                              done
                          · as_aux_lemma =>
                              intro u A w1 hA hb hd
                              simp only [putAll, dstOf, gtA, gtS, gtZ, Option.bind_some, Option.bind, Act.put, List.setIfInBounds_toArray, List.set_cons_succ, List.set_cons_zero] at hA; subst hA
                              have HB1 := hI9 hb
                              have d1 : u 1 = _ := hd 1 (by omega) (by kernel_rfl)
                              have d2 := hd 2 (by omega) (by kernel_rfl)
                              clear hb hd
                              rw [d1]
                              clear d1
                              rcases bs with _ | _
                              · (have e2 : u 2 = _ := d2 rfl; rw [e2]; clear e2; go_wp2; exact ⟨_, rfl, RowKit.Below.refl _ _, rfl, fun h => absurd h (by decide)⟩)
                              · (go_wp2; exact ⟨_, rfl, RowKit.Below.refl _ _, rfl, fun h => absurd h (by decide)⟩)
                              done
                          · as_aux_lemma =>
                              intro u A w1 hA hb hd
                              simp only [putAll, dstOf, gtA, gtS, gtZ, Option.bind_some, Option.bind, Act.put, List.setIfInBounds_toArray, List.set_cons_succ, List.set_cons_zero] at hA; subst hA
                              have HB1 := hI9 hb
                              have d3 : u 3 = _ := hd 3 (by omega) (by kernel_rfl)
                              clear hb hd
                              rw [d3]
                              clear d3
                              rcases bs with _ | _
                              · (simp only [cond_false]; rcases J with _ | _; (focus (go_wp2; exact ⟨_, rfl, RowKit.Below.refl _ _, (fun _ h => by cases h), fun h => absurd h (by decide)⟩)); (focus (go_wp2; exact ⟨_, rfl, RowKit.Below.refl _ _, fun _ _ => rfl, fun h => absurd h (by decide)⟩)))
                              · (simp only [cond_true]; (go_wp2; exact ⟨_, rfl, RowKit.Below.refl _ _, (fun h => by cases h), fun h => absurd h (by decide)⟩))
                              done
                          · as_aux_lemma =>
                              intro u A w1 hA hb hd
                              simp only [putAll, dstOf, gtA, gtS, gtZ, Option.bind_some, Option.bind, Act.put, List.setIfInBounds_toArray, List.set_cons_succ, List.set_cons_zero] at hA; subst hA
                              have HB1 := hI9 hb
                              have d3 : u 3 = _ := hd 3 (by omega) (by kernel_rfl)
                              have d4 := hd 4 (by omega) (by kernel_rfl)
                              clear hb hd
                              rw [d3]
                              clear d3
                              rcases bs with _ | _
                              · (simp only [cond_false]; rcases J with _ | _; (focus (go_wp2; exact ⟨_, rfl, RowKit.Below.refl _ _, (fun _ h => by cases h), fun h => absurd h (by decide)⟩)); (focus (have e4 : u 4 = _ := d4 rfl rfl; rw [e4]; clear e4; have xg := (HG.out.below HB1.out).cell 2; simp only [gtA, gtS, gtZ] at xg; go_wp2; exact ⟨_, rfl, RowKit.Below.refl _ _, fun _ _ => rfl, fun h => absurd h (by decide)⟩)))
                              · (simp only [cond_true]; (go_wp2; exact ⟨_, rfl, RowKit.Below.refl _ _, (fun h => by cases h), fun h => absurd h (by decide)⟩))
                              done
                          · as_aux_lemma =>
                              intro u A w1 hA hb hd
                              simp only [putAll, dstOf, gtA, gtS, gtZ, Option.bind_some, Option.bind, Act.put, List.setIfInBounds_toArray, List.set_cons_succ, List.set_cons_zero] at hA; subst hA
                              have HB1 := hI9 hb
                              have d3 : u 3 = _ := hd 3 (by omega) (by kernel_rfl)
                              clear hb hd
                              rw [d3]
                              clear d3
                              rcases bs with _ | _
                              · (simp only [cond_false]; rcases J with _ | _; (focus (go_wp2; exact ⟨_, rfl, RowKit.Below.refl _ _, (fun _ h => by cases h), fun h => absurd h (by decide)⟩)); (focus (go_wp2; exact ⟨_, rfl, RowKit.Below.refl _ _, fun _ _ => rfl, fun h => absurd h (by decide)⟩)))
                              · (simp only [cond_true]; (go_wp2; exact ⟨_, rfl, RowKit.Below.refl _ _, (fun h => by cases h), fun h => absurd h (by decide)⟩))
                              done
                          · as_aux_lemma =>
                              intro u A w1 hA hb hd
                              simp only [putAll, dstOf, gtA, gtS, gtZ, Option.bind_some, Option.bind, Act.put, List.setIfInBounds_toArray, List.set_cons_succ, List.set_cons_zero] at hA; subst hA
                              have HB1 := hI9 hb
                              have d3 : u 3 = _ := hd 3 (by omega) (by kernel_rfl)
                              clear hb hd
                              rw [d3]
                              clear d3
                              rcases bs with _ | _
                              · (simp only [cond_false]; rcases J with _ | _; (focus (go_wp2; exact ⟨_, rfl, RowKit.Below.refl _ _, (fun _ h => by cases h), fun h => absurd h (by decide)⟩)); (focus (go_wp2; exact ⟨_, rfl, RowKit.Below.refl _ _, fun _ _ => rfl, fun h => absurd h (by decide)⟩)))
                              · (simp only [cond_true]; (go_wp2; exact ⟨_, rfl, RowKit.Below.refl _ _, (fun h => by cases h), fun h => absurd h (by decide)⟩))
                              done
                          · as_aux_lemma =>
                              intro u A w1 hA hb hd
                              simp only [putAll, dstOf, gtA, gtS, gtZ, Option.bind_some, Option.bind, Act.put, List.setIfInBounds_toArray, List.set_cons_succ, List.set_cons_zero] at hA; subst hA
                              have HB1 := hI9 hb
                              have d3 : u 3 = _ := hd 3 (by omega) (by kernel_rfl)
                              have d6 := hd 6 (by omega) (by kernel_rfl)
                              have d7 := hd 7 (by omega) (by kernel_rfl)
                              clear hb hd
                              rw [d3]
                              clear d3
                              rcases bs with _ | _
                              · (simp only [cond_false]; rcases J with _ | _; (focus (go_wp2; exact ⟨_, rfl, RowKit.Below.refl _ _, (fun _ h => by cases h), fun h => absurd h (by decide)⟩)); (focus (have e6 : u 6 = _ := d6 rfl rfl; rw [e6]; clear e6; have e7 : u 7 = _ := d7 rfl rfl; rw [e7]; clear e7; go_wp2; exact ⟨_, rfl, RowKit.Below.refl _ _, fun _ _ => rfl, fun h => absurd h (by decide)⟩)))
                              · (simp only [cond_true]; (go_wp2; exact ⟨_, rfl, RowKit.Below.refl _ _, (fun h => by cases h), fun h => absurd h (by decide)⟩))
                              done
                          · as_aux_lemma =>
                              intro u A w1 hA hb hd
                              simp only [putAll, dstOf, gtA, gtS, gtZ, Option.bind_some, Option.bind, Act.put, List.setIfInBounds_toArray, List.set_cons_succ, List.set_cons_zero] at hA; subst hA
                              have HB1 := hI9 hb
                              have d3 : u 3 = _ := hd 3 (by omega) (by kernel_rfl)
                              have d8 := hd 8 (by omega) (by kernel_rfl)
                              clear hb hd
                              rw [d3]
                              clear d3
                              rcases bs with _ | _
                              · (simp only [cond_false]; rcases J with _ | _; (focus (go_wp2; exact ⟨_, rfl, RowKit.Below.refl _ _, (fun _ h => by cases h), fun h => absurd h (by decide)⟩)); (focus (have e8 : u 8 = _ := d8 rfl rfl; rw [e8]; clear e8; have xr := HAI.out _ (bthen HW3.out HB1.out); go_wp2; exact ⟨_, rfl, RowKit.Below.refl _ _, fun _ _ => rfl, fun h => absurd h (by decide)⟩)))
                              · (simp only [cond_true]; (go_wp2; exact ⟨_, rfl, RowKit.Below.refl _ _, (fun h => by cases h), fun h => absurd h (by decide)⟩))
                              done
                          · as_aux_lemma =>
                              intro u A w1 hA hb hd
                              simp only [putAll, dstOf, gtA, gtS, gtZ, Option.bind_some, Option.bind, Act.put, List.setIfInBounds_toArray, List.set_cons_succ, List.set_cons_zero] at hA; subst hA
                              have HB1 := hI9 hb
                              have d3 : u 3 = _ := hd 3 (by omega) (by kernel_rfl)
                              clear hb hd
                              rw [d3]
                              clear d3
                              rcases bs with _ | _
                              · (simp only [cond_false]; rcases J with _ | _; (focus (go_wp2; exact ⟨_, rfl, RowKit.Below.refl _ _, (fun _ h => by cases h), fun h => absurd h (by decide)⟩)); (focus (go_wp2; exact ⟨_, rfl, RowKit.Below.refl _ _, fun _ _ => rfl, fun h => absurd h (by decide)⟩)))
                              · (simp only [cond_true]; (go_wp2; exact ⟨_, rfl, RowKit.Below.refl _ _, (fun h => by cases h), fun h => absurd h (by decide)⟩))
                              done
                          · as_aux_lemma =>
                              intro u A w1 hA hb hd
                              simp only [putAll, dstOf, gtA, gtS, gtZ, Option.bind_some, Option.bind, Act.put, List.setIfInBounds_toArray, List.set_cons_succ, List.set_cons_zero] at hA; subst hA
                              have HB1 := hI9 hb
                              have d3 : u 3 = _ := hd 3 (by omega) (by kernel_rfl)
                              clear hb hd
                              rw [d3]
                              clear d3
                              rcases bs with _ | _
                              · (simp only [cond_false]; rcases J with _ | _; (focus (go_wp2; exact ⟨_, rfl, RowKit.Below.refl _ _, (fun _ h => by cases h), fun h => absurd h (by decide)⟩)); (focus (go_wp2; exact ⟨_, rfl, RowKit.Below.refl _ _, fun _ _ => rfl, fun h => absurd h (by decide)⟩)))
                              · (simp only [cond_true]; (go_wp2; exact ⟨_, rfl, RowKit.Below.refl _ _, (fun h => by cases h), fun h => absurd h (by decide)⟩))
                              done
                          · as_aux_lemma =>
                              intro u A w1 hA hb hd
                              simp only [putAll, dstOf, gtA, gtS, gtZ, Option.bind_some, Option.bind, Act.put, List.setIfInBounds_toArray, List.set_cons_succ, List.set_cons_zero] at hA; subst hA
                              have HB1 := hI9 hb
                              have d3 : u 3 = _ := hd 3 (by omega) (by kernel_rfl)
                              have d11 := hd 11 (by omega) (by kernel_rfl)
                              clear hb hd
                              rw [d3]
                              clear d3
                              rcases bs with _ | _
                              · (simp only [cond_false]; rcases J with _ | _; (focus (go_wp2; exact ⟨_, rfl, RowKit.Below.refl _ _, (fun _ h => by cases h), fun h => absurd h (by decide)⟩)); (focus (have e11 : u 11 = _ := d11 rfl rfl; rw [e11]; clear e11; go_wp2; exact ⟨_, rfl, RowKit.Below.refl _ _, fun _ _ => (by first | rfl | go_num | (congr 1; omega)), fun h => absurd h (by decide)⟩)))
                              · (simp only [cond_true]; (go_wp2; exact ⟨_, rfl, RowKit.Below.refl _ _, (fun h => by cases h), fun h => absurd h (by decide)⟩))
                              done
                          · as_aux_lemma =>
                              intro u A w1 hA hb hd
                              simp only [putAll, dstOf, gtA, gtS, gtZ, Option.bind_some, Option.bind, Act.put, List.setIfInBounds_toArray, List.set_cons_succ, List.set_cons_zero] at hA; subst hA
                              have HB1 := hI9 hb
                              have d3 : u 3 = _ := hd 3 (by omega) (by kernel_rfl)
                              have d10 := hd 10 (by omega) (by kernel_rfl)
                              have d12 := hd 12 (by omega) (by kernel_rfl)
                              clear hb hd
                              rw [d3]
                              clear d3
                              rcases bs with _ | _
                              · (simp only [cond_false]; rcases J with _ | _; (focus (go_wp2; exact ⟨_, rfl, RowKit.Below.refl _ _, (fun _ h => by cases h), fun h => absurd h (by decide)⟩)); (focus (have e10 : u 10 = _ := d10 rfl rfl; rw [e10]; clear e10; have e12 : u 12 = _ := d12 rfl rfl; rw [e12]; clear e12; go_wp2; exact ⟨_, rfl, RowKit.Below.refl _ _, fun _ _ => rfl, fun h => absurd h (by decide)⟩)))
                              · (simp only [cond_true]; (go_wp2; exact ⟨_, rfl, RowKit.Below.refl _ _, (fun h => by cases h), fun h => absurd h (by decide)⟩))
                              done
                          · as_aux_lemma =>
                              intro u A w1 hA hb hd
                              simp only [putAll, dstOf, gtA, gtS, gtZ, Option.bind_some, Option.bind, Act.put, List.setIfInBounds_toArray, List.set_cons_succ, List.set_cons_zero] at hA; subst hA
                              have HB1 := hI9 hb
                              have d3 : u 3 = _ := hd 3 (by omega) (by kernel_rfl)
                              have d13 := hd 13 (by omega) (by kernel_rfl)
                              clear hb hd
                              rw [d3]
                              clear d3
                              rcases bs with _ | _
                              · (simp only [cond_false]; rcases J with _ | _; (focus (go_wp2; exact ⟨_, rfl, RowKit.Below.refl _ _, (fun _ h => by cases h), fun h => absurd h (by decide)⟩)); (focus (have e13 : u 13 = _ := d13 rfl rfl; rw [e13]; clear e13; have xr := HAJ.out _ (bthen HW3.out HB1.out); go_wp2; exact ⟨_, rfl, RowKit.Below.refl _ _, fun _ _ => rfl, fun h => absurd h (by decide)⟩)))
                              · (simp only [cond_true]; (go_wp2; exact ⟨_, rfl, RowKit.Below.refl _ _, (fun h => by cases h), fun h => absurd h (by decide)⟩))
                              done
                          · as_aux_lemma =>
                              intro u A w1 hA hb hd
                              simp only [putAll, dstOf, gtA, gtS, gtZ, Option.bind_some, Option.bind, Act.put, List.setIfInBounds_toArray, List.set_cons_succ, List.set_cons_zero] at hA; subst hA
                              have HB1 := hI9 hb
                              have d3 : u 3 = _ := hd 3 (by omega) (by kernel_rfl)
                              have d9 := hd 9 (by omega) (by kernel_rfl)
                              have d14 := hd 14 (by omega) (by kernel_rfl)
                              clear hb hd
                              rw [d3]
                              clear d3
                              rcases bs with _ | _
                              · (simp only [cond_false]; rcases J with _ | _; (focus (go_wp2; exact ⟨_, rfl, RowKit.Below.refl _ _, (fun _ h => by cases h), fun h => absurd h (by decide)⟩)); (focus (have e9 : u 9 = _ := d9 rfl rfl; rw [e9]; clear e9; have e14 : u 14 = _ := d14 rfl rfl; rw [e14]; clear e14; go_wp2; exact ⟨_, rfl, RowKit.Below.refl _ _, fun _ _ => (by first | rfl | exact congrArg (Value.int .i64) hwd), fun h => absurd h (by decide)⟩)))
                              · (simp only [cond_true]; (go_wp2; exact ⟨_, rfl, RowKit.Below.refl _ _, (fun h => by cases h), fun h => absurd h (by decide)⟩))
                              done
                          · as_aux_lemma =>
                              intro u A w1 hA hb hd
                              simp only [putAll, dstOf, gtA, gtS, gtZ, Option.bind_some, Option.bind, Act.put, List.setIfInBounds_toArray, List.set_cons_succ, List.set_cons_zero] at hA; subst hA
                              have HB1 := hI9 hb
                              have d3 : u 3 = _ := hd 3 (by omega) (by kernel_rfl)
                              have d5 := hd 5 (by omega) (by kernel_rfl)
                              have d15 := hd 15 (by omega) (by kernel_rfl)
                              clear hb hd
                              rw [d3]
                              clear d3
                              rcases bs with _ | _
                              · (simp only [cond_false]; rcases J with _ | _; (focus (go_wp2; exact ⟨_, rfl, RowKit.Below.refl _ _, (fun _ h => by cases h), fun h => absurd h (by decide)⟩)); (focus (have e5 : u 5 = _ := d5 rfl rfl; rw [e5]; clear e5; have e15 : u 15 = _ := d15 rfl rfl; rw [e15]; clear e15; go_wp2; exact ⟨_, rfl, RowKit.Below.refl _ _, fun _ _ => congrArg Value.bool HP.out.2.2.2.2.1.symm, fun h => absurd h (by decide)⟩)))
                              · (simp only [cond_true]; (go_wp2; exact ⟨_, rfl, RowKit.Below.refl _ _, (fun h => by cases h), fun h => absurd h (by decide)⟩))
                              done
                          · as_aux_lemma =>
                              intro u A w1 hA hb hd
                              simp only [putAll, dstOf, gtA, gtS, gtZ, Option.bind_some, Option.bind, Act.put, List.setIfInBounds_toArray, List.set_cons_succ, List.set_cons_zero] at hA; subst hA
                              have HB1 := hI9 hb
                              have d1 : u 1 = _ := hd 1 (by omega) (by kernel_rfl)
                              have d3 : u 3 = _ := hd 3 (by omega) (by kernel_rfl)
                              have d16 := hd 16 (by omega) (by kernel_rfl)
                              clear hb hd
                              rw [d1, d3]
                              clear d1 d3
                              rcases bs with _ | _
                              · (simp only [cond_false]; rcases J with _ | _; (focus (go_wp2; exact ⟨_, rfl, RowKit.Below.refl _ _, fun _ => rfl, fun h => absurd h (by decide)⟩)); (have e16 : u 16 = _ := d16 rfl rfl; rw [e16]; clear e16; go_wp2; exact ⟨_, rfl, RowKit.Below.refl _ _, fun _ => rfl, fun h => absurd h (by decide)⟩))
                              · (go_wp2; exact ⟨_, rfl, RowKit.Below.refl _ _, (fun h => by cases h), fun h => absurd h (by decide)⟩)
                              done
                          · as_aux_lemma =>
                              intro u A w1 hA hb hd
                              simp only [putAll, dstOf, gtA, gtS, gtZ, Option.bind_some, Option.bind, Act.put, List.setIfInBounds_toArray, List.set_cons_succ, List.set_cons_zero] at hA; subst hA
                              have HB1 := hI9 hb
                              have d1 : u 1 = _ := hd 1 (by omega) (by kernel_rfl)
                              have d17 := hd 17 (by omega) (by kernel_rfl)
                              clear hb hd
                              rw [d1]
                              clear d1
                              rcases bs with _ | _
                              · (have e17 : u 17 = _ := d17 rfl; rw [e17]; clear e17; go_wp2; exact ⟨_, rfl, RowKit.Below.refl _ _, rfl, fun h => absurd h (by decide)⟩)
                              · (go_wp2; exact ⟨_, rfl, RowKit.Below.refl _ _, rfl, fun h => absurd h (by decide)⟩)
                              done
                        case htail5 =>
                          as_aux_lemma =>
                            intro u A w1 hA hb hd hf
                            simp only [putAll, dstOf, gtA, gtS, gtZ, Option.bind_some, Option.bind, Act.put, List.setIfInBounds_toArray, List.set_cons_succ, List.set_cons_zero] at hA; subst hA
                            have e0 : u 0 = _ := hd 0 (by omega)
                            have e1 : u 1 = _ := hd 1 (by omega)
                            have p2 := hd 2 (by omega)
                            have e3 : u 3 = _ := hd 3 (by omega)
                            have p4 := hd 4 (by omega)
                            have p5 := hd 5 (by omega)
                            have p6 := hd 6 (by omega)
                            have p7 := hd 7 (by omega)
                            have p8 := hd 8 (by omega)
                            have p9 := hd 9 (by omega)
                            have p10 := hd 10 (by omega)
                            have p11 := hd 11 (by omega)
                            have p12 := hd 12 (by omega)
                            have p13 := hd 13 (by omega)
                            have p14 := hd 14 (by omega)
                            have p15 := hd 15 (by omega)
                            have p16 := hd 16 (by omega)
                            have p17 := hd 17 (by omega)
                            have e18 : u 18 = _ := hd 18 (by omega)
                            first | rw [e0, e1, e3, e18] | simp only [e0, e1, e3, e18]
                            clear e0 e1 e3 e18
                            clear hd hf
                            have HW4 := hI9 (bthen HW3.out hb)
                            clear hb HW3 HG p2 p4 p5 p6 p7 p8 p9 p10 p11 p12 p13 p14 p15 p16 p17
                            go_wp2_with (fail)
                            go_roundg (n - (k + 1))
                            case measure => omega
                            case rel => exact ⟨k + 1, by rw [HNX.out], by first | rfl | go_num | (congr 1; omega), by omega, Nat.le_refl _, HW4⟩
              obtain rfl : n = k := by omega
              have hnz : ¬ (n : Int) < (n : Int) := by omega
              rw [HIS.out]
              go_wp2_with (fail)
              go_roundg (F.m - (i + 1))
              case measure => omega
              case rel => exact ⟨i + 1, by first | rfl | go_num | (congr 1; omega), by omega, by omega, Nat.le_refl _, HW⟩
          obtain rfl : F.m = i := by omega
          have hnz : ¬ (F.m : Int) < (F.m : Int) := by omega
          have hV := HW.out
          clear HW
          have nHX := hI9 (HX.out.below hV)
          have nHY := hI9 (HY.out.below hV)
          have nHB := hI9 (bthen HB.out hV)
          clear HX HY HB hV
          have HX := nHX
          have HY := nHY
          have HB := nHB
          clear nHX nHY nHB
          go_wp2_with (first | (go_at_call 7; (with_reducible refine (rworks_c _).mono ?_); rintro e w1 ⟨rfl, hb1⟩; have nHX := hI9 (HX.out.below hb1); have nHY := hI9 (HY.out.below hb1); have nHB := hI9 (bthen HB.out hb1); have zz1 := hb1.size; clear HX HY HB hb1; have HX := nHX; have HY := nHY; have HB := nHB; clear nHX nHY nHB))
          go_ret
          exact ⟨rfl, HB.out⟩
end Go.Proofs.YtlabfpjlckdmfaaGreat
