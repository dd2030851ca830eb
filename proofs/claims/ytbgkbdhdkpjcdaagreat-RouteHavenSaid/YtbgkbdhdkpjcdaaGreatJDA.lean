/- Texts joined: JDA. -/
import Derived.Test.YtbgkbdhdkpjcdaaGreatJAT
import Derived.Test.YtbgkbdhdkpjcdaaGreatNbM
set_option linter.all false
namespace Go.Proofs.YtbgkbdhdkpjcdaaGreat
open Go Go.RowKit Go.Proofs
set_option maxRecDepth 100000
set_option maxHeartbeats 8000000
/-- A haven as a program may be given it: any numbers. -/
structure HvI where
  p : Int
  t : Int
  b : Bool
def hvi (h : HavD) : HvI := ⟨h.p, h.t, h.b⟩
def nHi (f : Nat → HvI) : Nat → Nat → Value
  | i, 0 => .int .i64 (f i).p
  | i, 1 => .int .i64 (f i).t
  | i, _ + 2 => .bool (f i).b
theorem nHv_nHi (f : Nat → HavD) : nHv f = nHi (fun i => hvi (f i)) := by
  funext i j
  match j with
  | 0 => rfl
  | 1 => rfl
  | j + 2 => rfl
def eqI (a b : HvI) : Bool := decide (a.p = b.p) && (decide (a.t = b.t) && (a.b == b.b))
theorem eqI_iff {a b : HvI} : eqI a b = true ↔ a = b := by
  obtain ⟨p, t, c⟩ := a
  obtain ⟨q, u, d⟩ := b
  unfold eqI
  simp only [Bool.and_eq_true, decide_eq_true_eq, beq_iff_eq, HvI.mk.injEq]
theorem ixHav_c (A : Option Addr) (n c : Nat) (f : Nat → HvI) (x : HvI) (w : World) (hn : n ≤ 3000) (hA : RecsAt w A n 3 (nHi f)) :
   Calls Tryz.prog 143 #[.slice A n c, .agg #[.int .i64 x.p, .int .i64 x.t, .bool x.b]] w fun e w' => e = .returned (.int .i64 (firstIx (fun i => eqI x (f i)) n)) ∧ RowKit.Below w.heap.size w w' := by
  have H1 := Lib.hid hA
  clear hA
  obtain ⟨xp, xt, xb⟩ := x
  dsimp only
  go_enter Tryz.func143, Tryz.ntmps143
  go_wp2_with (fail)
  have _x := frm1 w #[.int .i64 xp, .int .i64 xt, .bool xb] 47
  have HX := Lib.hid _x.1
  have HB := Lib.hid _x.2.1
  have zW := _x.2.2
  clear _x
  generalize World.alloc w _ = W at *
  go_wp2_with (fail)
  go_loopg [8] n (fun gx v wr => ∃ k : Nat, v = .int .i64 k ∧ k ≤ n ∧ n - k ≤ gx ∧ Hid (RowKit.Below w.heap.size w wr) ∧ Hid (Blk wr w.heap.size 47 #[.int .i64 xp, .int .i64 xt, .bool xb]) ∧ Hid (∀ j, j < k → eqI ⟨xp, xt, xb⟩ (f j) = false))
  case atStart => exact ⟨0, rfl, Nat.zero_le _, Nat.le_refl _, HB, HX, Lib.hid fun j hj => absurd hj (Nat.not_lt_zero _)⟩
  case round =>
    clear HB HX
    obtain ⟨k, rfl, hk, hgx, HB, HX, HP⟩ := hrel
    by_cases hlt : k < n
    · have hltz : (k : Int) < (n : Int) := by omega
      obtain ⟨b1, o1, rfl, hb1, hc1⟩ := H1.out (by omega)
      have p0 : wr.cell? ⟨b1, o1 + k * 3, none⟩ = some (.int .i64 (f k).p) := (HB.out.cell (p := ⟨b1, o1 + k * 3, none⟩) hb1).trans (by have := hc1 k hlt 0 (by omega); rw [Nat.add_zero] at this; exact this)
      have p1 : wr.cell? ⟨b1, o1 + k * 3 + 1, none⟩ = some (.int .i64 (f k).t) := (HB.out.cell (p := ⟨b1, o1 + k * 3 + 1, none⟩) hb1).trans (hc1 k hlt 1 (by omega))
      have p2 : wr.cell? ⟨b1, o1 + k * 3 + 2, none⟩ = some (.bool (f k).b) := (HB.out.cell (p := ⟨b1, o1 + k * 3 + 2, none⟩) hb1).trans (hc1 k hlt 2 (by omega))
      have x0 := HX.out.cell 0
      have x1 := HX.out.cell 1
      have x2 := HX.out.cell 2
      simp only [List.getElem?_toArray, List.getElem?_cons_succ, List.getElem?_cons_zero] at x0 x1 x2
      clear hc1
      cases hq : eqI ⟨xp, xt, xb⟩ (f k)
      case true =>
        have HHit := Lib.hid (firstIx_hit (fun i => eqI ⟨xp, xt, xb⟩ (f i)) n k hlt hq HP.out)
        have he := eqI_iff.1 hq
        rw [← he] at p0 p1 p2
        dsimp only at p0 p1 p2
        clear hq he
        go_wp2
        go_quiet (fail)
        have HB2 := Lib.hid (bdn HB.out nq)
        clear HB HX p0 p1 p2 x0 x1 x2
        generalize wr.drewN nq = wq at *
        go_wp2
        go_ret
        exact ⟨ret_int HHit.out.symm, HB2.out⟩
      have HQ := Lib.hid hq
      have hq2 : (xp == (f k).p) = false ∨ (xp == (f k).p) = true ∧ ((xt == (f k).t) = false ∨ (xt == (f k).t) = true ∧ (xb == (f k).b) = false) := by
        unfold eqI at hq
        dsimp only at hq
        cases h1 : xp == (f k).p
        · exact Or.inl rfl
        · refine Or.inr ⟨rfl, ?_⟩
          cases h2 : xt == (f k).t
          · exact Or.inl rfl
          · refine Or.inr ⟨rfl, ?_⟩
            rw [decide_eq_true (by simpa using h1), decide_eq_true (by simpa using h2)] at hq
            simpa using hq
      clear hq
      generalize (f k).p = yp at *
      generalize (f k).t = yt at *
      generalize (f k).b = yb at *
      rcases hq2 with q | ⟨q, q1 | ⟨q1, q2⟩⟩
      · skip
        go_wp2
        go_quiet (fail)
        have HB2 := Lib.hid (bdn HB.out nq)
        have HX2 := Lib.hid (HX.out.below (bdn (RowKit.Below.refl _ _) nq))
        clear HB HX p0 p1 p2 x0 x1 x2
        generalize wr.drewN nq = wq at *
        go_wp2
        go_roundg (n - (k + 1))
        case measure => omega
        case rel => exact ⟨k + 1, by first | rfl | go_num | (congr 1; omega), by omega, Nat.le_refl _, HB2, HX2, Lib.hid fun j hj => by
          by_cases e : j = k
          · subst e; exact HQ.out
          · exact HP.out j (by omega)⟩
      · skip
        go_wp2
        go_quiet (fail)
        have HB2 := Lib.hid (bdn HB.out nq)
        have HX2 := Lib.hid (HX.out.below (bdn (RowKit.Below.refl _ _) nq))
        clear HB HX p0 p1 p2 x0 x1 x2
        generalize wr.drewN nq = wq at *
        go_wp2
        go_roundg (n - (k + 1))
        case measure => omega
        case rel => exact ⟨k + 1, by first | rfl | go_num | (congr 1; omega), by omega, Nat.le_refl _, HB2, HX2, Lib.hid fun j hj => by
          by_cases e : j = k
          · subst e; exact HQ.out
          · exact HP.out j (by omega)⟩
      · skip
        go_wp2
        go_quiet (fail)
        have HB2 := Lib.hid (bdn HB.out nq)
        have HX2 := Lib.hid (HX.out.below (bdn (RowKit.Below.refl _ _) nq))
        clear HB HX p0 p1 p2 x0 x1 x2
        generalize wr.drewN nq = wq at *
        go_wp2
        go_roundg (n - (k + 1))
        case measure => omega
        case rel => exact ⟨k + 1, by first | rfl | go_num | (congr 1; omega), by omega, Nat.le_refl _, HB2, HX2, Lib.hid fun j hj => by
          by_cases e : j = k
          · subst e; exact HQ.out
          · exact HP.out j (by omega)⟩
    · obtain rfl : n = k := by omega
      go_wp2
      go_ret
      exact ⟨ret_int (firstIx_miss _ n HP.out).symm, HB.out⟩
theorem ctHav_c (A : Option Addr) (n c : Nat) (f : Nat → HvI) (x : HvI) (w : World) (hn : n ≤ 3000) (hA : RecsAt w A n 3 (nHi f)) :
   Calls Tryz.prog 94 #[.slice A n c, .agg #[.int .i64 x.p, .int .i64 x.t, .bool x.b]] w fun e w' => e = .returned (.bool ((List.range n).any fun i => eqI x (f i))) ∧ RowKit.Below w.heap.size w w' := by
  have HI := Lib.hid (fun w1 h => ixHav_c A n c f x w1 hn h)
  have HA := Lib.hid hA
  rw [← firstIx_nonneg (fun i => eqI x (f i)) n]
  generalize firstIx (fun i => eqI x (f i)) n = r at *
  obtain ⟨xp, xt, xb⟩ := x
  dsimp only at HI ⊢
  clear hA
  have tok : True := trivial
  go_enter Tryz.func94, Tryz.ntmps94
  go_wp2_with (fail)
  have _x := frm1 w #[.int .i64 xp, .int .i64 xt, .bool xb] 47
  have HX := Lib.hid _x.1
  have HB := Lib.hid _x.2.1
  have zW := _x.2.2
  clear _x
  generalize World.alloc w _ = W at *
  go_wp2_with (first | (have _t := tok; refine wpl_row rfl 47 _ rfl _ rfl #[.int .i64 xp, .int .i64 xt, .bool xb] 3 HX.out Tryz.rowHav rfl ?_; simp only [Act.put]; clear tok) | (go_at_call 143; (with_reducible refine (HI.out _ (HA.out.below HB.out)).mono ?_); rintro e w1 ⟨rfl, hb1⟩; have nHX := Lib.hid (HX.out.below hb1); have nHB := Lib.hid (bthen HB.out hb1); have zz1 := hb1.size; clear HX HB hb1; have HX := nHX; have HB := nHB; clear nHX nHB))
  go_ret
  exact ⟨rfl, HB.out⟩
end Go.Proofs.YtbgkbdhdkpjcdaaGreat

namespace Go.Proofs.YtbgkbdhdkpjcdaaGreat
open Go Go.RowKit Go.Proofs
set_option maxRecDepth 100000
set_option maxHeartbeats 8000000
/-- Whether a list has a haven. -/
def hasI (l : List HavD) (x : HvI) : Bool := (List.range l.length).any fun i => eqI x (hvi (hvx l i))
/-- The first one of n numbers from i on for which g is false. -/
def prvR (g : Nat → Bool) : Nat → Nat → Option Nat
  | 0, _ => none
  | n + 1, i => if g i = true then prvR g n (i + 1) else some i
def prvV (k T : Nat) : Option Nat → Int × Int
  | some i => ((i : Nat), 52)
  | none => if k = T then (0, 0) else ((min k T : Nat), 52)
def FliD.prvG (F : FliD) (lt tt : Tab) (op : Nat → Int → Bool) (P : Nat) (pf : Nat → HvI) (i : Nat) : Bool := hasI (F.havK lt tt op (F.dep + (i : Int)) false P) (pf i)
/-- What Proves returns. -/
def prvE (NE : Int) (M : MetD) (lw ls lc : Int) (li lb : Bool) (S : Tab) (n : Nat) (F : FliD) (k : Nat) (pf : Nat → HvI) : Int × Int :=
  if NE = 0 then prvV k (F.ticks (lgT S n)) (prvR (F.prvG (lgT S n) (timT S n M.places.toNat) (opM M lw ls lc li lb) M.places.toNat pf) (min k (F.ticks (lgT S n))) 0) else (0, NE)
def prvQ (l : List HavD) (gf : Nat) (v0 vp va vx : Value) (d t i : Int) (b : Bool) : Nat → Value → World → Prop
  | 0, v, _ => v = v0
  | 1, v, _ => v = .pointer (some ⟨gf, 1, none⟩)
  | 2, v, _ => v = .int .i64 d
  | 3, v, _ => v = .int .i64 i
  | 4, v, _ => v = .int .i64 t
  | 5, v, w => SlH w v l
  | 6, v, _ => v = vp
  | 7, v, _ => v = .int .i64 i
  | 8, v, _ => v = va
  | 9, v, _ => v = vx
  | 10, v, _ => v = .bool b
  | _, _, _ => True
theorem prvQ_below {l : List HavD} {gf : Nat} {v0 vp va vx : Value} {d t i : Int} {b : Bool} (k : Nat) (v : Value) (w w' : World) (hb : Below w.heap.size w w') (h : prvQ l gf v0 vp va vx d t i b k v w) : prvQ l gf v0 vp va vx d t i b k v w' := by
  unfold prvQ at *
  split at h <;> first | exact h | exact SlH.below h hb
theorem rProves_c (M : MetD) (vF vS : Value) (lw ls lc : Int) (li lb : Bool) (A : Option Addr) (n c : Nat) (S : Tab) (F : FliD) (vR : Value) (AP : Option Addr) (k cP : Nat) (pf : Nat → HvI) (w : World) (hM : MetAt w vF vS M) (hc1 : n ≤ c) (hc2 : c ≤ 9223372036854775807) (hL : RecsAt w A n 3 (nV S)) (hR : SlI w vR F.m F.R) (hk1 : k ≤ cP) (hk2 : cP ≤ 9223372036854775807) (hPf : RecsAt w AP k 3 (nHi pf)) :
   Calls Tryz.prog 43 #[.agg #[.int .i64 M.places, .int .i64 M.any.a0, .int .i64 M.any.a1, .int .i64 M.any.a2, .int .i64 M.any.a3, .int .i64 M.any.a4, .int .i64 M.any.a5, .bool M.any.i, .bool M.any.s, .int .i64 M.mw, .int .i64 M.ms, .int .i64 M.mc, vF, vS], .agg #[.int .i64 lw, .int .i64 ls, .int .i64 lc, .bool li, .bool lb], .slice A n c, .agg #[vR, .int .i64 F.dep, .int .i64 F.fuel, .int .i64 F.burn, .int .i64 F.res], .slice AP k cP] w fun e w' => e = .returned (.tuple #[.int .i64 (prvE (nfE (netME M lw ls lc S n) M S n F) M lw ls lc li lb S n F k pf).1, .int .i64 (prvE (nfE (netME M lw ls lc S n) M S n F) M lw ls lc li lb S n F k pf).2]) ∧ RowKit.Below w.heap.size w w' := by
  have HM := Lib.hid hM
  have HL := Lib.hid hL
  have HR := Lib.hid hR
  have HPF := Lib.hid hPf
  have HNN := Lib.hid (fun w1 gl h1 hm h2 h3 => newFlightM_c M vF vS gl lw ls lc li lb A n c S F vR w1 h1 hm hc1 hc2 h2 h3)
  have hok := fun h => nfM_ok (M := M) (lw := lw) (ls := ls) (lc := lc) (S := S) (n := n) (F := F) h
  clear hM hL hR hPf
  have tok : True := trivial
  have tok3 : True := trivial
  unfold prvE
  generalize nfE (netME M lw ls lc S n) M S n F = NE at *
  by_cases h0 : NE = 0
  case neg =>
    rw [if_neg h0]
    have hz : (NE != 0) = true := by simpa using h0
    clear h0 hok
    go_enter Tryz.func43, Tryz.ntmps43
    go_wp2_with (fail)
    have _x := frm3 w #[.int .i64 M.places, .int .i64 M.any.a0, .int .i64 M.any.a1, .int .i64 M.any.a2, .int .i64 M.any.a3, .int .i64 M.any.a4, .int .i64 M.any.a5, .bool M.any.i, .bool M.any.s, .int .i64 M.mw, .int .i64 M.ms, .int .i64 M.mc, vF, vS] 29 #[.int .i64 lw, .int .i64 ls, .int .i64 lc, .bool li, .bool lb] 31 #[vR, .int .i64 F.dep, .int .i64 F.fuel, .int .i64 F.burn, .int .i64 F.res] 37
    have HX := Lib.hid _x.1
    have HI := Lib.hid _x.2.1
    have HF := Lib.hid _x.2.2.1
    have HB := Lib.hid _x.2.2.2.1
    have zW := _x.2.2.2.2
    clear _x
    generalize World.alloc (World.alloc (World.alloc w _) _) _ = W at *
    go_wp2_with (first | (have _t := tok; refine wpl_row rfl 29 (.tmp 5) rfl _ rfl #[.int .i64 M.places, .int .i64 M.any.a0, .int .i64 M.any.a1, .int .i64 M.any.a2, .int .i64 M.any.a3, .int .i64 M.any.a4, .int .i64 M.any.a5, .bool M.any.i, .bool M.any.s, .int .i64 M.mw, .int .i64 M.ms, .int .i64 M.mc, vF, vS] 14 HX.out Tryz.rowMet rfl ?_; simp only [Act.put]; clear tok) | (have _t := tok3; refine wpl_row rfl 37 (.tmp 8) rfl _ rfl #[vR, .int .i64 F.dep, .int .i64 F.fuel, .int .i64 F.burn, .int .i64 F.res] 5 HF.out Tryz.rowFli rfl ?_; simp only [Act.put]; clear tok3) | (go_at_call 86; (with_reducible refine (HNN.out _ _ (HM.out.below HB.out) HI.out (HL.out.below HB.out) (HR.out.below HB.out)).mono ?_); rintro e w1 ⟨v, rfl, hb1⟩; (obtain ⟨hb1, -⟩ := hb1); have nHX := Lib.hid (HX.out.below hb1); have nHI := Lib.hid (HI.out.below hb1); have nHF := Lib.hid (HF.out.below hb1); have nHB := Lib.hid (bthen HB.out hb1); have zz1 := hb1.size; clear HX HI HF HB hb1; have HX := nHX; have HI := nHI; have HF := nHF; have HB := nHB; clear nHX nHI nHF nHB))
    go_ret2
    exact ⟨rfl, HB.out⟩
  subst h0
  rw [if_pos rfl]
  obtain ⟨f3, f4, f5, f6, f7⟩ := hok rfl
  have hti := timT_in f6 f4.2
  have HHV := Lib.hid (fun t v vN w1 h hm h0 h1 => fhavens_c M vF vS v vN M.places.toNat (lgT S n) (timT S n M.places.toNat) F vR lw ls lc li lb t false w1 h hm f3 f4.2 f7 f5 hti h0 h1)
  have hnu := FliD.nums_iff.1 f7.1
  have HAR := Lib.hid (fun v vN w1 h => arrival_c M vF vS v vN M.places.toNat (lgT S n) (timT S n M.places.toNat) F vR lw ls lc li lb w1 h hnu.1.1)
  have hlen := fun t => FliD.havK_len (F := F) (lt := lgT S n) (tt := timT S n M.places.toNat) (op := opM M lw ls lc li lb) (t := t) (dry := false) M.places.toNat
  have hdl := FliD.dep_le f7
  have hend := f7.2.2
  have hd0 := hnu.2.1
  have hp8 := f4.2
  obtain ⟨ar, har⟩ : ∃ ar, ar = F.at_ (lgT S n) (F.m - 1) := ⟨_, rfl⟩
  have har2 : F.arr (lgT S n) = ar := har.symm
  obtain ⟨T, hT⟩ : ∃ T, T = F.ticks (lgT S n) := ⟨_, rfl⟩
  have hTz : (T : Int) = ar - F.dep + 1 := by rw [hT]; unfold FliD.ticks; omega
  rw [← hT]
  rw [← har] at HAR HHV hend
  obtain ⟨q, hq⟩ : ∃ q, q = min k T := ⟨_, rfl⟩
  rw [← hq]
  obtain ⟨g, hg⟩ : ∃ g, g = F.prvG (lgT S n) (timT S n M.places.toNat) (opM M lw ls lc li lb) M.places.toNat pf := ⟨_, rfl⟩
  rw [← hg]
  have HG := Lib.hid (fun i => show g i = hasI (F.havK (lgT S n) (timT S n M.places.toNat) (opM M lw ls lc li lb) (F.dep + (i : Int)) false M.places.toNat) (pf i) by rw [hg]; rfl)
  obtain ⟨RES, hRES⟩ : ∃ R, R = prvR g q 0 := ⟨_, rfl⟩
  rw [← hRES]
  have HN0 := Lib.hid (show prvR g (q - 0) 0 = RES by rw [hRES, Nat.sub_zero])
  have HLEN := Lib.hid hlen
  have hT3 : T ≤ 3000 := by omega
  have hqk : q ≤ k := by omega
  have hqT : q ≤ T := by omega
  have HQ := Lib.hid hq
  have hmn : min (k : Int) (T : Int) = (q : Int) := by omega
  have hw1 : IntKind.i64.wrap (ar - F.dep) = ar - F.dep := by rw [IntKind.wrap_i64]; omega
  have hw2 : IntKind.i64.wrap (ar - F.dep + 1) = (T : Int) := by rw [IntKind.wrap_i64]; omega
  clear hok hT har har2 hdl hRES hg hlen hq hnu f3 f4 f5 f6 f7 hti
  go_enter Tryz.func43, Tryz.ntmps43
  go_wp2_with (fail)
  have _x := frm3 w #[.int .i64 M.places, .int .i64 M.any.a0, .int .i64 M.any.a1, .int .i64 M.any.a2, .int .i64 M.any.a3, .int .i64 M.any.a4, .int .i64 M.any.a5, .bool M.any.i, .bool M.any.s, .int .i64 M.mw, .int .i64 M.ms, .int .i64 M.mc, vF, vS] 29 #[.int .i64 lw, .int .i64 ls, .int .i64 lc, .bool li, .bool lb] 31 #[vR, .int .i64 F.dep, .int .i64 F.fuel, .int .i64 F.burn, .int .i64 F.res] 37
  have HX := Lib.hid _x.1
  have HI := Lib.hid _x.2.1
  have HF := Lib.hid _x.2.2.1
  have HB := Lib.hid _x.2.2.2.1
  have zW := _x.2.2.2.2
  clear _x
  generalize World.alloc (World.alloc (World.alloc w _) _) _ = W at *
  go_wp2_with (first | (have _t := tok; refine wpl_row rfl 29 (.tmp 5) rfl _ rfl #[.int .i64 M.places, .int .i64 M.any.a0, .int .i64 M.any.a1, .int .i64 M.any.a2, .int .i64 M.any.a3, .int .i64 M.any.a4, .int .i64 M.any.a5, .bool M.any.i, .bool M.any.s, .int .i64 M.mw, .int .i64 M.ms, .int .i64 M.mc, vF, vS] 14 HX.out Tryz.rowMet rfl ?_; simp only [Act.put]; clear tok) | (have _t := tok3; refine wpl_row rfl 37 (.tmp 8) rfl _ rfl #[vR, .int .i64 F.dep, .int .i64 F.fuel, .int .i64 F.burn, .int .i64 F.res] 5 HF.out Tryz.rowFli rfl ?_; simp only [Act.put]; clear tok3))
  refine (HNN.out _ _ (HM.out.below HB.out) HI.out (HL.out.below HB.out) (HR.out.below HB.out)).mono ?_
  rintro e w2 ⟨v, rfl, hb2, hv⟩
  obtain ⟨vN, hfa⟩ := hv rfl
  have HFA := Lib.hid hfa
  obtain ⟨gx, vA, rfl, -⟩ := hfa
  have nHX := Lib.hid (HX.out.below hb2)
  have nHI := Lib.hid (HI.out.below hb2)
  have nHF := Lib.hid (HF.out.below hb2)
  have nHB := Lib.hid (bthen HB.out hb2)
  clear HX HI HF HB hb2
  have HX := nHX
  have HI := nHI
  have HF := nHF
  have HB := nHB
  clear nHX nHI nHF nHB
  clear HNN HX HI hv
  go_wp2_with (fail)
  have x1 : ∀ r : After w2, r.w.cell? ⟨w.heap.size + 1 + 1, 1, none⟩ = some (.int .i64 F.dep) := fun r => (HF.out.below r.below).cell 1
  have HA2 := Lib.hid (fun r : After w2 => HAR.out _ vN r.w (HFA.out.below r.below))
  refine wp_region_aftert 6 (by kernel_rfl) (by kernel_rfl) ?_
  simp only [List.take_succ_cons, List.take_zero, List.drop_succ_cons, List.drop_zero]
  go_big_quiet_step (fail)
  go_big_quiet_step (first | (go_at_call 93; (with_reducible refine qafter (HA2.out _))))
  iterate 4 (go_big_quiet_step (fail))
  refine wpQuiet_nil ?_
  rintro w3 ⟨r3, hr3⟩
  have hb3 : RowKit.Below w2.heap.size w2 w3 := by rw [hr3]; exact r3.below
  clear hr3 r3 x1 HA2 HAR
  have nHF := Lib.hid (HF.out.below hb3)
  have nHFA := Lib.hid (HFA.out.below hb3)
  have nHB := Lib.hid (bthen HB.out hb3)
  clear HF HFA HB hb3
  have HF := nHF
  have HFA := nHFA
  have HB := nHB
  clear nHF nHFA nHB
  go_wp2_with (fail)
  have HW0 := Lib.hid (RowKit.Below.refl w3.heap.size w3)
  have HMN := Lib.hid (show min (k : Int) (ar - F.dep + 1) = (q : Int) by omega)
  go_loopg [35] q (fun gy iv wr => ∃ i : Nat, iv = .int .i64 i ∧ i ≤ q ∧ q - i ≤ gy ∧ Hid (prvR g (q - i) i = RES) ∧ Hid (RowKit.Below w3.heap.size w3 wr))
  case atStart => exact ⟨0, rfl, Nat.zero_le _, Nat.sub_le _ _, HN0, HW0⟩
  case round =>
    clear HN0 HW0
    obtain ⟨i, rfl, hi, hgy, HN, HW⟩ := hrel
    by_cases hlt : i < q
    case pos =>
      have hN := HN.out
      obtain ⟨d, hd⟩ : ∃ d, q - i = d + 1 := ⟨q - i - 1, by omega⟩
      rw [hd] at hN
      unfold prvR at hN
      rw [HG.out i] at hN
      have hle := HLEN.out (F.dep + (i : Int))
      have hh := fun w1 h hm => HHV.out (F.dep + (i : Int)) (.pointer (some ⟨gx, 0, none⟩)) vN w1 h hm (by omega) (by omega)
      generalize F.havK (lgT S n) (timT S n M.places.toNat) (opM M lw ls lc li lb) (F.dep + (i : Int)) false M.places.toNat = l at *
      have HH := Lib.hid hh
      clear HN hh
      obtain ⟨bP, oP, rfl, hbP, hcP⟩ := HPF.out (by omega)
      have q0 : w.cell? ⟨bP, oP + i * 3, none⟩ = some (.int .i64 (pf i).p) := hcP i (by omega) 0 (by omega)
      have q1 : w.cell? ⟨bP, oP + i * 3 + 1, none⟩ = some (.int .i64 (pf i).t) := hcP i (by omega) 1 (by omega)
      have q2 : w.cell? ⟨bP, oP + i * 3 + 2, none⟩ = some (.bool (pf i).b) := hcP i (by omega) 2 (by omega)
      rcases hx : pf i with ⟨xp, xt, xb⟩
      rw [hx] at hN q0 q1 q2
      dsimp only at q0 q1 q2
      have HC := Lib.hid (And.intro q0 (And.intro q1 q2))
      obtain ⟨b, hb⟩ : ∃ b, b = hasI l ⟨xp, xt, xb⟩ := ⟨_, rfl⟩
      rw [← hb] at hN
      have HN := Lib.hid hN
      have HCT : Hid (∀ A' c' w1, RecsAt w1 A' l.length 3 (nHv (hvx l)) → Calls Tryz.prog 94 #[.slice A' l.length c', .agg #[.int .i64 xp, .int .i64 xt, .bool xb]] w1 fun e w' => e = .returned (.bool b) ∧ RowKit.Below w1.heap.size w1 w') := by
        refine Lib.hid fun A' c' w1 r => ?_
        rw [hb]
        exact ctHav_c A' l.length c' (fun i => hvi (hvx l i)) ⟨xp, xt, xb⟩ w1 (by omega) (by rw [← nHv_nHi]; exact r)
      have hwi : IntKind.i64.wrap (F.dep + (i : Int)) = F.dep + (i : Int) := by rw [IntKind.wrap_i64]; omega
      have hik : (i : Int) < (k : Int) := by omega
      have hiq : (i : Int) < (q : Int) := by omega
      clear hN q0 q1 q2 hx hcP hb
      go_wp2_with (fail)
      clear hiq hmn
      have hsl : ((i : Int) < min (k : Int) (ar - F.dep + 1)) = True := eq_true (by omega)
      simp only [hsl, decide_true]
      clear hsl
      refine wp_region_spec 11 (prvQ l (w.heap.size + 1 + 1) (.pointer (some ⟨gx, 0, none⟩)) (.slice (some ⟨bP, oP, none⟩) k cP) (.pointer (some ⟨bP, oP + i * 3, none⟩)) (.agg #[.int .i64 xp, .int .i64 xt, .bool xb]) F.dep (F.dep + (i : Int)) i b) (fun i => false) (by kernel_rfl) (by kernel_rfl) prvQ_below ?hop1 ?htail1
      case hop1 =>
        simp only [List.take_succ_cons, List.take_zero, allOps]
        refine ⟨?_, ?_, ?_, ?_, ?_, ?_, ?_, ?_, ?_, ?_, ?_, trivial⟩
        all_goals intro u A w1 hA hb hd
        all_goals simp only [putAll, dstOf, List.getElem?_toArray, List.getElem?_cons_succ, List.getElem?_cons_zero, Option.bind_some, Option.bind, Act.put, List.setIfInBounds_toArray, List.set_cons_succ, List.set_cons_zero] at hA; subst hA
        all_goals have HB1 := Lib.hid hb
        · clear hb hd
          go_wp2
          exact ⟨_, rfl, Below.refl _ _, rfl, fun h => absurd h (by decide)⟩
        · clear hb hd
          go_wp2
          exact ⟨_, rfl, Below.refl _ _, rfl, fun h => absurd h (by decide)⟩
        · have d1 : u 1 = _ := hd 1 (by omega) (by kernel_rfl)
          clear hb hd
          rw [d1]
          clear d1
          have ny := (HF.out.below (bthen HW.out HB1.out)).cell 1
          simp only [List.getElem?_toArray, List.getElem?_cons_succ, List.getElem?_cons_zero] at ny
          go_wp2
          exact ⟨_, rfl, Below.refl _ _, rfl, fun h => absurd h (by decide)⟩
        · clear hb hd
          go_wp2
          exact ⟨_, rfl, Below.refl _ _, rfl, fun h => absurd h (by decide)⟩
        · have d2 : u 2 = _ := hd 2 (by omega) (by kernel_rfl)
          have d3 : u 3 = _ := hd 3 (by omega) (by kernel_rfl)
          clear hb hd
          rw [d2, d3]
          clear d2 d3
          go_wp2
          exact ⟨_, rfl, Below.refl _ _, rfl, fun h => absurd h (by decide)⟩
        · have d0 : u 0 = _ := hd 0 (by omega) (by kernel_rfl)
          have d4 : u 4 = _ := hd 4 (by omega) (by kernel_rfl)
          clear hb hd
          rw [d0, d4]
          clear d0 d4
          go_wp2_with (go_at_call 69; (with_reducible refine (HH.out _ (HFA.out.below (bthen HW.out HB1.out)) (HM.out.below (bthen (bthen HB.out HW.out) HB1.out))).mono ?_); rintro e w2 ⟨vO, rfl, hb2⟩)
          obtain ⟨hb3, hs⟩ := hb2
          exact ⟨_, rfl, hb3, hs, fun h => absurd h (by decide)⟩
        · clear hb hd
          go_wp2
          exact ⟨_, rfl, Below.refl _ _, rfl, fun h => absurd h (by decide)⟩
        · clear hb hd
          go_wp2
          exact ⟨_, rfl, Below.refl _ _, rfl, fun h => absurd h (by decide)⟩
        · have d6 : u 6 = _ := hd 6 (by omega) (by kernel_rfl)
          have d7 : u 7 = _ := hd 7 (by omega) (by kernel_rfl)
          clear hb hd
          rw [d6, d7]
          clear d6 d7
          go_wp2
          exact ⟨_, rfl, Below.refl _ _, rfl, fun h => absurd h (by decide)⟩
        · have d8 : u 8 = _ := hd 8 (by omega) (by kernel_rfl)
          clear hb hd
          rw [d8]
          clear d8
          have p0 : w1.cell? ⟨bP, oP + i * 3, none⟩ = some (.int .i64 xp) := ((bthen (bthen HB.out HW.out) HB1.out).cell (p := ⟨bP, oP + i * 3, none⟩) hbP).trans HC.out.1
          have p1 : w1.cell? ⟨bP, oP + i * 3 + 1, none⟩ = some (.int .i64 xt) := ((bthen (bthen HB.out HW.out) HB1.out).cell (p := ⟨bP, oP + i * 3 + 1, none⟩) hbP).trans HC.out.2.1
          have p2 : w1.cell? ⟨bP, oP + i * 3 + 2, none⟩ = some (.bool xb) := ((bthen (bthen HB.out HW.out) HB1.out).cell (p := ⟨bP, oP + i * 3 + 2, none⟩) hbP).trans HC.out.2.2
          go_wp2
          exact ⟨_, rfl, Below.refl _ _, rfl, fun h => absurd h (by decide)⟩
        · have d5 := hd 5 (by omega) (by kernel_rfl)
          have d9 : u 9 = _ := hd 9 (by omega) (by kernel_rfl)
          clear hb hd
          rw [d9]
          clear d9
          obtain ⟨A', c', e5, -, -, r5⟩ := d5
          rw [e5]
          clear e5
          go_wp2_with (go_at_call 94; (with_reducible refine (HCT.out _ _ _ r5).mono ?_); rintro e w2 ⟨rfl, hb2⟩)
          exact ⟨_, rfl, hb2, rfl, fun h => absurd h (by decide)⟩
      case htail1 =>
        intro u A w1 hA hb hd hf
        simp only [putAll, dstOf, List.getElem?_toArray, List.getElem?_cons_succ, List.getElem?_cons_zero, Option.bind_some, Option.bind, Act.put, List.setIfInBounds_toArray, List.set_cons_succ, List.set_cons_zero] at hA; subst hA
        have e0 : u 0 = _ := hd 0 (by omega)
        have e1 : u 1 = _ := hd 1 (by omega)
        have e2 : u 2 = _ := hd 2 (by omega)
        have e3 : u 3 = _ := hd 3 (by omega)
        have e4 : u 4 = _ := hd 4 (by omega)
        have p5 := hd 5 (by omega)
        have e6 : u 6 = _ := hd 6 (by omega)
        have e7 : u 7 = _ := hd 7 (by omega)
        have e8 : u 8 = _ := hd 8 (by omega)
        have e9 : u 9 = _ := hd 9 (by omega)
        have e10 : u 10 = _ := hd 10 (by omega)
        first | rw [e0, e1, e2, e3, e4, e6, e7, e8, e9, e10] | simp only [e0, e1, e2, e3, e4, e6, e7, e8, e9, e10]
        clear e0 e1 e2 e3 e4 e6 e7 e8 e9 e10
        clear hd hf
        have nW := Lib.hid (bthen HW.out hb)
        clear hb p5
        cases b
        · have hres : some i = RES := HN.out
          subst hres
          go_wp2_with (fail)
          go_ret2
          exact ⟨rfl, bthen HB.out nW.out⟩
        · have HN2 := Lib.hid (show prvR g d (i + 1) = RES from HN.out)
          go_wp2_with (fail)
          go_roundg (q - (i + 1))
          case measure => omega
          case rel => exact ⟨i + 1, by first | rfl | go_num | (congr 1; omega), by omega, Nat.le_refl _, Lib.hid (by rw [show q - (i + 1) = d by omega]; exact HN2.out), nW⟩
    obtain rfl : q = i := by omega
    have hN := HN.out
    rw [Nat.sub_self] at hN
    unfold prvR at hN
    subst hN
    have hq2 := HQ.out
    by_cases hkt : k = T
    · have hne : ((k : Int) != (T : Int)) = false := by simp; omega
      have HV := Lib.hid (show prvV k T none = (0, 0) from if_pos hkt)
      clear hkt hq2
      go_wp2_with (fail)
      go_ret2
      exact ⟨by rw [HV.out]; rfl, bthen HB.out HW.out⟩
    · have hne : ((k : Int) != (T : Int)) = true := by simp; omega
      have HV := Lib.hid (show prvV k T none = (((q : Nat) : Int), 52) by unfold prvV; rw [if_neg hkt, ← hq2])
      clear hkt hq2
      go_wp2_with (fail)
      go_ret2
      exact ⟨by rw [HV.out]; show Ending.returned (.tuple #[.int .i64 (min (k : Int) (ar - F.dep + 1)), .int .i64 52]) = _; rw [HMN.out], bthen HB.out HW.out⟩
end Go.Proofs.YtbgkbdhdkpjcdaaGreat
