/- The law WeatherFirsts: First returns what the document specifies; the place is open in all of these ticks, and not in the one before. -/
import Derived.Test.YtfcjblnebaemgaaRwJ
import Derived.Test.YtfcjblnebaemgaaWfD
set_option linter.all false
namespace Go.Proofs.Ytfcjblnebaemgaa
open Go Go.RowKit Go.Proofs
set_option maxRecDepth 100000
set_option maxHeartbeats 8000000
theorem atE_at {M : MetD} {p f u : Int} (h : atE M p f = 0) (h0 : 0 ≤ u) (h1 : u ≤ 2000) : atE M p u = 0 := by
  unfold atE at *
  cases hb : M.bad
  · rw [hb, if_neg (by decide)] at h
    rw [if_neg (by decide)]
    cases b1 : inB p 0 (M.places - 1)
    · rw [b1] at h; cases h
    · rw [inB_iff.2 (show 0 ≤ u ∧ u ≤ 2000 from ⟨h0, h1⟩)]; rfl
  · rw [hb] at h; cases h
theorem firR_ok (op : Int → Bool) (stay f : Int) (hs : 0 ≤ stay) : ∀ (k : Nat) (t c a : Int), 0 ≤ c → c ≤ stay → f ≤ t - c → (∀ u, t - c ≤ u → u < t → op u = true) → (t - c = f ∨ op (t - c - 1) = false) → firR op stay k t c = (a, 0) →
    f ≤ a ∧ a + stay < t + k ∧ (∀ u, a ≤ u → u ≤ a + stay → op u = true) ∧ (a = f ∨ op (a - 1) = false)
  | 0, t, c, a, _, _, _, _, _, h => by simp [firR] at h
  | k + 1, t, c, a, h0, h1, h2, h3, h4, h => by
    unfold firR at h
    cases ho : op t
    · rw [ho] at h
      simp only [Bool.false_eq_true, if_false] at h
      rw [if_neg (by omega)] at h
      obtain ⟨r1, r2, r3⟩ := firR_ok op stay f hs k (t + 1) 0 a (by omega) hs (by omega) (fun u a b => by omega) (Or.inr (by rw [show t + 1 - 0 - 1 = t by omega]; exact ho)) h
      exact ⟨r1, by omega, r3⟩
    · rw [ho] at h
      simp only [if_true] at h
      by_cases hg : stay < c + 1
      · rw [if_pos hg] at h
        simp only [Prod.mk.injEq, and_true] at h
        obtain rfl : stay = c := by omega
        subst h
        refine ⟨h2, by omega, fun u a b => ?_, h4⟩
        by_cases e : u = t
        · rw [e]; exact ho
        · exact h3 u a (by omega)
      · rw [if_neg hg] at h
        obtain ⟨r1, r2, r3⟩ := firR_ok op stay f hs k (t + 1) (c + 1) a (by omega) (by omega) (by omega) (fun u a b => by
          by_cases e : u = t
          · rw [e]; exact ho
          · exact h3 u (by omega) (by omega)) (by rw [show t + 1 - (c + 1) = t - c by omega]; exact h4) h
        exact ⟨r1, by omega, r3⟩
theorem firsts_law {M : MetD} {lw ls lc : Int} {li lt : Bool} {p f stay a : Int} (h : firV M lw ls lc li lt p f stay = (a, 0)) :
    0 ≤ stay ∧ stay ≤ 2000 ∧ 0 ≤ f ∧ f ≤ a ∧ a + stay ≤ 2000 ∧ (∀ u, a ≤ u → u ≤ a + stay → opE M lw ls lc p u = 0 ∧ openV M lw ls lc li lt p u = true) ∧ (a = f ∨ opE M lw ls lc p (a - 1) = 0 ∧ openV M lw ls lc li lt p (a - 1) = false) := by
  unfold firV at h
  by_cases he : opE M lw ls lc p f = 0
  · rw [if_pos he] at h
    obtain ⟨k1, k2⟩ := opE_split he
    obtain ⟨-, f0, f1⟩ := opE_ok he
    cases hs : inB stay 0 2000
    · rw [hs] at h; simp at h
    · rw [hs, if_pos rfl] at h
      obtain ⟨s0, s1⟩ := inB_iff.1 hs
      obtain ⟨r1, r2, r3, r4⟩ := firR_ok _ stay f s0 _ f 0 a (by omega) s0 (by omega) (fun u a b => by omega) (Or.inl (by omega)) h
      have ho : ∀ u, 0 ≤ u → u ≤ 2000 → opE M lw ls lc p u = 0 := fun u a b => opE_mk k1 (atE_at k2 a b)
      refine ⟨s0, s1, f0, r1, by omega, fun u q1 q2 => ⟨ho u (by omega) (by omega), ?_⟩, ?_⟩
      · unfold openV; rw [ho u (by omega) (by omega), r3 u q1 q2]; rfl
      · by_cases ea : a = f
        · exact Or.inl ea
        · rcases r4 with r4 | r4
          · exact Or.inl r4
          · have hu := ho (a - 1) (by omega) (by omega)
            refine Or.inr ⟨hu, ?_⟩
            unfold openV; rw [hu, r4]; rfl
  · rw [if_neg he] at h
    simp only [Prod.mk.injEq] at h
    exact absurd h.2 he
/-- What the loop keeps. -/
structure FsK (M : MetD) (A : Option Addr) (cF : Nat) (A2 : Option Addr) (cS : Nat) (lw ls lc : Int) (li lt : Bool) (p f stay : Int) (gq : Nat) (w wr : World) : Prop where
  b : RowKit.Below w.heap.size w wr
  l : Blk wr (w.heap.size + 1) 31 #[.int .i64 lw, .int .i64 ls, .int .i64 lc, .bool li, .bool lt]
  p : Blk wr (w.heap.size + 1 + 1) 33 #[.int .i64 p, .int .i64 f, .int .i64 stay]
  q : Blk wr gq 29 #[.int .i64 M.places, .int .i64 M.any.a0, .int .i64 M.any.a1, .int .i64 M.any.a2, .int .i64 M.any.a3, .int .i64 M.any.a4, .int .i64 M.any.a5, .bool M.any.i, .bool M.any.s, .int .i64 M.mw, .int .i64 M.ms, .int .i64 M.mc, .slice A M.n cF, .slice A2 M.m cS]
  a : MetAt wr (.slice A M.n cF) (.slice A2 M.m cS) M
theorem FsK.grow {M : MetD} {A : Option Addr} {cF : Nat} {A2 : Option Addr} {cS : Nat} {lw ls lc : Int} {li lt : Bool} {p f stay : Int} {gq : Nat} {w wr w2 : World} (h : FsK M A cF A2 cS lw ls lc li lt p f stay gq w wr) (hb : RowKit.Below wr.heap.size wr w2) : FsK M A cF A2 cS lw ls lc li lt p f stay gq w w2 :=
  ⟨bthen h.b hb, h.l.below hb, h.p.below hb, h.q.below hb, h.a.below hb⟩
theorem WeatherFirsts_c (M : MetD) (vF vS : Value) (lw ls lc : Int) (li lt : Bool) (p f stay : Int) (w : World) (hA : MetAt w vF vS M) :
   Calls Try.prog 3 #[.agg #[.int .i64 M.places, .int .i64 M.any.a0, .int .i64 M.any.a1, .int .i64 M.any.a2, .int .i64 M.any.a3, .int .i64 M.any.a4, .int .i64 M.any.a5, .bool M.any.i, .bool M.any.s, .int .i64 M.mw, .int .i64 M.ms, .int .i64 M.mc, vF, vS], .agg #[.int .i64 lw, .int .i64 ls, .int .i64 lc, .bool li, .bool lt], .agg #[.int .i64 p, .int .i64 f, .int .i64 stay]] w fun e w' => e = .returned (.bool true) ∧ RowKit.Below w.heap.size w w' := by
  have HA := Lib.hid hA
  have HFR := Lib.hid (fun w1 h => wFar_c M vF vS w1 h)
  have HOW := Lib.hid (fun w1 h hn => wown2_c M vF vS w1 h hn)
  have HOP := Lib.hid (fun w1 vF vS t h => wOpen_c M vF vS lw ls lc li lt p t w1 h)
  have hfi := fun w1 vF vS h => wFirst_c M vF vS lw ls lc li lt p f stay w1 h
  have hrf := fun w1 h => rw_First_c M vF vS lw ls lc li lt p f stay w1 h
  have hlaw := fun a h => firsts_law (M := M) (lw := lw) (ls := ls) (lc := lc) (li := li) (lt := lt) (p := p) (f := f) (stay := stay) (a := a) h
  rcases hv : firV M lw ls lc li lt p f stay with ⟨a, E⟩
  rw [hv] at hfi hrf hlaw
  dsimp only at hfi hrf
  have HFI := Lib.hid hfi
  have HRF := Lib.hid hrf
  have HLW := Lib.hid hlaw
  clear hA hfi hrf hlaw hv
  cases hf : M.far
  · rw [hf] at HFR
    have HFF := Lib.hid hf
    clear hf
    go_enter Try.func3, Try.ntmps3
    go_wp2_with (first | (refine wpl_row rfl 29 _ rfl _ rfl #[.int .i64 M.places, .int .i64 M.any.a0, .int .i64 M.any.a1, .int .i64 M.any.a2, .int .i64 M.any.a3, .int .i64 M.any.a4, .int .i64 M.any.a5, .bool M.any.i, .bool M.any.s, .int .i64 M.mw, .int .i64 M.ms, .int .i64 M.mc, vF, vS] 14 ?_ Try.rowMet rfl ?_; (focus exact (by repeat (first | (refine Blk.newAt _ _ _ ?_; first | rfl | (simp; done)) | refine Blk.alloc ?_ _))); simp only [Act.put]))
    have bHX : Blk (((w.alloc (.cells #[.int .i64 M.places, .int .i64 M.any.a0, .int .i64 M.any.a1, .int .i64 M.any.a2, .int .i64 M.any.a3, .int .i64 M.any.a4, .int .i64 M.any.a5, .bool M.any.i, .bool M.any.s, .int .i64 M.mw, .int .i64 M.ms, .int .i64 M.mc, vF, vS] 29)).alloc (.cells #[.int .i64 lw, .int .i64 ls, .int .i64 lc, .bool li, .bool lt] 31)).alloc (.cells #[.int .i64 p, .int .i64 f, .int .i64 stay] 33)) (w.heap.size) 29 #[.int .i64 M.places, .int .i64 M.any.a0, .int .i64 M.any.a1, .int .i64 M.any.a2, .int .i64 M.any.a3, .int .i64 M.any.a4, .int .i64 M.any.a5, .bool M.any.i, .bool M.any.s, .int .i64 M.mw, .int .i64 M.ms, .int .i64 M.mc, vF, vS] := (by repeat (first | (refine Blk.newAt _ _ _ ?_; first | rfl | (simp; done)) | refine Blk.alloc ?_ _))
    have bHL : Blk (((w.alloc (.cells #[.int .i64 M.places, .int .i64 M.any.a0, .int .i64 M.any.a1, .int .i64 M.any.a2, .int .i64 M.any.a3, .int .i64 M.any.a4, .int .i64 M.any.a5, .bool M.any.i, .bool M.any.s, .int .i64 M.mw, .int .i64 M.ms, .int .i64 M.mc, vF, vS] 29)).alloc (.cells #[.int .i64 lw, .int .i64 ls, .int .i64 lc, .bool li, .bool lt] 31)).alloc (.cells #[.int .i64 p, .int .i64 f, .int .i64 stay] 33)) (w.heap.size + 1) 31 #[.int .i64 lw, .int .i64 ls, .int .i64 lc, .bool li, .bool lt] := (by repeat (first | (refine Blk.newAt _ _ _ ?_; first | rfl | (simp; done)) | refine Blk.alloc ?_ _))
    have bHP : Blk (((w.alloc (.cells #[.int .i64 M.places, .int .i64 M.any.a0, .int .i64 M.any.a1, .int .i64 M.any.a2, .int .i64 M.any.a3, .int .i64 M.any.a4, .int .i64 M.any.a5, .bool M.any.i, .bool M.any.s, .int .i64 M.mw, .int .i64 M.ms, .int .i64 M.mc, vF, vS] 29)).alloc (.cells #[.int .i64 lw, .int .i64 ls, .int .i64 lc, .bool li, .bool lt] 31)).alloc (.cells #[.int .i64 p, .int .i64 f, .int .i64 stay] 33)) (w.heap.size + 1 + 1) 33 #[.int .i64 p, .int .i64 f, .int .i64 stay] := (by repeat (first | (refine Blk.newAt _ _ _ ?_; first | rfl | (simp; done)) | refine Blk.alloc ?_ _))
    have bHB : Below w.heap.size w (((w.alloc (.cells #[.int .i64 M.places, .int .i64 M.any.a0, .int .i64 M.any.a1, .int .i64 M.any.a2, .int .i64 M.any.a3, .int .i64 M.any.a4, .int .i64 M.any.a5, .bool M.any.i, .bool M.any.s, .int .i64 M.mw, .int .i64 M.ms, .int .i64 M.mc, vF, vS] 29)).alloc (.cells #[.int .i64 lw, .int .i64 ls, .int .i64 lc, .bool li, .bool lt] 31)).alloc (.cells #[.int .i64 p, .int .i64 f, .int .i64 stay] 33)) := (by repeat' (first | exact Below.refl _ _ | assumption | refine Below.drew ?_ | refine bdn ?_ _ | refine bal ?_ _ | refine Below.setCell ?_ (by first | (simp; done) | omega | (simp; omega)) _))
    generalize (((w.alloc (.cells #[.int .i64 M.places, .int .i64 M.any.a0, .int .i64 M.any.a1, .int .i64 M.any.a2, .int .i64 M.any.a3, .int .i64 M.any.a4, .int .i64 M.any.a5, .bool M.any.i, .bool M.any.s, .int .i64 M.mw, .int .i64 M.ms, .int .i64 M.mc, vF, vS] 29)).alloc (.cells #[.int .i64 lw, .int .i64 ls, .int .i64 lc, .bool li, .bool lt] 31)).alloc (.cells #[.int .i64 p, .int .i64 f, .int .i64 stay] 33)) = W at *
    have zW := bHP.lt
    have HX := Lib.hid bHX
    have HL := Lib.hid bHL
    have HP := Lib.hid bHP
    have HB := Lib.hid bHB
    clear bHX bHL bHP bHB
    go_wp2_with (first | (refine wpl_row rfl 29 _ rfl _ rfl #[.int .i64 M.places, .int .i64 M.any.a0, .int .i64 M.any.a1, .int .i64 M.any.a2, .int .i64 M.any.a3, .int .i64 M.any.a4, .int .i64 M.any.a5, .bool M.any.i, .bool M.any.s, .int .i64 M.mw, .int .i64 M.ms, .int .i64 M.mc, vF, vS] 14 HX.out Try.rowMet rfl ?_; simp only [Act.put]) | (go_at_call 8; (with_reducible refine (HFR.out _ (HA.out.below HB.out)).mono ?_); rintro e w1 ⟨rfl, hb1⟩; have nHX := Lib.hid (HX.out.below hb1); have nHL := Lib.hid (HL.out.below hb1); have nHP := Lib.hid (HP.out.below hb1); have nHB := Lib.hid (bthen HB.out hb1); have zz1 := hb1.size; clear HX HL HP HB hb1; have HX := nHX; have HL := nHL; have HP := nHP; have HB := nHB; clear nHX nHL nHP nHB) | (go_at_call 9; (with_reducible refine (wworks_c _).mono ?_); rintro e w1 ⟨rfl, hb1⟩; have nHX := Lib.hid (HX.out.below hb1); have nHL := Lib.hid (HL.out.below hb1); have nHP := Lib.hid (HP.out.below hb1); have nHB := Lib.hid (bthen HB.out hb1); have zz1 := hb1.size; clear HX HL HP HB hb1; have HX := nHX; have HL := nHL; have HP := nHP; have HB := nHB; clear nHX nHL nHP nHB))
    refine (HOW.out _ (HA.out.below HB.out) HFF.out).mono ?_
    rintro e w1 ⟨A, cF, A2, cS, rfl, hb1, hA1⟩
    have HA1 := Lib.hid hA1
    clear hA1
    have nHX := Lib.hid (HX.out.below hb1)
    have nHL := Lib.hid (HL.out.below hb1)
    have nHP := Lib.hid (HP.out.below hb1)
    have nHB := Lib.hid (bthen HB.out hb1)
    clear HX HL HP HB hb1
    have HX := nHX
    have HL := nHL
    have HP := nHP
    have HB := nHB
    clear nHX nHL nHP nHB
    have tok : True := trivial
    have zHP := HP.out.lt
    have cHP0 := HP.out.cell 0
    have cHP1 := HP.out.cell 1
    have cHP2 := HP.out.cell 2
    go_wp2_with (first | (have _t := tok; refine wpl_store_newW rfl 29 (.tmp 7) (.tmp 21) rfl #[.int .i64 M.places, .int .i64 M.any.a0, .int .i64 M.any.a1, .int .i64 M.any.a2, .int .i64 M.any.a3, .int .i64 M.any.a4, .int .i64 M.any.a5, .bool M.any.i, .bool M.any.s, .int .i64 M.mw, .int .i64 M.ms, .int .i64 M.mc, .slice A M.n cF, .slice A2 M.m cS] _ _ rfl ?_ rfl Try.sizeMet rfl (oneM M A A2 _ _ _ _) ?_; (focus (simp; done)); simp only [Act.put]; clear tok) | (refine wpl_row rfl 29 (.tmp 7) rfl _ rfl #[.int .i64 M.places, .int .i64 M.any.a0, .int .i64 M.any.a1, .int .i64 M.any.a2, .int .i64 M.any.a3, .int .i64 M.any.a4, .int .i64 M.any.a5, .bool M.any.i, .bool M.any.s, .int .i64 M.mw, .int .i64 M.ms, .int .i64 M.mc, .slice A M.n cF, .slice A2 M.m cS] 14 (Blk.new _ _ _) Try.rowMet rfl ?_; simp only [Act.put]) | (refine wpl_row rfl 31 (.tmp 4) rfl _ rfl #[.int .i64 lw, .int .i64 ls, .int .i64 lc, .bool li, .bool lt] 5 (HL.out.alloc _) Try.rowMin rfl ?_; simp only [Act.put]))
    have bHQ := Blk.new w1 29 #[.int .i64 M.places, .int .i64 M.any.a0, .int .i64 M.any.a1, .int .i64 M.any.a2, .int .i64 M.any.a3, .int .i64 M.any.a4, .int .i64 M.any.a5, .bool M.any.i, .bool M.any.s, .int .i64 M.mw, .int .i64 M.ms, .int .i64 M.mc, .slice A M.n cF, .slice A2 M.m cS]
    have nHX := Lib.hid (HX.out.alloc (.cells #[.int .i64 M.places, .int .i64 M.any.a0, .int .i64 M.any.a1, .int .i64 M.any.a2, .int .i64 M.any.a3, .int .i64 M.any.a4, .int .i64 M.any.a5, .bool M.any.i, .bool M.any.s, .int .i64 M.mw, .int .i64 M.ms, .int .i64 M.mc, .slice A M.n cF, .slice A2 M.m cS] 29))
    have nHL := Lib.hid (HL.out.alloc (.cells #[.int .i64 M.places, .int .i64 M.any.a0, .int .i64 M.any.a1, .int .i64 M.any.a2, .int .i64 M.any.a3, .int .i64 M.any.a4, .int .i64 M.any.a5, .bool M.any.i, .bool M.any.s, .int .i64 M.mw, .int .i64 M.ms, .int .i64 M.mc, .slice A M.n cF, .slice A2 M.m cS] 29))
    have nHP := Lib.hid (HP.out.alloc (.cells #[.int .i64 M.places, .int .i64 M.any.a0, .int .i64 M.any.a1, .int .i64 M.any.a2, .int .i64 M.any.a3, .int .i64 M.any.a4, .int .i64 M.any.a5, .bool M.any.i, .bool M.any.s, .int .i64 M.mw, .int .i64 M.ms, .int .i64 M.mc, .slice A M.n cF, .slice A2 M.m cS] 29))
    have nHA1 := Lib.hid (HA1.out.alloc (.cells #[.int .i64 M.places, .int .i64 M.any.a0, .int .i64 M.any.a1, .int .i64 M.any.a2, .int .i64 M.any.a3, .int .i64 M.any.a4, .int .i64 M.any.a5, .bool M.any.i, .bool M.any.s, .int .i64 M.mw, .int .i64 M.ms, .int .i64 M.mc, .slice A M.n cF, .slice A2 M.m cS] 29))
    have nHB := Lib.hid (bal HB.out (.cells #[.int .i64 M.places, .int .i64 M.any.a0, .int .i64 M.any.a1, .int .i64 M.any.a2, .int .i64 M.any.a3, .int .i64 M.any.a4, .int .i64 M.any.a5, .bool M.any.i, .bool M.any.s, .int .i64 M.mw, .int .i64 M.ms, .int .i64 M.mc, .slice A M.n cF, .slice A2 M.m cS] 29))
    clear HX HL HP HA1 HB
    have HX := nHX
    have HL := nHL
    have HP := nHP
    have HA1 := nHA1
    have HB := nHB
    clear nHX nHL nHP nHA1 nHB
    generalize w1.alloc (.cells #[.int .i64 M.places, .int .i64 M.any.a0, .int .i64 M.any.a1, .int .i64 M.any.a2, .int .i64 M.any.a3, .int .i64 M.any.a4, .int .i64 M.any.a5, .bool M.any.i, .bool M.any.s, .int .i64 M.mw, .int .i64 M.ms, .int .i64 M.mc, .slice A M.n cF, .slice A2 M.m cS] 29) = W2 at *
    generalize w1.heap.size = gHQ at *
    have HQ := Lib.hid bHQ
    clear bHQ
    refine (HFI.out _ _ _ HA1.out).mono ?_
    rintro e w1 ⟨rfl, hb1⟩
    have nHX := Lib.hid (HX.out.below hb1)
    have nHL := Lib.hid (HL.out.below hb1)
    have nHP := Lib.hid (HP.out.below hb1)
    have nHA1 := Lib.hid (HA1.out.below hb1)
    have nHQ := Lib.hid (HQ.out.below hb1)
    have nHB := Lib.hid (bthen HB.out hb1)
    clear HX HL HP HA1 HQ HB hb1
    have HX := nHX
    have HL := nHL
    have HP := nHP
    have HA1 := nHA1
    have HQ := nHQ
    have HB := nHB
    clear nHX nHL nHP nHA1 nHQ nHB
    have zHP := HP.out.lt
    have cHP0 := HP.out.cell 0
    have cHP1 := HP.out.cell 1
    have cHP2 := HP.out.cell 2
    go_wp2_with (first | (refine wpl_row rfl 29 (.tmp 3) rfl _ rfl #[.int .i64 M.places, .int .i64 M.any.a0, .int .i64 M.any.a1, .int .i64 M.any.a2, .int .i64 M.any.a3, .int .i64 M.any.a4, .int .i64 M.any.a5, .bool M.any.i, .bool M.any.s, .int .i64 M.mw, .int .i64 M.ms, .int .i64 M.mc, vF, vS] 14 HX.out Try.rowMet rfl ?_; simp only [Act.put]) | (refine wpl_row rfl 31 (.tmp 4) rfl _ rfl #[.int .i64 lw, .int .i64 ls, .int .i64 lc, .bool li, .bool lt] 5 HL.out Try.rowMin rfl ?_; simp only [Act.put]))
    refine (HRF.out _ (HA.out.below HB.out)).mono ?_
    rintro e w1 ⟨rfl, hb1⟩
    have nHX := Lib.hid (HX.out.below hb1)
    have nHL := Lib.hid (HL.out.below hb1)
    have nHP := Lib.hid (HP.out.below hb1)
    have nHA1 := Lib.hid (HA1.out.below hb1)
    have nHQ := Lib.hid (HQ.out.below hb1)
    have nHB := Lib.hid (bthen HB.out hb1)
    clear HX HL HP HA1 HQ HB hb1
    have HX := nHX
    have HL := nHL
    have HP := nHP
    have HA1 := nHA1
    have HQ := nHQ
    have HB := nHB
    clear nHX nHL nHP nHA1 nHQ nHB
    have zHP := HP.out.lt
    have cHP0 := HP.out.cell 0
    have cHP1 := HP.out.cell 1
    have cHP2 := HP.out.cell 2
    have haa : (a != a) = false := by simp
    have hEE : (E != E) = false := by simp
    by_cases he : E = 0
    case neg =>
      have hez : (E != 0) = true := by simpa using he
      clear he HLW
      go_wp2_with (first | (go_at_call 9; (with_reducible refine (wworks_c _).mono ?_); rintro e w1 ⟨rfl, hb1⟩; have nHQ := Lib.hid (HQ.out.below hb1); have nHL := Lib.hid (HL.out.below hb1); have nHB := Lib.hid (bthen HB.out hb1); have zz1 := hb1.size; clear HQ HL HB hb1; have HQ := nHQ; have HL := nHL; have HB := nHB; clear nHQ nHL nHB))
      go_ret
      exact ⟨rfl, HB.out⟩
    subst he
    obtain ⟨s0, s1, f0, a0, a1, hop, hbf⟩ := HLW.out a rfl
    have HPO := Lib.hid hop
    have HBF := Lib.hid hbf
    clear hop hbf HLW HFI HRF hEE
    go_wp2_with (fail)
    have K0 := Lib.hid (show FsK M A cF A2 cS lw ls lc li lt p f stay gHQ w _ from ⟨HB.out, HL.out, HP.out, HQ.out, HA1.out⟩)
    clear HB HL HP HQ HA1 HX haa
    go_loopg [12] (a + min stay 50 + 1 - a).toNat (fun gx i wr => ∃ tt : Int, i = .int .i64 tt ∧ a ≤ tt ∧ tt ≤ a + min stay 50 + 1 ∧ (a + min stay 50 + 1 - tt).toNat ≤ gx ∧ Hid (FsK M A cF A2 cS lw ls lc li lt p f stay gHQ w wr))
    case atStart => exact ⟨a, rfl, Int.le_refl _, by omega, Nat.le_refl _, K0⟩
    case round =>
      clear K0
      obtain ⟨tt, rfl, ht1, ht2, hgx, K0⟩ := hrel
      have m0 := K0.out.p.cell 0
      have m1 := K0.out.p.cell 1
      have m2 := K0.out.p.cell 2
      simp only [List.getElem?_toArray, List.getElem?_cons_succ, List.getElem?_cons_zero] at m0 m1 m2
      by_cases hle : tt ≤ a + min stay 50
      · obtain ⟨o1, o2⟩ := HPO.out tt ht1 (by omega)
        have hop := HOP.out wr _ _ tt K0.out.a
        rw [o1, o2] at hop
        clear o1 o2
        go_wp2_with (first | (refine wpl_row rfl 29 (.tmp 7) rfl _ rfl #[.int .i64 M.places, .int .i64 M.any.a0, .int .i64 M.any.a1, .int .i64 M.any.a2, .int .i64 M.any.a3, .int .i64 M.any.a4, .int .i64 M.any.a5, .bool M.any.i, .bool M.any.s, .int .i64 M.mw, .int .i64 M.ms, .int .i64 M.mc, .slice A M.n cF, .slice A2 M.m cS] 14 K0.out.q Try.rowMet rfl ?_; simp only [Act.put]) | (refine wpl_row rfl 31 (.tmp 4) rfl _ rfl #[.int .i64 lw, .int .i64 ls, .int .i64 lc, .bool li, .bool lt] 5 K0.out.l Try.rowMin rfl ?_; simp only [Act.put]) | (go_at_call 13; refine hop.mono ?_; clear hop; rintro _ w2 ⟨rfl, hb2⟩))
        go_roundg (a + min stay 50 + 1 - (tt + 1)).toNat
        case measure => omega
        case rel => exact ⟨tt + 1, by first | rfl | go_num | (congr 1; omega), by omega, by omega, Nat.le_refl _, Lib.hid (K0.out.grow hb2)⟩
      · have hle2 : ¬ tt ≤ a + min stay 50 := hle
        by_cases ha : a = f
        · have haf : (a == f) = true := by simp [ha]
          clear ha
          go_wp2_with (first | (go_at_call 9; refine (wworks_c _).mono ?_; rintro e w6 ⟨rfl, hb6⟩; have HB := Lib.hid (bthen K0.out.b hb6); clear hb6))
          go_ret
          exact ⟨rfl, HB.out⟩
        · have haf : (a == f) = false := by simp [ha]
          rcases HBF.out with h | ⟨o1, o2⟩
          · exact absurd h ha
          have hop := HOP.out wr _ _ (a - 1) K0.out.a
          rw [o1, o2] at hop
          clear o1 o2 ha
          go_wp2_with (first | (refine wpl_row rfl 29 (.tmp 7) rfl _ rfl #[.int .i64 M.places, .int .i64 M.any.a0, .int .i64 M.any.a1, .int .i64 M.any.a2, .int .i64 M.any.a3, .int .i64 M.any.a4, .int .i64 M.any.a5, .bool M.any.i, .bool M.any.s, .int .i64 M.mw, .int .i64 M.ms, .int .i64 M.mc, .slice A M.n cF, .slice A2 M.m cS] 14 K0.out.q Try.rowMet rfl ?_; simp only [Act.put]) | (refine wpl_row rfl 31 (.tmp 4) rfl _ rfl #[.int .i64 lw, .int .i64 ls, .int .i64 lc, .bool li, .bool lt] 5 K0.out.l Try.rowMin rfl ?_; simp only [Act.put]) | (go_at_call 13; refine hop.mono ?_; clear hop; rintro _ w2 ⟨rfl, hb2⟩; have K2 := Lib.hid (K0.out.grow hb2); clear hb2) | (go_at_call 9; refine (wworks_c _).mono ?_; rintro e w6 ⟨rfl, hb6⟩; have HB := Lib.hid (bthen K2.out.b hb6); clear hb6))
          go_ret
          exact ⟨rfl, HB.out⟩
  · rw [hf] at HFR
    clear hf
    go_enter Try.func3, Try.ntmps3
    go_wp2_with (first | (refine wpl_row rfl 29 _ rfl _ rfl #[.int .i64 M.places, .int .i64 M.any.a0, .int .i64 M.any.a1, .int .i64 M.any.a2, .int .i64 M.any.a3, .int .i64 M.any.a4, .int .i64 M.any.a5, .bool M.any.i, .bool M.any.s, .int .i64 M.mw, .int .i64 M.ms, .int .i64 M.mc, vF, vS] 14 ?_ Try.rowMet rfl ?_; (focus exact (by repeat (first | (refine Blk.newAt _ _ _ ?_; first | rfl | (simp; done)) | refine Blk.alloc ?_ _))); simp only [Act.put]))
    have bHX : Blk (((w.alloc (.cells #[.int .i64 M.places, .int .i64 M.any.a0, .int .i64 M.any.a1, .int .i64 M.any.a2, .int .i64 M.any.a3, .int .i64 M.any.a4, .int .i64 M.any.a5, .bool M.any.i, .bool M.any.s, .int .i64 M.mw, .int .i64 M.ms, .int .i64 M.mc, vF, vS] 29)).alloc (.cells #[.int .i64 lw, .int .i64 ls, .int .i64 lc, .bool li, .bool lt] 31)).alloc (.cells #[.int .i64 p, .int .i64 f, .int .i64 stay] 33)) (w.heap.size) 29 #[.int .i64 M.places, .int .i64 M.any.a0, .int .i64 M.any.a1, .int .i64 M.any.a2, .int .i64 M.any.a3, .int .i64 M.any.a4, .int .i64 M.any.a5, .bool M.any.i, .bool M.any.s, .int .i64 M.mw, .int .i64 M.ms, .int .i64 M.mc, vF, vS] := (by repeat (first | (refine Blk.newAt _ _ _ ?_; first | rfl | (simp; done)) | refine Blk.alloc ?_ _))
    have bHL : Blk (((w.alloc (.cells #[.int .i64 M.places, .int .i64 M.any.a0, .int .i64 M.any.a1, .int .i64 M.any.a2, .int .i64 M.any.a3, .int .i64 M.any.a4, .int .i64 M.any.a5, .bool M.any.i, .bool M.any.s, .int .i64 M.mw, .int .i64 M.ms, .int .i64 M.mc, vF, vS] 29)).alloc (.cells #[.int .i64 lw, .int .i64 ls, .int .i64 lc, .bool li, .bool lt] 31)).alloc (.cells #[.int .i64 p, .int .i64 f, .int .i64 stay] 33)) (w.heap.size + 1) 31 #[.int .i64 lw, .int .i64 ls, .int .i64 lc, .bool li, .bool lt] := (by repeat (first | (refine Blk.newAt _ _ _ ?_; first | rfl | (simp; done)) | refine Blk.alloc ?_ _))
    have bHP : Blk (((w.alloc (.cells #[.int .i64 M.places, .int .i64 M.any.a0, .int .i64 M.any.a1, .int .i64 M.any.a2, .int .i64 M.any.a3, .int .i64 M.any.a4, .int .i64 M.any.a5, .bool M.any.i, .bool M.any.s, .int .i64 M.mw, .int .i64 M.ms, .int .i64 M.mc, vF, vS] 29)).alloc (.cells #[.int .i64 lw, .int .i64 ls, .int .i64 lc, .bool li, .bool lt] 31)).alloc (.cells #[.int .i64 p, .int .i64 f, .int .i64 stay] 33)) (w.heap.size + 1 + 1) 33 #[.int .i64 p, .int .i64 f, .int .i64 stay] := (by repeat (first | (refine Blk.newAt _ _ _ ?_; first | rfl | (simp; done)) | refine Blk.alloc ?_ _))
    have bHB : Below w.heap.size w (((w.alloc (.cells #[.int .i64 M.places, .int .i64 M.any.a0, .int .i64 M.any.a1, .int .i64 M.any.a2, .int .i64 M.any.a3, .int .i64 M.any.a4, .int .i64 M.any.a5, .bool M.any.i, .bool M.any.s, .int .i64 M.mw, .int .i64 M.ms, .int .i64 M.mc, vF, vS] 29)).alloc (.cells #[.int .i64 lw, .int .i64 ls, .int .i64 lc, .bool li, .bool lt] 31)).alloc (.cells #[.int .i64 p, .int .i64 f, .int .i64 stay] 33)) := (by repeat' (first | exact Below.refl _ _ | assumption | refine Below.drew ?_ | refine bdn ?_ _ | refine bal ?_ _ | refine Below.setCell ?_ (by first | (simp; done) | omega | (simp; omega)) _))
    generalize (((w.alloc (.cells #[.int .i64 M.places, .int .i64 M.any.a0, .int .i64 M.any.a1, .int .i64 M.any.a2, .int .i64 M.any.a3, .int .i64 M.any.a4, .int .i64 M.any.a5, .bool M.any.i, .bool M.any.s, .int .i64 M.mw, .int .i64 M.ms, .int .i64 M.mc, vF, vS] 29)).alloc (.cells #[.int .i64 lw, .int .i64 ls, .int .i64 lc, .bool li, .bool lt] 31)).alloc (.cells #[.int .i64 p, .int .i64 f, .int .i64 stay] 33)) = W at *
    have zW := bHP.lt
    have HX := Lib.hid bHX
    have HL := Lib.hid bHL
    have HP := Lib.hid bHP
    have HB := Lib.hid bHB
    clear bHX bHL bHP bHB
    go_wp2_with (first | (refine wpl_row rfl 29 _ rfl _ rfl #[.int .i64 M.places, .int .i64 M.any.a0, .int .i64 M.any.a1, .int .i64 M.any.a2, .int .i64 M.any.a3, .int .i64 M.any.a4, .int .i64 M.any.a5, .bool M.any.i, .bool M.any.s, .int .i64 M.mw, .int .i64 M.ms, .int .i64 M.mc, vF, vS] 14 HX.out Try.rowMet rfl ?_; simp only [Act.put]) | (go_at_call 8; (with_reducible refine (HFR.out _ (HA.out.below HB.out)).mono ?_); rintro e w1 ⟨rfl, hb1⟩; have nHX := Lib.hid (HX.out.below hb1); have nHL := Lib.hid (HL.out.below hb1); have nHP := Lib.hid (HP.out.below hb1); have nHB := Lib.hid (bthen HB.out hb1); have zz1 := hb1.size; clear HX HL HP HB hb1; have HX := nHX; have HL := nHL; have HP := nHP; have HB := nHB; clear nHX nHL nHP nHB) | (go_at_call 9; (with_reducible refine (wworks_c _).mono ?_); rintro e w1 ⟨rfl, hb1⟩; have nHX := Lib.hid (HX.out.below hb1); have nHL := Lib.hid (HL.out.below hb1); have nHP := Lib.hid (HP.out.below hb1); have nHB := Lib.hid (bthen HB.out hb1); have zz1 := hb1.size; clear HX HL HP HB hb1; have HX := nHX; have HL := nHL; have HP := nHP; have HB := nHB; clear nHX nHL nHP nHB))
    go_ret
    exact ⟨rfl, HB.out⟩
end Go.Proofs.Ytfcjblnebaemgaa
