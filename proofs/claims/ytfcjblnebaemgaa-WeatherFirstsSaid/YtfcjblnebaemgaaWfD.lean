/- The law WeatherWeaker: with weaker minima what was open is open. -/
import Derived.Test.YtfcjblnebaemgaaWfB
set_option linter.all false
namespace Go.Proofs.Ytfcjblnebaemgaa
open Go Go.RowKit Go.Proofs
set_option maxRecDepth 100000
set_option maxHeartbeats 8000000

theorem minE_ok {M : MetD} {lw ls lc : Int} (h : minE M lw ls lc = 0) : M.bad = false ∧ (0 ≤ lw ∧ lw ≤ 300) ∧ (0 ≤ ls ∧ ls ≤ 20000) ∧ 0 ≤ lc ∧ lc ≤ 20000 := by
  have hb := minE_bad h
  unfold minE at h
  rw [hb, if_neg (by decide)] at h
  cases h1 : inB lw 0 300
  · rw [h1] at h; cases h
  · cases h2 : inB ls 0 20000
    · rw [h1, h2] at h; cases h
    · cases h3 : inB lc 0 20000
      · rw [h1, h2, h3] at h; cases h
      · exact ⟨hb, inB_iff.1 h1, inB_iff.1 h2, inB_iff.1 h3⟩
theorem minE_mk {M : MetD} {lw ls lc : Int} (hb : M.bad = false) (h1 : 0 ≤ lw ∧ lw ≤ 300) (h2 : 0 ≤ ls ∧ ls ≤ 20000) (h3 : 0 ≤ lc ∧ lc ≤ 20000) : minE M lw ls lc = 0 := by
  unfold minE
  rw [hb, inB_iff.2 h1, inB_iff.2 h2, inB_iff.2 h3]
  rfl
theorem opE_split {M : MetD} {lw ls lc p t : Int} (h : opE M lw ls lc p t = 0) : minE M lw ls lc = 0 ∧ atE M p t = 0 := by
  unfold opE at h
  by_cases he : minE M lw ls lc = 0
  · rw [if_pos he] at h; exact ⟨he, h⟩
  · rw [if_neg he] at h; exact absurd h he
theorem opE_mk {M : MetD} {lw ls lc p t : Int} (h1 : minE M lw ls lc = 0) (h2 : atE M p t = 0) : opE M lw ls lc p t = 0 := by
  unfold opE; rw [if_pos h1, h2]
theorem flyB_iff {we se ce : Int} {ic st : Bool} {lw ls lc : Int} {li lt : Bool} : flyB we se ce ic st lw ls lc li lt = true ↔ we ≤ lw ∧ ls ≤ se ∧ lc ≤ ce ∧ (ic = true → li = true) ∧ (st = true → lt = true) := by
  unfold flyB
  cases ic <;> cases st <;> cases li <;> cases lt <;> simp
theorem weaker_law {M : MetD} {lw ls lc : Int} {li lt : Bool} {p t a b c : Int} {i s : Bool} (h : opE M lw ls lc p t = 0) (h1 : 0 ≤ a) (h2 : a ≤ 300) (h3 : 0 ≤ b) (h4 : b ≤ 20000) (h5 : 0 ≤ c) (h6 : c ≤ 20000) :
    ((0 ≤ lw ∧ lw ≤ 300) ∧ (0 ≤ ls ∧ ls ≤ 20000) ∧ 0 ≤ lc ∧ lc ≤ 20000) ∧ opE M (min 300 (lw + a)) (max 0 (ls - b)) (max 0 (lc - c)) p t = 0 ∧ (openV M lw ls lc li lt p t = true → openV M (min 300 (lw + a)) (max 0 (ls - b)) (max 0 (lc - c)) (li || i) (lt || s) p t = true) := by
  obtain ⟨k1, k2⟩ := opE_split h
  obtain ⟨hb, q1, q2, q3⟩ := minE_ok k1
  have e : opE M (min 300 (lw + a)) (max 0 (ls - b)) (max 0 (lc - c)) p t = 0 := opE_mk (minE_mk hb (by omega) (by omega) (by omega)) k2
  refine ⟨⟨q1, q2, q3⟩, e, fun hv => ?_⟩
  unfold openV at *
  rw [h] at hv
  rw [e]
  have hv' : openB (M.may p t) lw ls lc li lt = true := by simpa using hv
  unfold openB at *
  rw [flyB_iff] at hv'
  obtain ⟨v1, v2, v3, v4, v5⟩ := hv'
  have : flyB (M.may p t).a1 (M.may p t).a2 (M.may p t).a4 (M.may p t).i (M.may p t).s (min 300 (lw + a)) (max 0 (ls - b)) (max 0 (lc - c)) (li || i) (lt || s) = true :=
    flyB_iff.2 ⟨by omega, by omega, by omega, fun h => by rw [v4 h]; rfl, fun h => by rw [v5 h]; rfl⟩
  rw [this]; rfl
theorem MetAt.alloc {w : World} {vF vS : Value} {M : MetD} (h : MetAt w vF vS M) (o : Obj) : MetAt (w.alloc o) vF vS M := h.below (bal (Below.refl _ _) _)
theorem wown2_c (M : MetD) (vF vS : Value) (w : World) (hA : MetAt w vF vS M) (hn : M.far = false) :
   Calls Try.prog 10 #[.agg #[.int .i64 M.places, .int .i64 M.any.a0, .int .i64 M.any.a1, .int .i64 M.any.a2, .int .i64 M.any.a3, .int .i64 M.any.a4, .int .i64 M.any.a5, .bool M.any.i, .bool M.any.s, .int .i64 M.mw, .int .i64 M.ms, .int .i64 M.mc, vF, vS]] w fun e w' => ∃ A cF A2 cS, e = .returned (.agg #[.int .i64 M.places, .int .i64 M.any.a0, .int .i64 M.any.a1, .int .i64 M.any.a2, .int .i64 M.any.a3, .int .i64 M.any.a4, .int .i64 M.any.a5, .bool M.any.i, .bool M.any.s, .int .i64 M.mw, .int .i64 M.ms, .int .i64 M.mc, .slice A M.n cF, .slice A2 M.m cS]) ∧ Below w.heap.size w w' ∧ MetAt w' (.slice A M.n cF) (.slice A2 M.m cS) M := by
  refine (wown_c M vF vS w hA hn).mono ?_
  rintro e w' ⟨vF', vS', rfl, hb, hA'⟩
  obtain ⟨⟨A, cF, rfl, h1, h2, h3⟩, ⟨A2, cS, rfl, k1, k2, k3⟩⟩ := hA'
  exact ⟨A, cF, A2, cS, rfl, hb, ⟨A, cF, rfl, h1, h2, h3⟩, ⟨A2, cS, rfl, k1, k2, k3⟩⟩
-- done
theorem WeatherWeaker_c (M : MetD) (vF vS : Value) (lw ls lc : Int) (li lt : Bool) (mw ms mc : Int) (mi mt : Bool) (p t : Int) (w : World) (hA : MetAt w vF vS M) :
   Calls Try.prog 4 #[.agg #[.int .i64 M.places, .int .i64 M.any.a0, .int .i64 M.any.a1, .int .i64 M.any.a2, .int .i64 M.any.a3, .int .i64 M.any.a4, .int .i64 M.any.a5, .bool M.any.i, .bool M.any.s, .int .i64 M.mw, .int .i64 M.ms, .int .i64 M.mc, vF, vS], .agg #[.int .i64 lw, .int .i64 ls, .int .i64 lc, .bool li, .bool lt, .int .i64 mw, .int .i64 ms, .int .i64 mc, .bool mi, .bool mt], .agg #[.int .i64 p, .int .i64 t]] w fun e w' => e = .returned (.bool true) ∧ Below w.heap.size w w' := by
  have HA := Lib.hid hA
  have HFR := Lib.hid (fun w1 h => wFar_c M vF vS w1 h)
  have HOW := Lib.hid (fun w1 h hn => wown2_c M vF vS w1 h hn)
  have HOP := Lib.hid (fun w1 vF vS a b c i s h => wOpen_c M vF vS a b c i s p t w1 h)
  have HPL := Lib.hid (fun a b c i s h h1 h2 h3 h4 h5 h6 => weaker_law (M := M) (lw := lw) (ls := ls) (lc := lc) (li := li) (lt := lt) (p := p) (t := t) (a := a) (b := b) (c := c) (i := i) (s := s) h h1 h2 h3 h4 h5 h6)
  clear hA
  cases hf : M.far
  · rw [hf] at HFR
    have HFF := Lib.hid hf
    clear hf
    go_enter Try.func4, Try.ntmps4
    go_wp2_with (first | (refine wpl_row rfl 29 _ rfl _ rfl #[.int .i64 M.places, .int .i64 M.any.a0, .int .i64 M.any.a1, .int .i64 M.any.a2, .int .i64 M.any.a3, .int .i64 M.any.a4, .int .i64 M.any.a5, .bool M.any.i, .bool M.any.s, .int .i64 M.mw, .int .i64 M.ms, .int .i64 M.mc, vF, vS] 14 ?_ Try.rowMet rfl ?_; (focus exact (by repeat (first | (refine Blk.newAt _ _ _ ?_; first | rfl | (simp; done)) | refine Blk.alloc ?_ _))); simp only [Act.put]))
    have bHX : Blk (((w.alloc (.cells #[.int .i64 M.places, .int .i64 M.any.a0, .int .i64 M.any.a1, .int .i64 M.any.a2, .int .i64 M.any.a3, .int .i64 M.any.a4, .int .i64 M.any.a5, .bool M.any.i, .bool M.any.s, .int .i64 M.mw, .int .i64 M.ms, .int .i64 M.mc, vF, vS] 29)).alloc (.cells #[.int .i64 lw, .int .i64 ls, .int .i64 lc, .bool li, .bool lt, .int .i64 mw, .int .i64 ms, .int .i64 mc, .bool mi, .bool mt] 44)).alloc (.cells #[.int .i64 p, .int .i64 t] 46)) (w.heap.size) 29 #[.int .i64 M.places, .int .i64 M.any.a0, .int .i64 M.any.a1, .int .i64 M.any.a2, .int .i64 M.any.a3, .int .i64 M.any.a4, .int .i64 M.any.a5, .bool M.any.i, .bool M.any.s, .int .i64 M.mw, .int .i64 M.ms, .int .i64 M.mc, vF, vS] := (by repeat (first | (refine Blk.newAt _ _ _ ?_; first | rfl | (simp; done)) | refine Blk.alloc ?_ _))
    have bHK : Blk (((w.alloc (.cells #[.int .i64 M.places, .int .i64 M.any.a0, .int .i64 M.any.a1, .int .i64 M.any.a2, .int .i64 M.any.a3, .int .i64 M.any.a4, .int .i64 M.any.a5, .bool M.any.i, .bool M.any.s, .int .i64 M.mw, .int .i64 M.ms, .int .i64 M.mc, vF, vS] 29)).alloc (.cells #[.int .i64 lw, .int .i64 ls, .int .i64 lc, .bool li, .bool lt, .int .i64 mw, .int .i64 ms, .int .i64 mc, .bool mi, .bool mt] 44)).alloc (.cells #[.int .i64 p, .int .i64 t] 46)) (w.heap.size + 1) 44 #[.int .i64 lw, .int .i64 ls, .int .i64 lc, .bool li, .bool lt, .int .i64 mw, .int .i64 ms, .int .i64 mc, .bool mi, .bool mt] := (by repeat (first | (refine Blk.newAt _ _ _ ?_; first | rfl | (simp; done)) | refine Blk.alloc ?_ _))
    have bHP : Blk (((w.alloc (.cells #[.int .i64 M.places, .int .i64 M.any.a0, .int .i64 M.any.a1, .int .i64 M.any.a2, .int .i64 M.any.a3, .int .i64 M.any.a4, .int .i64 M.any.a5, .bool M.any.i, .bool M.any.s, .int .i64 M.mw, .int .i64 M.ms, .int .i64 M.mc, vF, vS] 29)).alloc (.cells #[.int .i64 lw, .int .i64 ls, .int .i64 lc, .bool li, .bool lt, .int .i64 mw, .int .i64 ms, .int .i64 mc, .bool mi, .bool mt] 44)).alloc (.cells #[.int .i64 p, .int .i64 t] 46)) (w.heap.size + 1 + 1) 46 #[.int .i64 p, .int .i64 t] := (by repeat (first | (refine Blk.newAt _ _ _ ?_; first | rfl | (simp; done)) | refine Blk.alloc ?_ _))
    have bHB : Below w.heap.size w (((w.alloc (.cells #[.int .i64 M.places, .int .i64 M.any.a0, .int .i64 M.any.a1, .int .i64 M.any.a2, .int .i64 M.any.a3, .int .i64 M.any.a4, .int .i64 M.any.a5, .bool M.any.i, .bool M.any.s, .int .i64 M.mw, .int .i64 M.ms, .int .i64 M.mc, vF, vS] 29)).alloc (.cells #[.int .i64 lw, .int .i64 ls, .int .i64 lc, .bool li, .bool lt, .int .i64 mw, .int .i64 ms, .int .i64 mc, .bool mi, .bool mt] 44)).alloc (.cells #[.int .i64 p, .int .i64 t] 46)) := (by repeat' (first | exact Below.refl _ _ | assumption | refine Below.drew ?_ | refine bdn ?_ _ | refine bal ?_ _ | refine Below.setCell ?_ (by first | (simp; done) | omega | (simp; omega)) _))
    generalize (((w.alloc (.cells #[.int .i64 M.places, .int .i64 M.any.a0, .int .i64 M.any.a1, .int .i64 M.any.a2, .int .i64 M.any.a3, .int .i64 M.any.a4, .int .i64 M.any.a5, .bool M.any.i, .bool M.any.s, .int .i64 M.mw, .int .i64 M.ms, .int .i64 M.mc, vF, vS] 29)).alloc (.cells #[.int .i64 lw, .int .i64 ls, .int .i64 lc, .bool li, .bool lt, .int .i64 mw, .int .i64 ms, .int .i64 mc, .bool mi, .bool mt] 44)).alloc (.cells #[.int .i64 p, .int .i64 t] 46)) = W at *
    have zW := bHP.lt
    have HX := Lib.hid bHX
    have HK := Lib.hid bHK
    have HP := Lib.hid bHP
    have HB := Lib.hid bHB
    clear bHX bHK bHP bHB
    go_wp2_with (first | (refine wpl_row rfl 29 _ rfl _ rfl #[.int .i64 M.places, .int .i64 M.any.a0, .int .i64 M.any.a1, .int .i64 M.any.a2, .int .i64 M.any.a3, .int .i64 M.any.a4, .int .i64 M.any.a5, .bool M.any.i, .bool M.any.s, .int .i64 M.mw, .int .i64 M.ms, .int .i64 M.mc, vF, vS] 14 HX.out Try.rowMet rfl ?_; simp only [Act.put]) | (go_at_call 8; (with_reducible refine (HFR.out _ (HA.out.below HB.out)).mono ?_); rintro e w1 ⟨rfl, hb1⟩; have nHX := Lib.hid (HX.out.below hb1); have nHK := Lib.hid (HK.out.below hb1); have nHP := Lib.hid (HP.out.below hb1); have nHB := Lib.hid (bthen HB.out hb1); have zz1 := hb1.size; clear HX HK HP HB hb1; have HX := nHX; have HK := nHK; have HP := nHP; have HB := nHB; clear nHX nHK nHP nHB) | (go_at_call 9; (with_reducible refine (wworks_c _).mono ?_); rintro e w1 ⟨rfl, hb1⟩; have nHX := Lib.hid (HX.out.below hb1); have nHK := Lib.hid (HK.out.below hb1); have nHP := Lib.hid (HP.out.below hb1); have nHB := Lib.hid (bthen HB.out hb1); have zz1 := hb1.size; clear HX HK HP HB hb1; have HX := nHX; have HK := nHK; have HP := nHP; have HB := nHB; clear nHX nHK nHP nHB))
    refine (HOW.out _ (HA.out.below HB.out) HFF.out).mono ?_
    rintro e w1 ⟨A, cF, A2, cS, rfl, hb1, hA1⟩
    have HA1 := Lib.hid hA1
    clear hA1
    have nHX := Lib.hid (HX.out.below hb1)
    have nHK := Lib.hid (HK.out.below hb1)
    have nHP := Lib.hid (HP.out.below hb1)
    have nHB := Lib.hid (bthen HB.out hb1)
    clear HX HK HP HB hb1
    have HX := nHX
    have HK := nHK
    have HP := nHP
    have HB := nHB
    clear nHX nHK nHP nHB
    have tok : True := trivial
    have zHK := HK.out.lt
    have cHK0 := HK.out.cell 0
    have cHK1 := HK.out.cell 1
    have cHK2 := HK.out.cell 2
    have cHK3 := HK.out.cell 3
    have cHK4 := HK.out.cell 4
    have zHP := HP.out.lt
    have cHP0 := HP.out.cell 0
    have cHP1 := HP.out.cell 1
    go_wp2_with (first | (have _t := tok; refine wpl_store_newW rfl 29 (.tmp 7) (.tmp 17) rfl #[.int .i64 M.places, .int .i64 M.any.a0, .int .i64 M.any.a1, .int .i64 M.any.a2, .int .i64 M.any.a3, .int .i64 M.any.a4, .int .i64 M.any.a5, .bool M.any.i, .bool M.any.s, .int .i64 M.mw, .int .i64 M.ms, .int .i64 M.mc, .slice A M.n cF, .slice A2 M.m cS] _ _ rfl ?_ rfl Try.sizeMet rfl (oneM M A A2 _ _ _ _) ?_; (focus (simp; done)); simp only [Act.put]; clear tok) | (refine wpl_row rfl 29 (.tmp 7) rfl _ rfl #[.int .i64 M.places, .int .i64 M.any.a0, .int .i64 M.any.a1, .int .i64 M.any.a2, .int .i64 M.any.a3, .int .i64 M.any.a4, .int .i64 M.any.a5, .bool M.any.i, .bool M.any.s, .int .i64 M.mw, .int .i64 M.ms, .int .i64 M.mc, .slice A M.n cF, .slice A2 M.m cS] 14 (Blk.new _ _ _) Try.rowMet rfl ?_; simp only [Act.put]))
    have bHQ := Blk.new w1 29 #[.int .i64 M.places, .int .i64 M.any.a0, .int .i64 M.any.a1, .int .i64 M.any.a2, .int .i64 M.any.a3, .int .i64 M.any.a4, .int .i64 M.any.a5, .bool M.any.i, .bool M.any.s, .int .i64 M.mw, .int .i64 M.ms, .int .i64 M.mc, .slice A M.n cF, .slice A2 M.m cS]
    have nHX := Lib.hid (HX.out.alloc (.cells #[.int .i64 M.places, .int .i64 M.any.a0, .int .i64 M.any.a1, .int .i64 M.any.a2, .int .i64 M.any.a3, .int .i64 M.any.a4, .int .i64 M.any.a5, .bool M.any.i, .bool M.any.s, .int .i64 M.mw, .int .i64 M.ms, .int .i64 M.mc, .slice A M.n cF, .slice A2 M.m cS] 29))
    have nHK := Lib.hid (HK.out.alloc (.cells #[.int .i64 M.places, .int .i64 M.any.a0, .int .i64 M.any.a1, .int .i64 M.any.a2, .int .i64 M.any.a3, .int .i64 M.any.a4, .int .i64 M.any.a5, .bool M.any.i, .bool M.any.s, .int .i64 M.mw, .int .i64 M.ms, .int .i64 M.mc, .slice A M.n cF, .slice A2 M.m cS] 29))
    have nHP := Lib.hid (HP.out.alloc (.cells #[.int .i64 M.places, .int .i64 M.any.a0, .int .i64 M.any.a1, .int .i64 M.any.a2, .int .i64 M.any.a3, .int .i64 M.any.a4, .int .i64 M.any.a5, .bool M.any.i, .bool M.any.s, .int .i64 M.mw, .int .i64 M.ms, .int .i64 M.mc, .slice A M.n cF, .slice A2 M.m cS] 29))
    have nHA1 := Lib.hid (HA1.out.alloc (.cells #[.int .i64 M.places, .int .i64 M.any.a0, .int .i64 M.any.a1, .int .i64 M.any.a2, .int .i64 M.any.a3, .int .i64 M.any.a4, .int .i64 M.any.a5, .bool M.any.i, .bool M.any.s, .int .i64 M.mw, .int .i64 M.ms, .int .i64 M.mc, .slice A M.n cF, .slice A2 M.m cS] 29))
    have nHB := Lib.hid (bal HB.out (.cells #[.int .i64 M.places, .int .i64 M.any.a0, .int .i64 M.any.a1, .int .i64 M.any.a2, .int .i64 M.any.a3, .int .i64 M.any.a4, .int .i64 M.any.a5, .bool M.any.i, .bool M.any.s, .int .i64 M.mw, .int .i64 M.ms, .int .i64 M.mc, .slice A M.n cF, .slice A2 M.m cS] 29))
    clear HX HK HP HA1 HB
    have HX := nHX
    have HK := nHK
    have HP := nHP
    have HA1 := nHA1
    have HB := nHB
    clear nHX nHK nHP nHA1 nHB
    generalize w1.alloc (.cells #[.int .i64 M.places, .int .i64 M.any.a0, .int .i64 M.any.a1, .int .i64 M.any.a2, .int .i64 M.any.a3, .int .i64 M.any.a4, .int .i64 M.any.a5, .bool M.any.i, .bool M.any.s, .int .i64 M.mw, .int .i64 M.ms, .int .i64 M.mc, .slice A M.n cF, .slice A2 M.m cS] 29) = W2 at *
    generalize w1.heap.size = gHQ at *
    have HQ := Lib.hid bHQ
    clear bHQ
    refine (HOP.out _ _ _ _ _ _ _ _ HA1.out).mono ?_
    rintro e w1 ⟨rfl, hb1⟩
    have nHX := Lib.hid (HX.out.below hb1)
    have nHK := Lib.hid (HK.out.below hb1)
    have nHP := Lib.hid (HP.out.below hb1)
    have nHA1 := Lib.hid (HA1.out.below hb1)
    have nHQ := Lib.hid (HQ.out.below hb1)
    have nHB := Lib.hid (bthen HB.out hb1)
    clear HX HK HP HA1 HQ HB hb1
    have HX := nHX
    have HK := nHK
    have HP := nHP
    have HA1 := nHA1
    have HQ := nHQ
    have HB := nHB
    clear nHX nHK nHP nHA1 nHQ nHB
    have zHK := HK.out.lt
    have cHK5 := HK.out.cell 5
    have cHK6 := HK.out.cell 6
    have cHK7 := HK.out.cell 7
    by_cases h1 : mw < 0
    · skip
      go_wp2_with (first | (go_at_call 9; (with_reducible refine (wworks_c _).mono ?_); rintro e w1 ⟨rfl, hb1⟩; have nHQ := Lib.hid (HQ.out.below hb1); have nHK := Lib.hid (HK.out.below hb1); have nHB := Lib.hid (bthen HB.out hb1); have zz1 := hb1.size; clear HQ HK HB hb1; have HQ := nHQ; have HK := nHK; have HB := nHB; clear nHQ nHK nHB))
      go_ret
      exact ⟨rfl, HB.out⟩
    by_cases h2 : 300 < mw
    · skip
      go_wp2_with (first | (go_at_call 9; (with_reducible refine (wworks_c _).mono ?_); rintro e w1 ⟨rfl, hb1⟩; have nHQ := Lib.hid (HQ.out.below hb1); have nHK := Lib.hid (HK.out.below hb1); have nHB := Lib.hid (bthen HB.out hb1); have zz1 := hb1.size; clear HQ HK HB hb1; have HQ := nHQ; have HK := nHK; have HB := nHB; clear nHQ nHK nHB))
      go_ret
      exact ⟨rfl, HB.out⟩
    by_cases h3 : ms < 0
    · skip
      go_wp2_with (first | (go_at_call 9; (with_reducible refine (wworks_c _).mono ?_); rintro e w1 ⟨rfl, hb1⟩; have nHQ := Lib.hid (HQ.out.below hb1); have nHK := Lib.hid (HK.out.below hb1); have nHB := Lib.hid (bthen HB.out hb1); have zz1 := hb1.size; clear HQ HK HB hb1; have HQ := nHQ; have HK := nHK; have HB := nHB; clear nHQ nHK nHB))
      go_ret
      exact ⟨rfl, HB.out⟩
    by_cases h4 : 20000 < ms
    · skip
      go_wp2_with (first | (go_at_call 9; (with_reducible refine (wworks_c _).mono ?_); rintro e w1 ⟨rfl, hb1⟩; have nHQ := Lib.hid (HQ.out.below hb1); have nHK := Lib.hid (HK.out.below hb1); have nHB := Lib.hid (bthen HB.out hb1); have zz1 := hb1.size; clear HQ HK HB hb1; have HQ := nHQ; have HK := nHK; have HB := nHB; clear nHQ nHK nHB))
      go_ret
      exact ⟨rfl, HB.out⟩
    by_cases h5 : mc < 0
    · skip
      go_wp2_with (first | (go_at_call 9; (with_reducible refine (wworks_c _).mono ?_); rintro e w1 ⟨rfl, hb1⟩; have nHQ := Lib.hid (HQ.out.below hb1); have nHK := Lib.hid (HK.out.below hb1); have nHB := Lib.hid (bthen HB.out hb1); have zz1 := hb1.size; clear HQ HK HB hb1; have HQ := nHQ; have HK := nHK; have HB := nHB; clear nHQ nHK nHB))
      go_ret
      exact ⟨rfl, HB.out⟩
    by_cases h6 : 20000 < mc
    · skip
      go_wp2_with (first | (go_at_call 9; (with_reducible refine (wworks_c _).mono ?_); rintro e w1 ⟨rfl, hb1⟩; have nHQ := Lib.hid (HQ.out.below hb1); have nHK := Lib.hid (HK.out.below hb1); have nHB := Lib.hid (bthen HB.out hb1); have zz1 := hb1.size; clear HQ HK HB hb1; have HQ := nHQ; have HK := nHK; have HB := nHB; clear nHQ nHK nHB))
      go_ret
      exact ⟨rfl, HB.out⟩
    by_cases he : opE M lw ls lc p t = 0
    · obtain ⟨⟨q1, q2, q3⟩, e2, hv⟩ := HPL.out mw ms mc mi mt he (by omega) (by omega) (by omega) (by omega) (by omega) (by omega)
      have hop := fun w1 vF vS h => HOP.out w1 vF vS (min 300 (lw + mw)) (max 0 (ls - ms)) (max 0 (lc - mc)) (li || mi) (lt || mt) h
      rw [e2] at hop
      rw [he]
      clear HPL he e2
      generalize openV M lw ls lc li lt p t = V at *
      generalize openV M (min 300 (lw + mw)) (max 0 (ls - ms)) (max 0 (lc - mc)) (li || mi) (lt || mt) p t = V2 at *
      have HOP2 := Lib.hid hop
      clear hop HOP
      have HV := Lib.hid hv
      clear hv
      cases li <;> cases lt
      all_goals
        have zHK := HK.out.lt
        have cHK0 := HK.out.cell 0
        have cHK1 := HK.out.cell 1
        have cHK2 := HK.out.cell 2
        have cHK3 := HK.out.cell 3
        have cHK4 := HK.out.cell 4
        have cHK8 := HK.out.cell 8
        have cHK9 := HK.out.cell 9
        have zHP := HP.out.lt
        have cHP0 := HP.out.cell 0
        have cHP1 := HP.out.cell 1
        have zHQ := HQ.out.lt
        have fHQ := fun i => HQ.out.frozen i
        go_wp2_with (first | (refine wpl_row rfl 29 (.tmp 7) rfl _ rfl #[.int .i64 M.places, .int .i64 M.any.a0, .int .i64 M.any.a1, .int .i64 M.any.a2, .int .i64 M.any.a3, .int .i64 M.any.a4, .int .i64 M.any.a5, .bool M.any.i, .bool M.any.s, .int .i64 M.mw, .int .i64 M.ms, .int .i64 M.mc, .slice A M.n cF, .slice A2 M.m cS] 14 (HQ.out.alloc _) Try.rowMet rfl ?_; simp only [Act.put]))
        refine (HOP2.out _ _ _ (HA1.out.alloc _)).mono ?_
        rintro e w5 ⟨rfl, hb5⟩
        have HB5 := Lib.hid (bthen (bal HB.out _) hb5)
        clear hb5 HB
        cases V
        · clear HV
          go_wp2_with (first | (go_at_call 9; refine (wworks_c _).mono ?_; rintro e w6 ⟨rfl, hb6⟩; have HB := Lib.hid (bthen HB5.out hb6); clear hb6))
          go_ret
          exact ⟨rfl, HB.out⟩
        · obtain rfl : V2 = true := HV.out rfl
          clear HV
          go_wp2_with (first | (go_at_call 9; refine (wworks_c _).mono ?_; rintro e w6 ⟨rfl, hb6⟩; have HB := Lib.hid (bthen HB5.out hb6); clear hb6))
          go_ret
          exact ⟨rfl, HB.out⟩
    · have hez : (opE M lw ls lc p t != 0) = true := by simpa using he
      clear he HPL
      generalize opE M lw ls lc p t = E at *
      generalize openV M lw ls lc li lt p t = V at *
      cases li <;> cases lt
      all_goals
        have zHK := HK.out.lt
        have cHK0 := HK.out.cell 0
        have cHK1 := HK.out.cell 1
        have cHK2 := HK.out.cell 2
        have cHK3 := HK.out.cell 3
        have cHK4 := HK.out.cell 4
        have cHK8 := HK.out.cell 8
        have cHK9 := HK.out.cell 9
        have zHP := HP.out.lt
        have cHP0 := HP.out.cell 0
        have cHP1 := HP.out.cell 1
        have zHQ := HQ.out.lt
        have fHQ := fun i => HQ.out.frozen i
        go_wp2_with (first | (refine wpl_row rfl 29 (.tmp 7) rfl _ rfl #[.int .i64 M.places, .int .i64 M.any.a0, .int .i64 M.any.a1, .int .i64 M.any.a2, .int .i64 M.any.a3, .int .i64 M.any.a4, .int .i64 M.any.a5, .bool M.any.i, .bool M.any.s, .int .i64 M.mw, .int .i64 M.ms, .int .i64 M.mc, .slice A M.n cF, .slice A2 M.m cS] 14 (HQ.out.alloc _) Try.rowMet rfl ?_; simp only [Act.put]))
        refine (HOP.out _ _ _ _ _ _ _ _ (HA1.out.alloc _)).mono ?_
        rintro e w5 ⟨rfl, hb5⟩
        have HB5 := Lib.hid (bthen (bal HB.out _) hb5)
        clear hb5 HB
        go_wp2_with (first | (go_at_call 9; refine (wworks_c _).mono ?_; rintro e w6 ⟨rfl, hb6⟩; have HB := Lib.hid (bthen HB5.out hb6); clear hb6))
        go_ret
        exact ⟨rfl, HB.out⟩
  · rw [hf] at HFR
    clear hf
    go_enter Try.func4, Try.ntmps4
    go_wp2_with (first | (refine wpl_row rfl 29 _ rfl _ rfl #[.int .i64 M.places, .int .i64 M.any.a0, .int .i64 M.any.a1, .int .i64 M.any.a2, .int .i64 M.any.a3, .int .i64 M.any.a4, .int .i64 M.any.a5, .bool M.any.i, .bool M.any.s, .int .i64 M.mw, .int .i64 M.ms, .int .i64 M.mc, vF, vS] 14 ?_ Try.rowMet rfl ?_; (focus exact (by repeat (first | (refine Blk.newAt _ _ _ ?_; first | rfl | (simp; done)) | refine Blk.alloc ?_ _))); simp only [Act.put]))
    have bHX : Blk (((w.alloc (.cells #[.int .i64 M.places, .int .i64 M.any.a0, .int .i64 M.any.a1, .int .i64 M.any.a2, .int .i64 M.any.a3, .int .i64 M.any.a4, .int .i64 M.any.a5, .bool M.any.i, .bool M.any.s, .int .i64 M.mw, .int .i64 M.ms, .int .i64 M.mc, vF, vS] 29)).alloc (.cells #[.int .i64 lw, .int .i64 ls, .int .i64 lc, .bool li, .bool lt, .int .i64 mw, .int .i64 ms, .int .i64 mc, .bool mi, .bool mt] 44)).alloc (.cells #[.int .i64 p, .int .i64 t] 46)) (w.heap.size) 29 #[.int .i64 M.places, .int .i64 M.any.a0, .int .i64 M.any.a1, .int .i64 M.any.a2, .int .i64 M.any.a3, .int .i64 M.any.a4, .int .i64 M.any.a5, .bool M.any.i, .bool M.any.s, .int .i64 M.mw, .int .i64 M.ms, .int .i64 M.mc, vF, vS] := (by repeat (first | (refine Blk.newAt _ _ _ ?_; first | rfl | (simp; done)) | refine Blk.alloc ?_ _))
    have bHK : Blk (((w.alloc (.cells #[.int .i64 M.places, .int .i64 M.any.a0, .int .i64 M.any.a1, .int .i64 M.any.a2, .int .i64 M.any.a3, .int .i64 M.any.a4, .int .i64 M.any.a5, .bool M.any.i, .bool M.any.s, .int .i64 M.mw, .int .i64 M.ms, .int .i64 M.mc, vF, vS] 29)).alloc (.cells #[.int .i64 lw, .int .i64 ls, .int .i64 lc, .bool li, .bool lt, .int .i64 mw, .int .i64 ms, .int .i64 mc, .bool mi, .bool mt] 44)).alloc (.cells #[.int .i64 p, .int .i64 t] 46)) (w.heap.size + 1) 44 #[.int .i64 lw, .int .i64 ls, .int .i64 lc, .bool li, .bool lt, .int .i64 mw, .int .i64 ms, .int .i64 mc, .bool mi, .bool mt] := (by repeat (first | (refine Blk.newAt _ _ _ ?_; first | rfl | (simp; done)) | refine Blk.alloc ?_ _))
    have bHP : Blk (((w.alloc (.cells #[.int .i64 M.places, .int .i64 M.any.a0, .int .i64 M.any.a1, .int .i64 M.any.a2, .int .i64 M.any.a3, .int .i64 M.any.a4, .int .i64 M.any.a5, .bool M.any.i, .bool M.any.s, .int .i64 M.mw, .int .i64 M.ms, .int .i64 M.mc, vF, vS] 29)).alloc (.cells #[.int .i64 lw, .int .i64 ls, .int .i64 lc, .bool li, .bool lt, .int .i64 mw, .int .i64 ms, .int .i64 mc, .bool mi, .bool mt] 44)).alloc (.cells #[.int .i64 p, .int .i64 t] 46)) (w.heap.size + 1 + 1) 46 #[.int .i64 p, .int .i64 t] := (by repeat (first | (refine Blk.newAt _ _ _ ?_; first | rfl | (simp; done)) | refine Blk.alloc ?_ _))
    have bHB : Below w.heap.size w (((w.alloc (.cells #[.int .i64 M.places, .int .i64 M.any.a0, .int .i64 M.any.a1, .int .i64 M.any.a2, .int .i64 M.any.a3, .int .i64 M.any.a4, .int .i64 M.any.a5, .bool M.any.i, .bool M.any.s, .int .i64 M.mw, .int .i64 M.ms, .int .i64 M.mc, vF, vS] 29)).alloc (.cells #[.int .i64 lw, .int .i64 ls, .int .i64 lc, .bool li, .bool lt, .int .i64 mw, .int .i64 ms, .int .i64 mc, .bool mi, .bool mt] 44)).alloc (.cells #[.int .i64 p, .int .i64 t] 46)) := (by repeat' (first | exact Below.refl _ _ | assumption | refine Below.drew ?_ | refine bdn ?_ _ | refine bal ?_ _ | refine Below.setCell ?_ (by first | (simp; done) | omega | (simp; omega)) _))
    generalize (((w.alloc (.cells #[.int .i64 M.places, .int .i64 M.any.a0, .int .i64 M.any.a1, .int .i64 M.any.a2, .int .i64 M.any.a3, .int .i64 M.any.a4, .int .i64 M.any.a5, .bool M.any.i, .bool M.any.s, .int .i64 M.mw, .int .i64 M.ms, .int .i64 M.mc, vF, vS] 29)).alloc (.cells #[.int .i64 lw, .int .i64 ls, .int .i64 lc, .bool li, .bool lt, .int .i64 mw, .int .i64 ms, .int .i64 mc, .bool mi, .bool mt] 44)).alloc (.cells #[.int .i64 p, .int .i64 t] 46)) = W at *
    have zW := bHP.lt
    have HX := Lib.hid bHX
    have HK := Lib.hid bHK
    have HP := Lib.hid bHP
    have HB := Lib.hid bHB
    clear bHX bHK bHP bHB
    go_wp2_with (first | (refine wpl_row rfl 29 _ rfl _ rfl #[.int .i64 M.places, .int .i64 M.any.a0, .int .i64 M.any.a1, .int .i64 M.any.a2, .int .i64 M.any.a3, .int .i64 M.any.a4, .int .i64 M.any.a5, .bool M.any.i, .bool M.any.s, .int .i64 M.mw, .int .i64 M.ms, .int .i64 M.mc, vF, vS] 14 HX.out Try.rowMet rfl ?_; simp only [Act.put]) | (go_at_call 8; (with_reducible refine (HFR.out _ (HA.out.below HB.out)).mono ?_); rintro e w1 ⟨rfl, hb1⟩; have nHX := Lib.hid (HX.out.below hb1); have nHK := Lib.hid (HK.out.below hb1); have nHP := Lib.hid (HP.out.below hb1); have nHB := Lib.hid (bthen HB.out hb1); have zz1 := hb1.size; clear HX HK HP HB hb1; have HX := nHX; have HK := nHK; have HP := nHP; have HB := nHB; clear nHX nHK nHP nHB) | (go_at_call 9; (with_reducible refine (wworks_c _).mono ?_); rintro e w1 ⟨rfl, hb1⟩; have nHX := Lib.hid (HX.out.below hb1); have nHK := Lib.hid (HK.out.below hb1); have nHP := Lib.hid (HP.out.below hb1); have nHB := Lib.hid (bthen HB.out hb1); have zz1 := hb1.size; clear HX HK HP HB hb1; have HX := nHX; have HK := nHK; have HP := nHP; have HB := nHB; clear nHX nHK nHP nHB))
    go_ret
    exact ⟨rfl, HB.out⟩
-- end
end Go.Proofs.Ytfcjblnebaemgaa
