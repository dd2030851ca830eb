/- Contract: First of package weather. -/
import Derived.Test.YtfcjblnebaemgaaGreatWeR
set_option linter.all false
namespace Go.Proofs.YtfcjblnebaemgaaGreat
open Go Go.RowKit Go.Proofs
set_option maxRecDepth 100000
set_option maxHeartbeats 8000000

/-- From tick t on, with so many open ticks behind: the first tick of the stay, or error 3. -/
def firR (op : Int → Bool) (stay : Int) : Nat → Int → Int → Int × Int
  | 0, _, _ => (0, 3)
  | k + 1, t, c => if stay < (if op t then c + 1 else 0) then (t - stay, 0) else firR op stay k (t + 1) (if op t then c + 1 else 0)
def firV (M : MetD) (lw ls lc : Int) (li lt : Bool) (p f stay : Int) : Int × Int :=
  if opE M lw ls lc p f = 0 then (if inB stay 0 2000 then firR (fun t => openB (M.may p t) lw ls lc li lt) stay (2001 - f).toNat f 0 else (0, 1)) else (0, opE M lw ls lc p f)
/-- What the loop keeps. -/
structure FiK (M : MetD) (vF vS : Value) (lw ls lc : Int) (li lt : Bool) (w wr : World) : Prop where
  b : Below w.heap.size w wr
  m : Blk wr w.heap.size 29 #[.int .i64 M.places, .int .i64 M.any.a0, .int .i64 M.any.a1, .int .i64 M.any.a2, .int .i64 M.any.a3, .int .i64 M.any.a4, .int .i64 M.any.a5, .bool M.any.i, .bool M.any.s, .int .i64 M.mw, .int .i64 M.ms, .int .i64 M.mc, vF, vS]
  l : Blk wr (w.heap.size + 1) 31 #[.int .i64 lw, .int .i64 ls, .int .i64 lc, .bool li, .bool lt]
theorem FiK.grow {M : MetD} {vF vS : Value} {lw ls lc : Int} {li lt : Bool} {w wr w2 : World} (h : FiK M vF vS lw ls lc li lt w wr) (hb : Below wr.heap.size wr w2) : FiK M vF vS lw ls lc li lt w w2 :=
  ⟨bthen h.b hb, h.m.below hb, h.l.below hb⟩
theorem wFirst_c (M : MetD) (vF vS : Value) (lw ls lc : Int) (li lt : Bool) (p f stay : Int) (w : World) (hA : MetAt w vF vS M) :
   Calls Tryz.prog 16 #[.agg #[.int .i64 M.places, .int .i64 M.any.a0, .int .i64 M.any.a1, .int .i64 M.any.a2, .int .i64 M.any.a3, .int .i64 M.any.a4, .int .i64 M.any.a5, .bool M.any.i, .bool M.any.s, .int .i64 M.mw, .int .i64 M.ms, .int .i64 M.mc, vF, vS], .agg #[.int .i64 lw, .int .i64 ls, .int .i64 lc, .bool li, .bool lt], .int .i64 p, .int .i64 f, .int .i64 stay] w fun e w' => e = .returned (.tuple #[.int .i64 (firV M lw ls lc li lt p f stay).1, .int .i64 (firV M lw ls lc li lt p f stay).2]) ∧ Below w.heap.size w w' := by
  have HA := Lib.hid hA
  have hco := fun w1 h => wcheckOpen_c M vF vS lw ls lc li lt p f w1 h
  clear hA
  unfold firV
  by_cases he : opE M lw ls lc p f = 0
  · obtain ⟨hM, hf0, hf1⟩ := opE_ok he
    rw [if_pos he]
    rw [he] at hco
    have HCO := Lib.hid hco
    clear hco he
    cases hs : inB stay 0 2000
    · rw [if_neg (by decide)]
      clear hM
      go_enter Tryz.func16, Tryz.ntmps16
      go_wp2_with (first | (refine wpl_row rfl 29 _ rfl _ rfl #[.int .i64 M.places, .int .i64 M.any.a0, .int .i64 M.any.a1, .int .i64 M.any.a2, .int .i64 M.any.a3, .int .i64 M.any.a4, .int .i64 M.any.a5, .bool M.any.i, .bool M.any.s, .int .i64 M.mw, .int .i64 M.ms, .int .i64 M.mc, vF, vS] 14 ?_ Tryz.rowMet rfl ?_; (focus exact (by repeat (first | (refine Blk.newAt _ _ _ ?_; first | rfl | (simp; done)) | refine Blk.alloc ?_ _))); simp only [Act.put]) | (refine wpl_row rfl 31 _ rfl _ rfl #[.int .i64 lw, .int .i64 ls, .int .i64 lc, .bool li, .bool lt] 5 ?_ Tryz.rowMin rfl ?_; (focus exact (by repeat (first | (refine Blk.newAt _ _ _ ?_; first | rfl | (simp; done)) | refine Blk.alloc ?_ _))); simp only [Act.put]))
      have bHX : Blk ((w.alloc (.cells #[.int .i64 M.places, .int .i64 M.any.a0, .int .i64 M.any.a1, .int .i64 M.any.a2, .int .i64 M.any.a3, .int .i64 M.any.a4, .int .i64 M.any.a5, .bool M.any.i, .bool M.any.s, .int .i64 M.mw, .int .i64 M.ms, .int .i64 M.mc, vF, vS] 29)).alloc (.cells #[.int .i64 lw, .int .i64 ls, .int .i64 lc, .bool li, .bool lt] 31)) (w.heap.size) 29 #[.int .i64 M.places, .int .i64 M.any.a0, .int .i64 M.any.a1, .int .i64 M.any.a2, .int .i64 M.any.a3, .int .i64 M.any.a4, .int .i64 M.any.a5, .bool M.any.i, .bool M.any.s, .int .i64 M.mw, .int .i64 M.ms, .int .i64 M.mc, vF, vS] := (by repeat (first | (refine Blk.newAt _ _ _ ?_; first | rfl | (simp; done)) | refine Blk.alloc ?_ _))
      have bHL : Blk ((w.alloc (.cells #[.int .i64 M.places, .int .i64 M.any.a0, .int .i64 M.any.a1, .int .i64 M.any.a2, .int .i64 M.any.a3, .int .i64 M.any.a4, .int .i64 M.any.a5, .bool M.any.i, .bool M.any.s, .int .i64 M.mw, .int .i64 M.ms, .int .i64 M.mc, vF, vS] 29)).alloc (.cells #[.int .i64 lw, .int .i64 ls, .int .i64 lc, .bool li, .bool lt] 31)) (w.heap.size + 1) 31 #[.int .i64 lw, .int .i64 ls, .int .i64 lc, .bool li, .bool lt] := (by repeat (first | (refine Blk.newAt _ _ _ ?_; first | rfl | (simp; done)) | refine Blk.alloc ?_ _))
      have bHB : Below w.heap.size w ((w.alloc (.cells #[.int .i64 M.places, .int .i64 M.any.a0, .int .i64 M.any.a1, .int .i64 M.any.a2, .int .i64 M.any.a3, .int .i64 M.any.a4, .int .i64 M.any.a5, .bool M.any.i, .bool M.any.s, .int .i64 M.mw, .int .i64 M.ms, .int .i64 M.mc, vF, vS] 29)).alloc (.cells #[.int .i64 lw, .int .i64 ls, .int .i64 lc, .bool li, .bool lt] 31)) := (by repeat' (first | exact Below.refl _ _ | assumption | refine Below.drew ?_ | refine bdn ?_ _ | refine bal ?_ _ | refine Below.setCell ?_ (by first | (simp; done) | omega | (simp; omega)) _))
      generalize ((w.alloc (.cells #[.int .i64 M.places, .int .i64 M.any.a0, .int .i64 M.any.a1, .int .i64 M.any.a2, .int .i64 M.any.a3, .int .i64 M.any.a4, .int .i64 M.any.a5, .bool M.any.i, .bool M.any.s, .int .i64 M.mw, .int .i64 M.ms, .int .i64 M.mc, vF, vS] 29)).alloc (.cells #[.int .i64 lw, .int .i64 ls, .int .i64 lc, .bool li, .bool lt] 31)) = W at *
      have zW := bHL.lt
      have HX := Lib.hid bHX
      have HL := Lib.hid bHL
      have HB := Lib.hid bHB
      clear bHX bHL bHB
      go_wp2_with (first | (go_at_call 18; (with_reducible refine (HCO.out _ (HA.out.below HB.out)).mono ?_); rintro e w1 ⟨rfl, hb1⟩; have nHX := Lib.hid (HX.out.below hb1); have nHL := Lib.hid (HL.out.below hb1); have nHB := Lib.hid (bthen HB.out hb1); have zz1 := hb1.size; clear HX HL HB hb1; have HX := nHX; have HL := nHL; have HB := nHB; clear nHX nHL nHB) | (go_at_call 41; (with_reducible refine (wwithin_c _ _ _ _).mono ?_); rintro e w1 ⟨rfl, rfl⟩))
      go_ret2
      exact ⟨rfl, HB.out⟩
    · rw [if_pos rfl]
      have hst := inB_iff.1 hs
      have hst1 := hst.1
      have hst2 := hst.2
      have HOP := Lib.hid (fun t w1 h ht0 ht1 => wopen_c M vF vS lw ls lc li lt p t w1 hM h ht0 ht1)
      generalize hop : (fun t => openB (M.may p t) lw ls lc li lt) = op
      have HO := Lib.hid (show ∀ t, openB (M.may p t) lw ls lc li lt = op t from fun t => by rw [← hop])
      clear hop hM hst
      obtain ⟨R, hR⟩ : ∃ q, q = firR op stay (2001 - f).toNat f 0 := ⟨_, rfl⟩
      rw [← hR]
      have HR := Lib.hid hR
      clear hR
      go_enter Tryz.func16, Tryz.ntmps16
      go_wp2_with (first | (refine wpl_row rfl 29 _ rfl _ rfl #[.int .i64 M.places, .int .i64 M.any.a0, .int .i64 M.any.a1, .int .i64 M.any.a2, .int .i64 M.any.a3, .int .i64 M.any.a4, .int .i64 M.any.a5, .bool M.any.i, .bool M.any.s, .int .i64 M.mw, .int .i64 M.ms, .int .i64 M.mc, vF, vS] 14 ?_ Tryz.rowMet rfl ?_; (focus exact (by repeat (first | (refine Blk.newAt _ _ _ ?_; first | rfl | (simp; done)) | refine Blk.alloc ?_ _))); simp only [Act.put]) | (refine wpl_row rfl 31 _ rfl _ rfl #[.int .i64 lw, .int .i64 ls, .int .i64 lc, .bool li, .bool lt] 5 ?_ Tryz.rowMin rfl ?_; (focus exact (by repeat (first | (refine Blk.newAt _ _ _ ?_; first | rfl | (simp; done)) | refine Blk.alloc ?_ _))); simp only [Act.put]))
      have bHX : Blk ((w.alloc (.cells #[.int .i64 M.places, .int .i64 M.any.a0, .int .i64 M.any.a1, .int .i64 M.any.a2, .int .i64 M.any.a3, .int .i64 M.any.a4, .int .i64 M.any.a5, .bool M.any.i, .bool M.any.s, .int .i64 M.mw, .int .i64 M.ms, .int .i64 M.mc, vF, vS] 29)).alloc (.cells #[.int .i64 lw, .int .i64 ls, .int .i64 lc, .bool li, .bool lt] 31)) (w.heap.size) 29 #[.int .i64 M.places, .int .i64 M.any.a0, .int .i64 M.any.a1, .int .i64 M.any.a2, .int .i64 M.any.a3, .int .i64 M.any.a4, .int .i64 M.any.a5, .bool M.any.i, .bool M.any.s, .int .i64 M.mw, .int .i64 M.ms, .int .i64 M.mc, vF, vS] := (by repeat (first | (refine Blk.newAt _ _ _ ?_; first | rfl | (simp; done)) | refine Blk.alloc ?_ _))
      have bHL : Blk ((w.alloc (.cells #[.int .i64 M.places, .int .i64 M.any.a0, .int .i64 M.any.a1, .int .i64 M.any.a2, .int .i64 M.any.a3, .int .i64 M.any.a4, .int .i64 M.any.a5, .bool M.any.i, .bool M.any.s, .int .i64 M.mw, .int .i64 M.ms, .int .i64 M.mc, vF, vS] 29)).alloc (.cells #[.int .i64 lw, .int .i64 ls, .int .i64 lc, .bool li, .bool lt] 31)) (w.heap.size + 1) 31 #[.int .i64 lw, .int .i64 ls, .int .i64 lc, .bool li, .bool lt] := (by repeat (first | (refine Blk.newAt _ _ _ ?_; first | rfl | (simp; done)) | refine Blk.alloc ?_ _))
      have bHB : Below w.heap.size w ((w.alloc (.cells #[.int .i64 M.places, .int .i64 M.any.a0, .int .i64 M.any.a1, .int .i64 M.any.a2, .int .i64 M.any.a3, .int .i64 M.any.a4, .int .i64 M.any.a5, .bool M.any.i, .bool M.any.s, .int .i64 M.mw, .int .i64 M.ms, .int .i64 M.mc, vF, vS] 29)).alloc (.cells #[.int .i64 lw, .int .i64 ls, .int .i64 lc, .bool li, .bool lt] 31)) := (by repeat' (first | exact Below.refl _ _ | assumption | refine Below.drew ?_ | refine bdn ?_ _ | refine bal ?_ _ | refine Below.setCell ?_ (by first | (simp; done) | omega | (simp; omega)) _))
      generalize ((w.alloc (.cells #[.int .i64 M.places, .int .i64 M.any.a0, .int .i64 M.any.a1, .int .i64 M.any.a2, .int .i64 M.any.a3, .int .i64 M.any.a4, .int .i64 M.any.a5, .bool M.any.i, .bool M.any.s, .int .i64 M.mw, .int .i64 M.ms, .int .i64 M.mc, vF, vS] 29)).alloc (.cells #[.int .i64 lw, .int .i64 ls, .int .i64 lc, .bool li, .bool lt] 31)) = W at *
      have zW := bHL.lt
      have HX := Lib.hid bHX
      have HL := Lib.hid bHL
      have HB := Lib.hid bHB
      clear bHX bHL bHB
      go_wp2_with (first | (go_at_call 18; (with_reducible refine (HCO.out _ (HA.out.below HB.out)).mono ?_); rintro e w1 ⟨rfl, hb1⟩; have nHX := Lib.hid (HX.out.below hb1); have nHL := Lib.hid (HL.out.below hb1); have nHB := Lib.hid (bthen HB.out hb1); have zz1 := hb1.size; clear HX HL HB hb1; have HX := nHX; have HL := nHL; have HB := nHB; clear nHX nHL nHB) | (go_at_call 41; (with_reducible refine (wwithin_c _ _ _ _).mono ?_); rintro e w1 ⟨rfl, rfl⟩))
      have K0 := Lib.hid (show FiK M vF vS lw ls lc li lt w _ from ⟨HB.out, HX.out, HL.out⟩)
      clear HX HL HB HCO
      go_loopg [13, 14] (2001 - f).toNat (fun gx c i wr => ∃ (cc tt : Int), c = .int .i64 cc ∧ i = .int .i64 tt ∧ 0 ≤ cc ∧ cc ≤ tt - f ∧ f ≤ tt ∧ tt ≤ 2001 ∧ (2001 - tt).toNat ≤ gx ∧ Hid (FiK M vF vS lw ls lc li lt w wr) ∧ Hid (firR op stay (2001 - tt).toNat tt cc = R))
      case atStart => exact ⟨0, f, rfl, rfl, by omega, by omega, by omega, by omega, Nat.le_refl _, K0, HR.out.symm⟩
      case round =>
        clear K0
        obtain ⟨cc, tt, rfl, rfl, hc0, hc1, ht1, ht2, hgx, K0, HE⟩ := hrel
        by_cases hle : tt ≤ 2000
        · have hop := HOP.out tt wr (HA.out.below K0.out.b) (by omega) hle
          rw [HO.out tt] at hop
          have hE := HE.out
          rw [show (2001 - tt).toNat = (2001 - (tt + 1)).toNat + 1 by omega] at hE
          unfold firR at hE
          cases ho : op tt
          · rw [ho] at hE hop
            rw [show (if false = true then cc + 1 else 0) = (0 : Int) from rfl, if_neg (by omega)] at hE
            have HE2 := Lib.hid hE
            clear hE HE ho
            have hst3 : ¬ stay < 0 := by omega
            go_wp2_with (first | (refine wpl_row rfl 29 _ rfl _ rfl #[.int .i64 M.places, .int .i64 M.any.a0, .int .i64 M.any.a1, .int .i64 M.any.a2, .int .i64 M.any.a3, .int .i64 M.any.a4, .int .i64 M.any.a5, .bool M.any.i, .bool M.any.s, .int .i64 M.mw, .int .i64 M.ms, .int .i64 M.mc, vF, vS] 14 K0.out.m Tryz.rowMet rfl ?_; simp only [Act.put]) | (refine wpl_row rfl 31 _ rfl _ rfl #[.int .i64 lw, .int .i64 ls, .int .i64 lc, .bool li, .bool lt] 5 K0.out.l Tryz.rowMin rfl ?_; simp only [Act.put]) | (go_at_call 19; refine hop.mono ?_; clear hop; rintro _ w2 ⟨rfl, hb2⟩))
            go_roundg (2001 - (tt + 1)).toNat
            case measure => omega
            case rel => exact ⟨0, tt + 1, rfl, by first | rfl | go_num | (congr 1; omega), by omega, by omega, by omega, by omega, Nat.le_refl _, K0.out.grow hb2, HE2⟩
          · rw [ho] at hE hop
            rw [show (if true = true then cc + 1 else 0) = cc + 1 from rfl] at hE
            by_cases hg : stay < cc + 1
            · rw [if_pos hg] at hE
              have HE2 := Lib.hid hE
              clear hE HE ho
              go_wp2_with (first | (refine wpl_row rfl 29 _ rfl _ rfl #[.int .i64 M.places, .int .i64 M.any.a0, .int .i64 M.any.a1, .int .i64 M.any.a2, .int .i64 M.any.a3, .int .i64 M.any.a4, .int .i64 M.any.a5, .bool M.any.i, .bool M.any.s, .int .i64 M.mw, .int .i64 M.ms, .int .i64 M.mc, vF, vS] 14 K0.out.m Tryz.rowMet rfl ?_; simp only [Act.put]) | (refine wpl_row rfl 31 _ rfl _ rfl #[.int .i64 lw, .int .i64 ls, .int .i64 lc, .bool li, .bool lt] 5 K0.out.l Tryz.rowMin rfl ?_; simp only [Act.put]) | (go_at_call 19; refine hop.mono ?_; clear hop; rintro _ w2 ⟨rfl, hb2⟩))
              go_ret2
              exact ⟨by rw [← HE2.out]; rfl, bthen K0.out.b hb2⟩
            · rw [if_neg hg] at hE
              have HE2 := Lib.hid hE
              clear hE HE ho
              go_wp2_with (first | (refine wpl_row rfl 29 _ rfl _ rfl #[.int .i64 M.places, .int .i64 M.any.a0, .int .i64 M.any.a1, .int .i64 M.any.a2, .int .i64 M.any.a3, .int .i64 M.any.a4, .int .i64 M.any.a5, .bool M.any.i, .bool M.any.s, .int .i64 M.mw, .int .i64 M.ms, .int .i64 M.mc, vF, vS] 14 K0.out.m Tryz.rowMet rfl ?_; simp only [Act.put]) | (refine wpl_row rfl 31 _ rfl _ rfl #[.int .i64 lw, .int .i64 ls, .int .i64 lc, .bool li, .bool lt] 5 K0.out.l Tryz.rowMin rfl ?_; simp only [Act.put]) | (go_at_call 19; refine hop.mono ?_; clear hop; rintro _ w2 ⟨rfl, hb2⟩))
              go_roundg (2001 - (tt + 1)).toNat
              case measure => omega
              case rel => exact ⟨cc + 1, tt + 1, by first | rfl | go_num | (congr 1; omega), by first | rfl | go_num | (congr 1; omega), by omega, by omega, by omega, by omega, Nat.le_refl _, K0.out.grow hb2, HE2⟩
        · have hE := HE.out
          rw [show (2001 - tt).toNat = 0 by omega] at hE
          unfold firR at hE
          have HE2 := Lib.hid hE
          clear hE HE
          have hle2 : 2000 < tt := by omega
          go_wp2_with (fail)
          go_ret2
          exact ⟨by rw [← HE2.out]; rfl, K0.out.b⟩
  · have hez : (opE M lw ls lc p f != 0) = true := by simpa using he
    rw [if_neg he]
    generalize opE M lw ls lc p f = E at *
    have HCO := Lib.hid hco
    clear hco he
    go_enter Tryz.func16, Tryz.ntmps16
    go_wp2_with (first | (refine wpl_row rfl 29 _ rfl _ rfl #[.int .i64 M.places, .int .i64 M.any.a0, .int .i64 M.any.a1, .int .i64 M.any.a2, .int .i64 M.any.a3, .int .i64 M.any.a4, .int .i64 M.any.a5, .bool M.any.i, .bool M.any.s, .int .i64 M.mw, .int .i64 M.ms, .int .i64 M.mc, vF, vS] 14 ?_ Tryz.rowMet rfl ?_; (focus exact (by repeat (first | (refine Blk.newAt _ _ _ ?_; first | rfl | (simp; done)) | refine Blk.alloc ?_ _))); simp only [Act.put]) | (refine wpl_row rfl 31 _ rfl _ rfl #[.int .i64 lw, .int .i64 ls, .int .i64 lc, .bool li, .bool lt] 5 ?_ Tryz.rowMin rfl ?_; (focus exact (by repeat (first | (refine Blk.newAt _ _ _ ?_; first | rfl | (simp; done)) | refine Blk.alloc ?_ _))); simp only [Act.put]))
    have bHX : Blk ((w.alloc (.cells #[.int .i64 M.places, .int .i64 M.any.a0, .int .i64 M.any.a1, .int .i64 M.any.a2, .int .i64 M.any.a3, .int .i64 M.any.a4, .int .i64 M.any.a5, .bool M.any.i, .bool M.any.s, .int .i64 M.mw, .int .i64 M.ms, .int .i64 M.mc, vF, vS] 29)).alloc (.cells #[.int .i64 lw, .int .i64 ls, .int .i64 lc, .bool li, .bool lt] 31)) (w.heap.size) 29 #[.int .i64 M.places, .int .i64 M.any.a0, .int .i64 M.any.a1, .int .i64 M.any.a2, .int .i64 M.any.a3, .int .i64 M.any.a4, .int .i64 M.any.a5, .bool M.any.i, .bool M.any.s, .int .i64 M.mw, .int .i64 M.ms, .int .i64 M.mc, vF, vS] := (by repeat (first | (refine Blk.newAt _ _ _ ?_; first | rfl | (simp; done)) | refine Blk.alloc ?_ _))
    have bHL : Blk ((w.alloc (.cells #[.int .i64 M.places, .int .i64 M.any.a0, .int .i64 M.any.a1, .int .i64 M.any.a2, .int .i64 M.any.a3, .int .i64 M.any.a4, .int .i64 M.any.a5, .bool M.any.i, .bool M.any.s, .int .i64 M.mw, .int .i64 M.ms, .int .i64 M.mc, vF, vS] 29)).alloc (.cells #[.int .i64 lw, .int .i64 ls, .int .i64 lc, .bool li, .bool lt] 31)) (w.heap.size + 1) 31 #[.int .i64 lw, .int .i64 ls, .int .i64 lc, .bool li, .bool lt] := (by repeat (first | (refine Blk.newAt _ _ _ ?_; first | rfl | (simp; done)) | refine Blk.alloc ?_ _))
    have bHB : Below w.heap.size w ((w.alloc (.cells #[.int .i64 M.places, .int .i64 M.any.a0, .int .i64 M.any.a1, .int .i64 M.any.a2, .int .i64 M.any.a3, .int .i64 M.any.a4, .int .i64 M.any.a5, .bool M.any.i, .bool M.any.s, .int .i64 M.mw, .int .i64 M.ms, .int .i64 M.mc, vF, vS] 29)).alloc (.cells #[.int .i64 lw, .int .i64 ls, .int .i64 lc, .bool li, .bool lt] 31)) := (by repeat' (first | exact Below.refl _ _ | assumption | refine Below.drew ?_ | refine bdn ?_ _ | refine bal ?_ _ | refine Below.setCell ?_ (by first | (simp; done) | omega | (simp; omega)) _))
    generalize ((w.alloc (.cells #[.int .i64 M.places, .int .i64 M.any.a0, .int .i64 M.any.a1, .int .i64 M.any.a2, .int .i64 M.any.a3, .int .i64 M.any.a4, .int .i64 M.any.a5, .bool M.any.i, .bool M.any.s, .int .i64 M.mw, .int .i64 M.ms, .int .i64 M.mc, vF, vS] 29)).alloc (.cells #[.int .i64 lw, .int .i64 ls, .int .i64 lc, .bool li, .bool lt] 31)) = W at *
    have zW := bHL.lt
    have HX := Lib.hid bHX
    have HL := Lib.hid bHL
    have HB := Lib.hid bHB
    clear bHX bHL bHB
    go_wp2_with (first | (go_at_call 18; (with_reducible refine (HCO.out _ (HA.out.below HB.out)).mono ?_); rintro e w1 ⟨rfl, hb1⟩; have nHX := Lib.hid (HX.out.below hb1); have nHL := Lib.hid (HL.out.below hb1); have nHB := Lib.hid (bthen HB.out hb1); have zz1 := hb1.size; clear HX HL HB hb1; have HX := nHX; have HL := nHL; have HB := nHB; clear nHX nHL nHB) | (go_at_call 41; (with_reducible refine (wwithin_c _ _ _ _).mono ?_); rintro e w1 ⟨rfl, rfl⟩))
    go_ret2
    exact ⟨rfl, HB.out⟩
end Go.Proofs.YtfcjblnebaemgaaGreat
