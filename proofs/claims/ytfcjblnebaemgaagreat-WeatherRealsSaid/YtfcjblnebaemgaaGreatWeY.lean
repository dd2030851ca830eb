/- Contract: Windows of package weather, the walk. -/
import Derived.Test.YtfcjblnebaemgaaGreatWeX
set_option linter.all false
namespace Go.Proofs.YtfcjblnebaemgaaGreat
open Go Go.RowKit Go.Proofs
set_option maxRecDepth 100000
set_option maxHeartbeats 8000000

theorem wWindows_c (M : MetD) (vF vS : Value) (lw ls lc : Int) (li lt : Bool) (p f u : Int) (w : World) (hA : MetAt w vF vS M) :
   Calls Tryz.prog 15 #[.agg #[.int .i64 M.places, .int .i64 M.any.a0, .int .i64 M.any.a1, .int .i64 M.any.a2, .int .i64 M.any.a3, .int .i64 M.any.a4, .int .i64 M.any.a5, .bool M.any.i, .bool M.any.s, .int .i64 M.mw, .int .i64 M.ms, .int .i64 M.mc, vF, vS], .agg #[.int .i64 lw, .int .i64 ls, .int .i64 lc, .bool li, .bool lt], .int .i64 p, .int .i64 f, .int .i64 u] w fun e w' => ∃ v, e = .returned (.tuple #[v, .int .i64 (cwE M lw ls lc f u p)]) ∧ Below w.heap.size w w' ∧
     (cwE M lw ls lc f u p ≠ 0 → v = .slice none 0 0) ∧ (cwE M lw ls lc f u p = 0 → w'.ownsRow w.heap.size 23 2 v (winR (fun t => openB (M.may p t) lw ls lc li lt) (u - f).toNat f []).length (spC (winR (fun t => openB (M.may p t) lw ls lc li lt) (u - f).toNat f []))) := by
  have HA := Lib.hid hA
  have hcw := fun b c w1 h hq => wcheckWindow_c M vF vS lw ls lc li lt f u p b c w1 h hq
  clear hA
  by_cases he : cwE M lw ls lc f u p = 0
  · have hcz := he
    unfold cwE at hcz
    have hme : minE M lw ls lc = 0 := by
      by_cases h : minE M lw ls lc = 0
      · exact h
      · rw [if_neg h] at hcz; exact absurd hcz h
    rw [if_pos hme] at hcz
    have hM := MetD.ok_of (minE_bad hme)
    have hrg : righB M.places 0 f u = true := by
      cases h : righB M.places 0 f u
      · rw [h] at hcz; cases hcz
      · rfl
    unfold righB at hrg
    simp only [Bool.and_eq_true, decide_eq_true_eq, inB_iff] at hrg
    obtain ⟨-, ⟨hf0, -⟩, hu2⟩ := hrg
    have HOP := Lib.hid (fun t w1 h ht0 ht1 => wopen_c M vF vS lw ls lc li lt p t w1 hM h ht0 ht1)
    generalize hop : (fun t => openB (M.may p t) lw ls lc li lt) = op
    have HO := Lib.hid (show ∀ t, openB (M.may p t) lw ls lc li lt = op t from fun t => by rw [← hop])
    rw [he] at hcw ⊢
    have HCW := Lib.hid hcw
    obtain ⟨R, hR⟩ : ∃ q, q = winR op (u - f).toNat f [] := ⟨_, rfl⟩
    rw [← hR]
    have HR := Lib.hid hR
    clear hR hop hM hcz hme he hcw
    go_enter Tryz.func15, Tryz.ntmps15
    go_wp2_with (first | (refine wpl_row rfl 29 _ rfl _ rfl #[.int .i64 M.places, .int .i64 M.any.a0, .int .i64 M.any.a1, .int .i64 M.any.a2, .int .i64 M.any.a3, .int .i64 M.any.a4, .int .i64 M.any.a5, .bool M.any.i, .bool M.any.s, .int .i64 M.mw, .int .i64 M.ms, .int .i64 M.mc, vF, vS] 14 ?_ Tryz.rowMet rfl ?_; (focus exact (by repeat (first | (refine Blk.newAt _ _ _ ?_; first | rfl | (simp; done)) | refine Blk.alloc ?_ _))); simp only [Act.put]) | (refine wpl_row rfl 31 _ rfl _ rfl #[.int .i64 lw, .int .i64 ls, .int .i64 lc, .bool li, .bool lt] 5 ?_ Tryz.rowMin rfl ?_; (focus exact (by repeat (first | (refine Blk.newAt _ _ _ ?_; first | rfl | (simp; done)) | refine Blk.alloc ?_ _))); simp only [Act.put]))
    have bHX : Blk (((w.alloc (.cells #[.int .i64 M.places, .int .i64 M.any.a0, .int .i64 M.any.a1, .int .i64 M.any.a2, .int .i64 M.any.a3, .int .i64 M.any.a4, .int .i64 M.any.a5, .bool M.any.i, .bool M.any.s, .int .i64 M.mw, .int .i64 M.ms, .int .i64 M.mc, vF, vS] 29)).alloc (.cells #[.int .i64 lw, .int .i64 ls, .int .i64 lc, .bool li, .bool lt] 31)).alloc (.cells #[.int .i64 p] 3)) (w.heap.size) 29 #[.int .i64 M.places, .int .i64 M.any.a0, .int .i64 M.any.a1, .int .i64 M.any.a2, .int .i64 M.any.a3, .int .i64 M.any.a4, .int .i64 M.any.a5, .bool M.any.i, .bool M.any.s, .int .i64 M.mw, .int .i64 M.ms, .int .i64 M.mc, vF, vS] := (by repeat (first | (refine Blk.newAt _ _ _ ?_; first | rfl | (simp; done)) | refine Blk.alloc ?_ _))
    have bHL : Blk (((w.alloc (.cells #[.int .i64 M.places, .int .i64 M.any.a0, .int .i64 M.any.a1, .int .i64 M.any.a2, .int .i64 M.any.a3, .int .i64 M.any.a4, .int .i64 M.any.a5, .bool M.any.i, .bool M.any.s, .int .i64 M.mw, .int .i64 M.ms, .int .i64 M.mc, vF, vS] 29)).alloc (.cells #[.int .i64 lw, .int .i64 ls, .int .i64 lc, .bool li, .bool lt] 31)).alloc (.cells #[.int .i64 p] 3)) (w.heap.size + 1) 31 #[.int .i64 lw, .int .i64 ls, .int .i64 lc, .bool li, .bool lt] := (by repeat (first | (refine Blk.newAt _ _ _ ?_; first | rfl | (simp; done)) | refine Blk.alloc ?_ _))
    have bHV : Blk (((w.alloc (.cells #[.int .i64 M.places, .int .i64 M.any.a0, .int .i64 M.any.a1, .int .i64 M.any.a2, .int .i64 M.any.a3, .int .i64 M.any.a4, .int .i64 M.any.a5, .bool M.any.i, .bool M.any.s, .int .i64 M.mw, .int .i64 M.ms, .int .i64 M.mc, vF, vS] 29)).alloc (.cells #[.int .i64 lw, .int .i64 ls, .int .i64 lc, .bool li, .bool lt] 31)).alloc (.cells #[.int .i64 p] 3)) (w.heap.size + 1 + 1) 3 #[.int .i64 p] := (by repeat (first | (refine Blk.newAt _ _ _ ?_; first | rfl | (simp; done)) | refine Blk.alloc ?_ _))
    have bHB : Below w.heap.size w (((w.alloc (.cells #[.int .i64 M.places, .int .i64 M.any.a0, .int .i64 M.any.a1, .int .i64 M.any.a2, .int .i64 M.any.a3, .int .i64 M.any.a4, .int .i64 M.any.a5, .bool M.any.i, .bool M.any.s, .int .i64 M.mw, .int .i64 M.ms, .int .i64 M.mc, vF, vS] 29)).alloc (.cells #[.int .i64 lw, .int .i64 ls, .int .i64 lc, .bool li, .bool lt] 31)).alloc (.cells #[.int .i64 p] 3)) := (by repeat' (first | exact Below.refl _ _ | assumption | refine Below.drew ?_ | refine bdn ?_ _ | refine bal ?_ _ | refine Below.setCell ?_ (by first | (simp; done) | omega | (simp; omega)) _))
    generalize (((w.alloc (.cells #[.int .i64 M.places, .int .i64 M.any.a0, .int .i64 M.any.a1, .int .i64 M.any.a2, .int .i64 M.any.a3, .int .i64 M.any.a4, .int .i64 M.any.a5, .bool M.any.i, .bool M.any.s, .int .i64 M.mw, .int .i64 M.ms, .int .i64 M.mc, vF, vS] 29)).alloc (.cells #[.int .i64 lw, .int .i64 ls, .int .i64 lc, .bool li, .bool lt] 31)).alloc (.cells #[.int .i64 p] 3)) = W at *
    have zW := bHV.lt
    have HX := Lib.hid bHX
    have HL := Lib.hid bHL
    have HV := Lib.hid bHV
    have HB := Lib.hid bHB
    clear bHX bHL bHV bHB
    refine (HCW.out _ _ _ (HA.out.below HB.out) (HV.out.cell 0)).mono ?_
    rintro _ w1 ⟨rfl, hb1⟩
    have nHX := Lib.hid (HX.out.below hb1)
    have nHL := Lib.hid (HL.out.below hb1)
    have nHB := Lib.hid (bthen HB.out hb1)
    clear HX HL HB hb1
    have HX := nHX
    have HL := nHL
    have HB := nHB
    clear nHX nHL nHB
    clear HV
    have K0 := Lib.hid (show WiK M vF vS lw ls lc li lt w [] (.slice none 0 0) w1 from ⟨⟨HB.out, HX.out, HL.out⟩, World.ownsRow_nil _ _ _ _, by simp, HL.out.lt⟩)
    clear HX HL HB HCW
    go_wp2_with (fail)
    go_loopg [10, 13] (u - f).toNat (fun gx v i wr => ∃ (tt : Int) (l : List (Int × Int)), i = .int .i64 tt ∧ f ≤ tt ∧ (l.length : Int) ≤ tt - f ∧ (u - tt).toNat ≤ gx ∧ Hid (WiK M vF vS lw ls lc li lt w l v wr) ∧ Hid (winR op (u - tt).toNat tt l = R))
    case atStart => exact ⟨f, [], rfl, Int.le_refl _, by simp, Nat.le_refl _, K0, HR.out.symm⟩
    case round =>
      clear K0
      obtain ⟨tt, l, rfl, hft, hlen, hgx, K0, HE⟩ := hrel
      by_cases hlt : tt < u
      · have hop := HOP.out tt wr (HA.out.below K0.out.k.b) (by omega) (by omega)
        rw [HO.out tt] at hop
        have hE := HE.out
        rw [show (u - tt).toNat = (u - (tt + 1)).toNat + 1 by omega] at hE
        unfold winR at hE
        cases ho : op tt
        · rw [ho] at hE hop
          rw [show (if false = true then winA l tt else l) = l from rfl] at hE
          have HE2 := Lib.hid hE
          clear hE HE ho
          obtain ⟨A, c, rfl⟩ : ∃ A c, u10 = .slice A l.length c := by
            rcases K0.out.o.2 with ⟨e, h0⟩ | ⟨g, cap, cur, e, -⟩
            · exact ⟨none, 0, by rw [e, h0]⟩
            · exact ⟨_, _, e⟩
          go_wp2_with (first | (refine wpl_row rfl 29 _ rfl _ rfl #[.int .i64 M.places, .int .i64 M.any.a0, .int .i64 M.any.a1, .int .i64 M.any.a2, .int .i64 M.any.a3, .int .i64 M.any.a4, .int .i64 M.any.a5, .bool M.any.i, .bool M.any.s, .int .i64 M.mw, .int .i64 M.ms, .int .i64 M.mc, vF, vS] 14 K0.out.k.m Tryz.rowMet rfl ?_; simp only [Act.put]) | (refine wpl_row rfl 31 _ rfl _ rfl #[.int .i64 lw, .int .i64 ls, .int .i64 lc, .bool li, .bool lt] 5 K0.out.k.l Tryz.rowMin rfl ?_; simp only [Act.put]) | (go_at_call 19; refine hop.mono ?_; clear hop; rintro _ w2 ⟨rfl, hb2⟩))
          go_roundg (u - (tt + 1)).toNat
          case measure => omega
          case rel => exact ⟨tt + 1, l, by first | rfl | go_num | (congr 1; omega), by omega, by omega, Nat.le_refl _, K0.out.grow hb2, HE2⟩
        · rw [ho] at hE hop
          rw [show (if true = true then winA l tt else l) = winA l tt from rfl] at hE
          clear ho HE
          rcases List.eq_nil_or_concat l with hl | ⟨l0, q, hl⟩
          · subst hl
            have HE2 := Lib.hid (show winR op (u - (tt + 1)).toNat (tt + 1) ([] ++ [(tt, tt)]) = R from hE)
            clear hE
            obtain rfl := K0.out.n.2 rfl
            go_wp2_with (first | (refine wpl_row rfl 29 _ rfl _ rfl #[.int .i64 M.places, .int .i64 M.any.a0, .int .i64 M.any.a1, .int .i64 M.any.a2, .int .i64 M.any.a3, .int .i64 M.any.a4, .int .i64 M.any.a5, .bool M.any.i, .bool M.any.s, .int .i64 M.mw, .int .i64 M.ms, .int .i64 M.mc, vF, vS] 14 K0.out.k.m Tryz.rowMet rfl ?_; simp only [Act.put]) | (refine wpl_row rfl 31 _ rfl _ rfl #[.int .i64 lw, .int .i64 ls, .int .i64 lc, .bool li, .bool lt] 5 K0.out.k.l Tryz.rowMin rfl ?_; simp only [Act.put]) | (go_at_call 19; refine hop.mono ?_; clear hop; rintro _ w2 ⟨rfl, hb2⟩) | (at_builtin; go_loud (refine wpl_appS rfl _ _ rfl (w.heap.size + 2) _ ([]) rfl ((K0.out.grow hb2).o.alloc _) _ (tt, tt) rfl ?a1 ?b1 (by simp) ?c1 ?_)))
            case c1 => simp; have := (K0.out.grow hb2).z; omega
            · intro v2 w3 O2 G2 N2
              have K2 := Lib.hid (((K0.out.grow hb2).grow (bal (Below.refl _ _) _)).take (p := (tt, tt)) (by simpa using O2) G2 N2)
              clear O2 G2 N2
              go_wp2
              go_roundg (u - (tt + 1)).toNat
              case measure => omega
              case rel => exact ⟨tt + 1, [] ++ [(tt, tt)], by first | rfl | go_num | (congr 1; omega), by omega, by simp; omega, Nat.le_refl _, K2, HE2⟩
          · rw [List.concat_eq_append] at hl
            subst hl
            rcases K0.out.o.2 with ⟨e, h0⟩ | ⟨g, cap, cur, rfl, -⟩
            · exact absurd (K0.out.n.1 e) (by simp)
            have hlen2 : (l0.length : Int) + 1 ≤ tt - f := by simpa using hlen
            have ek : winA (l0 ++ [q]) tt = if q.2 = tt - 1 then l0 ++ [(q.1, tt)] else l0 ++ [q] ++ [(tt, tt)] := by simp [winA]
            rw [ek] at hE
            clear ek
            have k1 := K0.out
            have hown := k1.o
            rw [List.length_append, List.length_singleton] at hown k1
            clear K0
            have K0 := Lib.hid k1
            clear k1
            have hcell : wr.cell? ⟨g, l0.length * 2 + 1, none⟩ = some (.int .i64 q.2) := by
              rw [show (⟨g, l0.length * 2 + 1, none⟩ : Addr) = ⟨g, l0.length * 2 + 1, none⟩ from rfl]
              have := hown.cellAt (g := g) (l0.length * 2 + 1) (by omega)
              rw [this, spC_snoc, List.getElem?_append_right (by rw [spC_length]; omega), spC_length, show l0.length * 2 + 1 - l0.length * 2 = 1 by omega]
              rfl
            have hgl := owns_lt hown (b := g) rfl
            have hfr : wr.frozen? ⟨g, l0.length * 2 + 1, none⟩ = false := by
              rcases hown.2 with ⟨e, -⟩ | ⟨g', cap', cur', e, -, hh, -⟩
              · cases e
              · simp only [Value.slice.injEq, Option.some.injEq, Addr.mk.injEq, and_true] at e
                obtain ⟨rfl, -, -⟩ := e
                exact (show Blk wr g 23 cur' from hh).frozen _
            have HCL := Lib.hid (fun w2 (hb : Below wr.heap.size wr w2) => (hb.cell (p := ⟨g, l0.length * 2 + 1, none⟩) hgl).trans hcell)
            have HFR := Lib.hid (fun w2 (hb : Below wr.heap.size wr w2) => (hb.frozen (p := ⟨g, l0.length * 2 + 1, none⟩) hgl).trans hfr)
            clear hown hcell hfr
            by_cases hq : q.2 = tt - 1
            · rw [if_pos hq] at hE
              have hqz : (q.2 == tt - 1) = true := by simp [hq]
              have HE2 := Lib.hid hE
              clear hE hq
              go_wp2_with (first | (refine wpl_row rfl 29 _ rfl _ rfl #[.int .i64 M.places, .int .i64 M.any.a0, .int .i64 M.any.a1, .int .i64 M.any.a2, .int .i64 M.any.a3, .int .i64 M.any.a4, .int .i64 M.any.a5, .bool M.any.i, .bool M.any.s, .int .i64 M.mw, .int .i64 M.ms, .int .i64 M.mc, vF, vS] 14 K0.out.k.m Tryz.rowMet rfl ?_; simp only [Act.put]) | (refine wpl_row rfl 31 _ rfl _ rfl #[.int .i64 lw, .int .i64 ls, .int .i64 lc, .bool li, .bool lt] 5 K0.out.k.l Tryz.rowMin rfl ?_; simp only [Act.put]) | (go_at_call 19; refine hop.mono ?_; clear hop; rintro _ w2 ⟨rfl, hb2⟩; have cc := HCL.out _ hb2; have ff := HFR.out _ hb2))
              have K2 := Lib.hid ((K0.out.grow hb2).widen tt)
              go_roundg (u - (tt + 1)).toNat
              case measure => omega
              case rel => exact ⟨tt + 1, l0 ++ [(q.1, tt)], by first | rfl | go_num | (congr 1; omega), by omega, by simp; omega, Nat.le_refl _, K2, HE2⟩
            · rw [if_neg hq] at hE
              have hqz : (q.2 == tt - 1) = false := by simp [hq]
              have HE2 := Lib.hid hE
              clear hE hq
              go_wp2_with (first | (refine wpl_row rfl 29 _ rfl _ rfl #[.int .i64 M.places, .int .i64 M.any.a0, .int .i64 M.any.a1, .int .i64 M.any.a2, .int .i64 M.any.a3, .int .i64 M.any.a4, .int .i64 M.any.a5, .bool M.any.i, .bool M.any.s, .int .i64 M.mw, .int .i64 M.ms, .int .i64 M.mc, vF, vS] 14 K0.out.k.m Tryz.rowMet rfl ?_; simp only [Act.put]) | (refine wpl_row rfl 31 _ rfl _ rfl #[.int .i64 lw, .int .i64 ls, .int .i64 lc, .bool li, .bool lt] 5 K0.out.k.l Tryz.rowMin rfl ?_; simp only [Act.put]) | (go_at_call 19; refine hop.mono ?_; clear hop; rintro _ w2 ⟨rfl, hb2⟩; have cc := HCL.out _ hb2) | (at_builtin; go_loud (refine wpl_appS rfl _ _ rfl (w.heap.size + 2) _ (l0 ++ [q]) rfl ((K0.out.grow hb2).o.alloc _) _ (tt, tt) rfl ?a2 ?b2 (by simp; omega) ?c2 ?_)))
              case c2 => simp; have := (K0.out.grow hb2).z; omega
              · intro v2 w3 O2 G2 N2
                have K2 := Lib.hid (((K0.out.grow hb2).grow (bal (Below.refl _ _) _)).take (p := (tt, tt)) (by simpa using O2) G2 N2)
                clear O2 G2 N2
                go_wp2
                go_roundg (u - (tt + 1)).toNat
                case measure => omega
                case rel => exact ⟨tt + 1, l0 ++ [q] ++ [(tt, tt)], by first | rfl | go_num | (congr 1; omega), by omega, by simp; omega, Nat.le_refl _, K2, HE2⟩
      · have hE := HE.out
        rw [show (u - tt).toNat = 0 by omega] at hE
        unfold winR at hE
        have HE2 := Lib.hid hE
        clear hE HE
        have hlt2 : u ≤ tt := by omega
        go_wp2_with (fail)
        go_ret2
        have hX := ownsRow_base K0.out.o (b2 := w.heap.size) (by omega)
        rw [HE2.out] at hX
        refine ⟨_, rfl, K0.out.k.b, ?_⟩
        first | exact hX | exact ⟨fun h => absurd rfl h, fun _ => hX⟩
  · have hez : (cwE M lw ls lc f u p != 0) = true := by simpa using he
    have HNE := Lib.hid he
    generalize cwE M lw ls lc f u p = E at *
    have HCW := Lib.hid hcw
    clear hcw he
    go_enter Tryz.func15, Tryz.ntmps15
    go_wp2_with (first | (refine wpl_row rfl 29 _ rfl _ rfl #[.int .i64 M.places, .int .i64 M.any.a0, .int .i64 M.any.a1, .int .i64 M.any.a2, .int .i64 M.any.a3, .int .i64 M.any.a4, .int .i64 M.any.a5, .bool M.any.i, .bool M.any.s, .int .i64 M.mw, .int .i64 M.ms, .int .i64 M.mc, vF, vS] 14 ?_ Tryz.rowMet rfl ?_; (focus exact (by repeat (first | (refine Blk.newAt _ _ _ ?_; first | rfl | (simp; done)) | refine Blk.alloc ?_ _))); simp only [Act.put]) | (refine wpl_row rfl 31 _ rfl _ rfl #[.int .i64 lw, .int .i64 ls, .int .i64 lc, .bool li, .bool lt] 5 ?_ Tryz.rowMin rfl ?_; (focus exact (by repeat (first | (refine Blk.newAt _ _ _ ?_; first | rfl | (simp; done)) | refine Blk.alloc ?_ _))); simp only [Act.put]))
    have bHX : Blk (((w.alloc (.cells #[.int .i64 M.places, .int .i64 M.any.a0, .int .i64 M.any.a1, .int .i64 M.any.a2, .int .i64 M.any.a3, .int .i64 M.any.a4, .int .i64 M.any.a5, .bool M.any.i, .bool M.any.s, .int .i64 M.mw, .int .i64 M.ms, .int .i64 M.mc, vF, vS] 29)).alloc (.cells #[.int .i64 lw, .int .i64 ls, .int .i64 lc, .bool li, .bool lt] 31)).alloc (.cells #[.int .i64 p] 3)) (w.heap.size) 29 #[.int .i64 M.places, .int .i64 M.any.a0, .int .i64 M.any.a1, .int .i64 M.any.a2, .int .i64 M.any.a3, .int .i64 M.any.a4, .int .i64 M.any.a5, .bool M.any.i, .bool M.any.s, .int .i64 M.mw, .int .i64 M.ms, .int .i64 M.mc, vF, vS] := (by repeat (first | (refine Blk.newAt _ _ _ ?_; first | rfl | (simp; done)) | refine Blk.alloc ?_ _))
    have bHL : Blk (((w.alloc (.cells #[.int .i64 M.places, .int .i64 M.any.a0, .int .i64 M.any.a1, .int .i64 M.any.a2, .int .i64 M.any.a3, .int .i64 M.any.a4, .int .i64 M.any.a5, .bool M.any.i, .bool M.any.s, .int .i64 M.mw, .int .i64 M.ms, .int .i64 M.mc, vF, vS] 29)).alloc (.cells #[.int .i64 lw, .int .i64 ls, .int .i64 lc, .bool li, .bool lt] 31)).alloc (.cells #[.int .i64 p] 3)) (w.heap.size + 1) 31 #[.int .i64 lw, .int .i64 ls, .int .i64 lc, .bool li, .bool lt] := (by repeat (first | (refine Blk.newAt _ _ _ ?_; first | rfl | (simp; done)) | refine Blk.alloc ?_ _))
    have bHV : Blk (((w.alloc (.cells #[.int .i64 M.places, .int .i64 M.any.a0, .int .i64 M.any.a1, .int .i64 M.any.a2, .int .i64 M.any.a3, .int .i64 M.any.a4, .int .i64 M.any.a5, .bool M.any.i, .bool M.any.s, .int .i64 M.mw, .int .i64 M.ms, .int .i64 M.mc, vF, vS] 29)).alloc (.cells #[.int .i64 lw, .int .i64 ls, .int .i64 lc, .bool li, .bool lt] 31)).alloc (.cells #[.int .i64 p] 3)) (w.heap.size + 1 + 1) 3 #[.int .i64 p] := (by repeat (first | (refine Blk.newAt _ _ _ ?_; first | rfl | (simp; done)) | refine Blk.alloc ?_ _))
    have bHB : Below w.heap.size w (((w.alloc (.cells #[.int .i64 M.places, .int .i64 M.any.a0, .int .i64 M.any.a1, .int .i64 M.any.a2, .int .i64 M.any.a3, .int .i64 M.any.a4, .int .i64 M.any.a5, .bool M.any.i, .bool M.any.s, .int .i64 M.mw, .int .i64 M.ms, .int .i64 M.mc, vF, vS] 29)).alloc (.cells #[.int .i64 lw, .int .i64 ls, .int .i64 lc, .bool li, .bool lt] 31)).alloc (.cells #[.int .i64 p] 3)) := (by repeat' (first | exact Below.refl _ _ | assumption | refine Below.drew ?_ | refine bdn ?_ _ | refine bal ?_ _ | refine Below.setCell ?_ (by first | (simp; done) | omega | (simp; omega)) _))
    generalize (((w.alloc (.cells #[.int .i64 M.places, .int .i64 M.any.a0, .int .i64 M.any.a1, .int .i64 M.any.a2, .int .i64 M.any.a3, .int .i64 M.any.a4, .int .i64 M.any.a5, .bool M.any.i, .bool M.any.s, .int .i64 M.mw, .int .i64 M.ms, .int .i64 M.mc, vF, vS] 29)).alloc (.cells #[.int .i64 lw, .int .i64 ls, .int .i64 lc, .bool li, .bool lt] 31)).alloc (.cells #[.int .i64 p] 3)) = W at *
    have zW := bHV.lt
    have HX := Lib.hid bHX
    have HL := Lib.hid bHL
    have HV := Lib.hid bHV
    have HB := Lib.hid bHB
    clear bHX bHL bHV bHB
    refine (HCW.out _ _ _ (HA.out.below HB.out) (HV.out.cell 0)).mono ?_
    rintro _ w1 ⟨rfl, hb1⟩
    have nHX := Lib.hid (HX.out.below hb1)
    have nHL := Lib.hid (HL.out.below hb1)
    have nHB := Lib.hid (bthen HB.out hb1)
    clear HX HL HB hb1
    have HX := nHX
    have HL := nHL
    have HB := nHB
    clear nHX nHL nHB
    clear HV
    go_wp2_with (fail)
    go_ret2
    exact ⟨_, rfl, HB.out, fun _ => rfl, fun h => absurd h HNE.out⟩
end Go.Proofs.YtfcjblnebaemgaaGreat
