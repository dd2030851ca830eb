/- Texts joined: JCB. -/
import Derived.Test.YtbgkbdhdkpjcdaaGreatJCA
import Derived.Test.YtbgkbdhdkpjcdaaGreatBas
import Derived.Test.YtbgkbdhdkpjcdaaGreatNbK
set_option linter.all false
namespace Go.Proofs.YtbgkbdhdkpjcdaaGreat
open Go Go.RowKit Go.Proofs
set_option maxRecDepth 100000
set_option maxHeartbeats 8000000
def sooQ (gx : Nat) (vN : Value) (cI cF : Array Value) (b : Bool) : Nat → Value → World → Prop
  | 0, v, _ => v = .pointer (some ⟨gx, 0, none⟩)
  | 1, v, _ => v = .pointer (some ⟨gx, 0, none⟩)
  | 2, v, _ => v = .pointer (some ⟨gx, 0, none⟩)
  | 3, v, _ => v = vN
  | 4, v, _ => v = .agg cI
  | 5, v, _ => v = .agg cF
  | 6, v, w => ∃ v0, v = .tuple #[v0, .bool b]
  | 7, v, w => ∃ v0, v = .tuple #[v0, .bool b]
  | 8, v, w => v = v
  | 9, v, _ => v = .bool b
  | 10, v, w => v = v
  | _, _, _ => True
theorem sooQ_below {gx : Nat} {vN : Value} {cI cF : Array Value} {b : Bool} (k : Nat) (v : Value) (w w' : World) (hb : Below w.heap.size w w') (h : sooQ gx vN cI cF b k v w) : sooQ gx vN cI cF b k v w' := by
  unfold sooQ at *
  split at h <;> first | exact h | exact h | exact rfl
theorem rSoonest_c (M : MetD) (vF vS : Value) (lw ls lc : Int) (li lb : Bool) (A : Option Addr) (n c : Nat) (S : Tab) (F : FliD) (vR : Value) (last : Int) (w : World) (hM : MetAt w vF vS M) (hc1 : n ≤ c) (hc2 : c ≤ 9223372036854775807) (hL : RecsAt w A n 3 (nV S)) (hR : SlI w vR F.m F.R) :
   Calls Tryz.prog 53 #[.agg #[.int .i64 M.places, .int .i64 M.any.a0, .int .i64 M.any.a1, .int .i64 M.any.a2, .int .i64 M.any.a3, .int .i64 M.any.a4, .int .i64 M.any.a5, .bool M.any.i, .bool M.any.s, .int .i64 M.mw, .int .i64 M.ms, .int .i64 M.mc, vF, vS], .agg #[.int .i64 lw, .int .i64 ls, .int .i64 lc, .bool li, .bool lb], .slice A n c, .agg #[vR, .int .i64 F.dep, .int .i64 F.fuel, .int .i64 F.burn, .int .i64 F.res], .int .i64 last] w fun e w' => e = .returned (.tuple #[.int .i64 (sooE (nfE (netME M lw ls lc S n) M S n F) M lw ls lc li lb S n F last).1, .int .i64 (sooE (nfE (netME M lw ls lc S n) M S n F) M lw ls lc li lb S n F last).2]) ∧ RowKit.Below w.heap.size w w' := by
  have HM := Lib.hid hM
  have HL := Lib.hid hL
  have HR := Lib.hid hR
  obtain ⟨AR, cR, rfl, -, -, -⟩ := hR
  have HNN := Lib.hid (fun w1 gl h1 hm h2 h3 => newFlightM_c M vF vS gl lw ls lc li lb A n c S F (.slice AR F.m cR) w1 h1 hm hc1 hc2 h2 h3)
  have hok := fun h => nfM_ok (M := M) (lw := lw) (ls := ls) (lc := lc) (S := S) (n := n) (F := F) h
  clear hM hL
  have tok : True := trivial
  have tok3 : True := trivial
  unfold sooE
  generalize nfE (netME M lw ls lc S n) M S n F = NE at *
  by_cases h0 : NE = 0
  case neg =>
    rw [if_neg h0]
    have hz : (NE != 0) = true := by simpa using h0
    clear h0 hok
    go_enter Tryz.func53, Tryz.ntmps53
    go_wp2_with (fail)
    have _x := frm3 w #[.int .i64 M.places, .int .i64 M.any.a0, .int .i64 M.any.a1, .int .i64 M.any.a2, .int .i64 M.any.a3, .int .i64 M.any.a4, .int .i64 M.any.a5, .bool M.any.i, .bool M.any.s, .int .i64 M.mw, .int .i64 M.ms, .int .i64 M.mc, vF, vS] 29 #[.int .i64 lw, .int .i64 ls, .int .i64 lc, .bool li, .bool lb] 31 #[.slice AR F.m cR, .int .i64 F.dep, .int .i64 F.fuel, .int .i64 F.burn, .int .i64 F.res] 37
    have HX := Lib.hid _x.1
    have HI := Lib.hid _x.2.1
    have HF := Lib.hid _x.2.2.1
    have HB := Lib.hid _x.2.2.2.1
    have zW := _x.2.2.2.2
    clear _x
    generalize World.alloc (World.alloc (World.alloc w _) _) _ = W at *
    go_wp2_with (first | (have _t := tok; refine wpl_row rfl 29 (.tmp 5) rfl _ rfl #[.int .i64 M.places, .int .i64 M.any.a0, .int .i64 M.any.a1, .int .i64 M.any.a2, .int .i64 M.any.a3, .int .i64 M.any.a4, .int .i64 M.any.a5, .bool M.any.i, .bool M.any.s, .int .i64 M.mw, .int .i64 M.ms, .int .i64 M.mc, vF, vS] 14 HX.out Tryz.rowMet rfl ?_; simp only [Act.put]; clear tok) | (have _t := tok3; refine wpl_row rfl 37 (.tmp 8) rfl _ rfl #[.slice AR F.m cR, .int .i64 F.dep, .int .i64 F.fuel, .int .i64 F.burn, .int .i64 F.res] 5 HF.out Tryz.rowFli rfl ?_; simp only [Act.put]; clear tok3) | (go_at_call 86; (with_reducible refine (HNN.out _ _ (HM.out.below HB.out) HI.out (HL.out.below HB.out) (HR.out.below HB.out)).mono ?_); rintro e w1 ⟨v, rfl, hb1⟩; (obtain ⟨hb1, -⟩ := hb1); have nHX := Lib.hid (HX.out.below hb1); have nHI := Lib.hid (HI.out.below hb1); have nHF := Lib.hid (HF.out.below hb1); have nHB := Lib.hid (bthen HB.out hb1); have zz1 := hb1.size; clear HX HI HF HB hb1; have HX := nHX; have HI := nHI; have HF := nHF; have HB := nHB; clear nHX nHI nHF nHB))
    go_ret2
    exact ⟨rfl, HB.out⟩
  subst h0
  rw [if_pos rfl]
  obtain ⟨f3, f4, f5, f6, f7⟩ := hok rfl
  have hti := timT_in f6 f4.2
  have HSF := Lib.hid (fun t vN w1 h1 hm h2 => fsafe_c M vF vS vN M.places.toNat (lgT S n) (timT S n M.places.toNat) (F.withD t) (.slice AR F.m cR) lw ls lc li lb w1 h1 hm f3 f4 f5 hti h2)
  have hgd : ∀ t, ((F.withD t).okB M.places.toNat (lgT S n) && ((F.withD t).prf (lgT S n) (timT S n M.places.toNat) (opM M lw ls lc li lb) M.places.toNat).2.2) = F.goodD M.places.toNat (lgT S n) (timT S n M.places.toNat) (opM M lw ls lc li lb) t := fun t => rfl
  have hsf : ∀ (t : Int) (vN : Value) (w1 : World), NetAt w1 vN M vF vS M.places.toNat (lgT S n) (timT S n M.places.toNat) → MetAt w1 vF vS M → SlI w1 (.slice AR F.m cR) F.m F.R → Calls Tryz.prog 102 #[vN, .agg #[.int .i64 lw, .int .i64 ls, .int .i64 lc, .bool li, .bool lb], .agg #[.slice AR F.m cR, .int .i64 t, .int .i64 F.fuel, .int .i64 F.burn, .int .i64 F.res]] w1 fun e w' => ∃ v, e = .returned (.tuple #[v, .bool ((F.withD t).okB M.places.toNat (lgT S n) && ((F.withD t).prf (lgT S n) (timT S n M.places.toNat) (opM M lw ls lc li lb) M.places.toNat).2.2)]) ∧ RowKit.Below w1.heap.size w1 w' := HSF.out
  simp only [hgd] at hsf
  generalize F.goodD M.places.toNat (lgT S n) (timT S n M.places.toNat) (opM M lw ls lc li lb) = good at *
  clear HSF
  have HSF := Lib.hid hsf
  have hd0 := (FliD.nums_iff.1 f7.1).2.1
  clear hsf hgd hok f3 f4 f5 f6 f7 hti
  cases hin : inB last F.dep 2000
  case false =>
    rw [if_neg (by decide)]
    go_enter Tryz.func53, Tryz.ntmps53
    go_wp2_with (fail)
    have _x := frm3 w #[.int .i64 M.places, .int .i64 M.any.a0, .int .i64 M.any.a1, .int .i64 M.any.a2, .int .i64 M.any.a3, .int .i64 M.any.a4, .int .i64 M.any.a5, .bool M.any.i, .bool M.any.s, .int .i64 M.mw, .int .i64 M.ms, .int .i64 M.mc, vF, vS] 29 #[.int .i64 lw, .int .i64 ls, .int .i64 lc, .bool li, .bool lb] 31 #[.slice AR F.m cR, .int .i64 F.dep, .int .i64 F.fuel, .int .i64 F.burn, .int .i64 F.res] 37
    have HX := Lib.hid _x.1
    have HI := Lib.hid _x.2.1
    have HF := Lib.hid _x.2.2.1
    have HB := Lib.hid _x.2.2.2.1
    have zW := _x.2.2.2.2
    clear _x
    generalize World.alloc (World.alloc (World.alloc w _) _) _ = W at *
    go_wp2_with (first | (have _t := tok; refine wpl_row rfl 29 (.tmp 5) rfl _ rfl #[.int .i64 M.places, .int .i64 M.any.a0, .int .i64 M.any.a1, .int .i64 M.any.a2, .int .i64 M.any.a3, .int .i64 M.any.a4, .int .i64 M.any.a5, .bool M.any.i, .bool M.any.s, .int .i64 M.mw, .int .i64 M.ms, .int .i64 M.mc, vF, vS] 14 HX.out Tryz.rowMet rfl ?_; simp only [Act.put]; clear tok) | (have _t := tok3; refine wpl_row rfl 37 (.tmp 8) rfl _ rfl #[.slice AR F.m cR, .int .i64 F.dep, .int .i64 F.fuel, .int .i64 F.burn, .int .i64 F.res] 5 HF.out Tryz.rowFli rfl ?_; simp only [Act.put]; clear tok3) | (go_at_call 86; (with_reducible refine (HNN.out _ _ (HM.out.below HB.out) HI.out (HL.out.below HB.out) (HR.out.below HB.out)).mono ?_); rintro e w1 ⟨v, rfl, hb1⟩; (obtain ⟨hb1, -⟩ := hb1); have nHX := Lib.hid (HX.out.below hb1); have nHI := Lib.hid (HI.out.below hb1); have nHF := Lib.hid (HF.out.below hb1); have nHB := Lib.hid (bthen HB.out hb1); have zz1 := hb1.size; clear HX HI HF HB hb1; have HX := nHX; have HI := nHI; have HF := nHF; have HB := nHB; clear nHX nHI nHF nHB; (try clear zHF); have zHF := HF.out.lt; (try clear cHF1); have cHF1 := HF.out.cell 1) | (go_at_call 101; (with_reducible refine (rwithin_c _ _ _ _).mono ?_); rintro e w1 ⟨rfl, rfl⟩))
    go_ret2
    exact ⟨rfl, HB.out⟩
  rw [if_pos rfl]
  obtain ⟨hi1, hi2⟩ := inB_iff.1 hin
  obtain ⟨nn, hnn⟩ : ∃ nn, nn = (last - F.dep + 1).toNat := ⟨_, rfl⟩
  rw [← hnn]
  have hnz : (nn : Int) = last - F.dep + 1 := by omega
  obtain ⟨RES, hRES⟩ : ∃ R, R = sooR good nn F.dep := ⟨_, rfl⟩
  rw [← hRES]
  have HN0 := Lib.hid (show sooR good (nn - 0) (F.dep + (0 : Nat)) = RES by rw [hRES, Nat.sub_zero]; simp)
  have hn3 : nn ≤ 3000 := by omega
  clear hnn hRES
  go_enter Tryz.func53, Tryz.ntmps53
  go_wp2_with (fail)
  have _x := frm3 w #[.int .i64 M.places, .int .i64 M.any.a0, .int .i64 M.any.a1, .int .i64 M.any.a2, .int .i64 M.any.a3, .int .i64 M.any.a4, .int .i64 M.any.a5, .bool M.any.i, .bool M.any.s, .int .i64 M.mw, .int .i64 M.ms, .int .i64 M.mc, vF, vS] 29 #[.int .i64 lw, .int .i64 ls, .int .i64 lc, .bool li, .bool lb] 31 #[.slice AR F.m cR, .int .i64 F.dep, .int .i64 F.fuel, .int .i64 F.burn, .int .i64 F.res] 37
  have HX := Lib.hid _x.1
  have HI := Lib.hid _x.2.1
  have HF := Lib.hid _x.2.2.1
  have HB := Lib.hid _x.2.2.2.1
  have zW := _x.2.2.2.2
  clear _x
  generalize World.alloc (World.alloc (World.alloc w _) _) _ = W at *
  go_wp2_with (first | (have _t := tok; refine wpl_row rfl 29 (.tmp 5) rfl _ rfl #[.int .i64 M.places, .int .i64 M.any.a0, .int .i64 M.any.a1, .int .i64 M.any.a2, .int .i64 M.any.a3, .int .i64 M.any.a4, .int .i64 M.any.a5, .bool M.any.i, .bool M.any.s, .int .i64 M.mw, .int .i64 M.ms, .int .i64 M.mc, vF, vS] 14 HX.out Tryz.rowMet rfl ?_; simp only [Act.put]; clear tok) | (have _t := tok3; refine wpl_row rfl 37 (.tmp 8) rfl _ rfl #[.slice AR F.m cR, .int .i64 F.dep, .int .i64 F.fuel, .int .i64 F.burn, .int .i64 F.res] 5 HF.out Tryz.rowFli rfl ?_; simp only [Act.put]; clear tok3))
  refine (HNN.out _ _ (HM.out.below HB.out) HI.out (HL.out.below HB.out) (HR.out.below HB.out)).mono ?_
  rintro e w2 ⟨v, rfl, hb2, hv⟩
  obtain ⟨vN, gx, vA, rfl, hx, hN, -⟩ := hv rfl
  have nHX := Lib.hid (HX.out.below hb2)
  have nHI := Lib.hid (HI.out.below hb2)
  have nHF := Lib.hid (HF.out.below hb2)
  have nHB := Lib.hid (bthen HB.out hb2)
  clear HX HI HF HB hb2
  have HX := nHX
  have HI := nHI
  have HF := nHF
  have HB := nHB
  clear nHX nHI nHF nHB
  have HNT := Lib.hid hN
  have HGX := Lib.hid hx
  have cHF1 := HF.out.cell 1
  simp only [List.getElem?_toArray, List.getElem?_cons_succ, List.getElem?_cons_zero] at cHF1
  clear HNN HX hv hN hx
  go_wp2_with ((go_at_call 101; (with_reducible refine (rwithin_c _ _ _ _).mono ?_); rintro e w1 ⟨rfl, rfl⟩))
  clear cHF1 hin
  have HW0 := Lib.hid (RowKit.Below.refl w2.heap.size w2)
  go_loopg [14] nn (fun gy tv wr => ∃ j : Nat, tv = .int .i64 (F.dep + j) ∧ j ≤ nn ∧ nn - j ≤ gy ∧ Hid (sooR good (nn - j) (F.dep + j) = RES) ∧ Hid (RowKit.Below w2.heap.size w2 wr))
  case atStart => exact ⟨0, by simp, Nat.zero_le _, Nat.sub_le _ _, HN0, HW0⟩
  case round =>
    clear HN0 HW0
    obtain ⟨j, rfl, hj, hgy, HN, HW⟩ := hrel
    obtain ⟨t, hte⟩ : ∃ t, t = F.dep + (j : Int) := ⟨_, rfl⟩
    have hN := HN.out
    rw [← hte] at hN ⊢
    have hts : F.dep + ((j + 1 : Nat) : Int) = t + 1 := by omega
    have HTS := Lib.hid hts
    clear HN hts
    by_cases hlt : j < nn
    case pos =>
      have hle : t ≤ last := by omega
      have ht3 : 0 ≤ t ∧ t ≤ 10000 := by omega
      obtain ⟨i, hi⟩ : ∃ i, nn - j = i + 1 := ⟨nn - j - 1, by omega⟩
      rw [hi] at hN
      unfold sooR at hN
      have HNC := HF
      have nF := Lib.hid (HF.out.below HW.out)
      have nI := Lib.hid (HI.out.below HW.out)
      have n1 := (Blk.new wr 37 #[.slice AR F.m cR, .int .i64 F.dep, .int .i64 F.fuel, .int .i64 F.burn, .int .i64 F.res]).cell 1
      have nf := fun i => (Blk.new wr 37 #[.slice AR F.m cR, .int .i64 F.dep, .int .i64 F.fuel, .int .i64 F.burn, .int .i64 F.res]).frozen i
      simp only [List.getElem?_toArray, List.getElem?_cons_succ, List.getElem?_cons_zero] at n1
      have tok3 : True := trivial
      have tok4 : True := trivial
      clear HNC hte
      go_wp2_with (first | (have _t := tok3; refine wpl_row rfl 37 (.tmp 8) rfl _ rfl #[.slice AR F.m cR, .int .i64 F.dep, .int .i64 F.fuel, .int .i64 F.burn, .int .i64 F.res] 5 nF.out Tryz.rowFli rfl ?_; simp only [Act.put]; clear tok3) | (have _t := tok4; refine wpl_store_newR rfl 37 (.tmp 15) (.tmp 40) rfl #[.slice AR F.m cR, .int .i64 F.dep, .int .i64 F.fuel, .int .i64 F.burn, .int .i64 F.res] _ _ rfl ?_ rfl Tryz.sizeFli rfl (by simp [Value.oneCell']) ?_; (focus (simp; done)); simp only [Act.put]; clear tok4))
      have HL3 := Lib.hid (Blk.new wr 37 #[.slice AR F.m cR, .int .i64 t, .int .i64 F.fuel, .int .i64 F.burn, .int .i64 F.res])
      have HW3 := Lib.hid (bal HW.out (.cells #[.slice AR F.m cR, .int .i64 t, .int .i64 F.fuel, .int .i64 F.burn, .int .i64 F.res] 37))
      clear nF nI n1 nf HW
      generalize World.alloc wr _ = W3 at *
      have nG := Lib.hid (HGX.out.below HW3.out)
      have nI := Lib.hid (HI.out.below HW3.out)
      obtain ⟨b, hb⟩ : ∃ b, b = good t := ⟨_, rfl⟩
      rw [← hb] at hN
      have HN := Lib.hid hN
      have HSS := Lib.hid (fun w1 h1 h2 h3 => by have := HSF.out t vN w1 h1 h2 h3; rw [← hb] at this; exact this)
      clear hN hb
      refine wp_region_spec 11 (sooQ gx vN #[.int .i64 lw, .int .i64 ls, .int .i64 lc, .bool li, .bool lb] #[.slice AR F.m cR, .int .i64 t, .int .i64 F.fuel, .int .i64 F.burn, .int .i64 F.res] b) (fun i => false) (by kernel_rfl) (by kernel_rfl) sooQ_below ?hop1 ?htail1
      case hop1 =>
        simp only [List.take_succ_cons, List.take_zero, allOps]
        refine ⟨?_, ?_, ?_, ?_, ?_, ?_, ?_, ?_, ?_, ?_, ?_, trivial⟩
        all_goals intro u A w1 hA hb hd
        all_goals simp only [putAll, dstOf, List.getElem?_toArray, List.getElem?_cons_succ, List.getElem?_cons_zero, Option.bind_some, Option.bind, Act.put, List.setIfInBounds_toArray, List.set_cons_succ, List.set_cons_zero] at hA; subst hA
        all_goals have HB1 := Lib.hid hb
        · clear hb hd
          go_wp2
          exact ⟨_, rfl, Below.refl _ _, rfl, fun h => absurd h (by decide)⟩
        · have d0 : u 0 = _ := hd 0 (by omega) (by kernel_rfl)
          clear hb hd
          rw [d0]
          clear d0
          go_wp2
          exact ⟨_, rfl, Below.refl _ _, rfl, fun h => absurd h (by decide)⟩
        · have d1 : u 1 = _ := hd 1 (by omega) (by kernel_rfl)
          clear hb hd
          rw [d1]
          clear d1
          go_wp2
          exact ⟨_, rfl, Below.refl _ _, rfl, fun h => absurd h (by decide)⟩
        · have d2 : u 2 = _ := hd 2 (by omega) (by kernel_rfl)
          clear hb hd
          rw [d2]
          clear d2
          have ny := (nG.out.below HB1.out).cell 0
          simp only [List.getElem?_toArray, List.getElem?_cons_succ, List.getElem?_cons_zero] at ny
          go_wp2
          exact ⟨_, rfl, Below.refl _ _, rfl, fun h => absurd h (by decide)⟩
        · clear hb hd
          go_wp2_with (refine wpl_row rfl 31 _ rfl _ rfl _ 5 (nI.out.below HB1.out) Tryz.rowMin rfl ?_; simp only [Act.put])
          exact ⟨_, rfl, Below.refl _ _, rfl, fun h => absurd h (by decide)⟩
        · clear hb hd
          go_wp2_with (refine wpl_row rfl 37 _ rfl _ rfl #[.slice AR F.m cR, .int .i64 t, .int .i64 F.fuel, .int .i64 F.burn, .int .i64 F.res] 5 (HL3.out.below HB1.out) Tryz.rowFli rfl ?_; simp only [Act.put])
          exact ⟨_, rfl, Below.refl _ _, rfl, fun h => absurd h (by decide)⟩
        · have d3 : u 3 = _ := hd 3 (by omega) (by kernel_rfl)
          have d4 : u 4 = _ := hd 4 (by omega) (by kernel_rfl)
          have d5 : u 5 = _ := hd 5 (by omega) (by kernel_rfl)
          clear hb hd
          rw [d3, d4, d5]
          clear d3 d4 d5
          go_wp2_with (go_at_call 102; (with_reducible refine (HSS.out _ (HNT.out.below (bthen HW3.out HB1.out)) (HM.out.below (bthen (bthen HB.out HW3.out) HB1.out)) (HR.out.below (bthen (bthen HB.out HW3.out) HB1.out))).mono ?_); rintro e w2 ⟨v0, rfl, hb2⟩)
          exact ⟨_, rfl, hb2, ⟨v0, rfl⟩, fun h => absurd h (by decide)⟩
        · have d6 := hd 6 (by omega) (by kernel_rfl)
          clear hb hd
          obtain ⟨v0, e6⟩ := d6
          rw [e6]
          clear e6
          go_wp2
          exact ⟨_, rfl, RowKit.Below.refl _ _, ⟨v0, rfl⟩, fun h => absurd h (by decide)⟩
        · have d7 := hd 7 (by omega) (by kernel_rfl)
          clear hb hd
          obtain ⟨v0, e7⟩ := d7
          rw [e7]
          clear e7
          go_wp2
          exact ⟨_, rfl, Below.refl _ _, rfl, fun h => absurd h (by decide)⟩
        · have d7 := hd 7 (by omega) (by kernel_rfl)
          clear hb hd
          obtain ⟨v0, e7⟩ := d7
          rw [e7]
          clear e7
          go_wp2
          exact ⟨_, rfl, Below.refl _ _, rfl, fun h => absurd h (by decide)⟩
        · have d0 : u 0 = _ := hd 0 (by omega) (by kernel_rfl)
          have d1 : u 1 = _ := hd 1 (by omega) (by kernel_rfl)
          have d2 : u 2 = _ := hd 2 (by omega) (by kernel_rfl)
          have d3 : u 3 = _ := hd 3 (by omega) (by kernel_rfl)
          have d4 : u 4 = _ := hd 4 (by omega) (by kernel_rfl)
          have d5 : u 5 = _ := hd 5 (by omega) (by kernel_rfl)
          have d6 := hd 6 (by omega) (by kernel_rfl)
          have d7 := hd 7 (by omega) (by kernel_rfl)
          have d8 := hd 8 (by omega) (by kernel_rfl)
          clear hb hd
          rw [d0, d1, d2, d3, d4, d5]
          clear d0 d1 d2 d3 d4 d5
          go_wp2
          exact ⟨_, rfl, Below.refl _ _, rfl, fun h => absurd h (by decide)⟩
      case htail1 =>
        intro u A w1 hA hb hd hf
        simp only [putAll, dstOf, List.getElem?_toArray, List.getElem?_cons_succ, List.getElem?_cons_zero, Option.bind_some, Option.bind, Act.put, List.setIfInBounds_toArray, List.set_cons_succ, List.set_cons_zero] at hA; subst hA
        have e0 : u 0 = _ := hd 0 (by omega)
        have e1 : u 1 = _ := hd 1 (by omega)
        have e2 : u 2 = _ := hd 2 (by omega)
        have e3 : u 3 = _ := hd 3 (by omega)
        have e4 : u 4 = _ := hd 4 (by omega)
        have e5 : u 5 = _ := hd 5 (by omega)
        have p6 := hd 6 (by omega)
        have p7 := hd 7 (by omega)
        have p8 := hd 8 (by omega)
        have e9 : u 9 = _ := hd 9 (by omega)
        have p10 := hd 10 (by omega)
        first | rw [e0, e1, e2, e3, e4, e5, e9] | simp only [e0, e1, e2, e3, e4, e5, e9]
        clear e0 e1 e2 e3 e4 e5 e9
        clear hd hf
        have nW := Lib.hid (bthen HW3.out hb)
        clear hb p6 p7 p8 p10
        cases b
        · have HN2 := Lib.hid (show sooR good i (t + 1) = RES from HN.out)
          go_wp2_with (fail)
          go_roundg (nn - (j + 1))
          case measure => omega
          case rel => exact ⟨j + 1, by rw [HTS.out], by omega, Nat.le_refl _, Lib.hid (by rw [show nn - (j + 1) = i by omega, HTS.out]; exact HN2.out), nW⟩
        · have hres : some t = RES := HN.out
          subst hres
          go_wp2_with (fail)
          go_ret2
          exact ⟨rfl, bthen HB.out nW.out⟩
    obtain rfl : nn = j := by omega
    rw [Nat.sub_self] at hN
    unfold sooR at hN
    subst hN
    have hgt : ¬ t ≤ last := by omega
    clear hte
    go_wp2_with (fail)
    go_ret2
    exact ⟨rfl, bthen HB.out HW.out⟩
end Go.Proofs.YtbgkbdhdkpjcdaaGreat

namespace Go.Proofs.YtbgkbdhdkpjcdaaGreat
open Go Go.RowKit Go.Proofs

section
variable {P : Program} {ops : Array Oper} {rest : List Oper} {o : Oper} {a : Act} {w : World}
theorem wpl_mid_g {Q : Exit → Act → World → Prop} (hgd : Region.wanted o (yielded ops a.tmps) = true) (ty : TypeId) (x : Operand) (ho : o.op = .load ty x)
    (g off : Nat) (hx : a.eval x = .pointer (some ⟨g, off, none⟩)) (tb : TypeId) (big cs : Array Value) (n : Nat) (hB : w.heap[g]? = some (.cells big tb (0, 0)))
    (hr : RowTy P ty n) (pre post : List Value) (hpre : pre.length = off) (hcs : big.toList = pre ++ (cs.toList ++ post)) (hn : cs.size = n)
    (h : wpList P ops Q rest (a.put o.dst (.agg cs)) w) : wpList P ops Q (o :: rest) a w := by
  refine wpList_step fun K hK => ?_
  simp only [hgd, if_true]
  unfold Oper.wp execOp
  simp only [ho, hx, Instr.loadAt, Instr.sureAddr, Sem.run_bind, Sem.run_pure, Result.andThen_ok, run_mid hB hr pre post hpre hcs hn, Oper.upon]
  exact hK _ _ h
end
end Go.Proofs.YtbgkbdhdkpjcdaaGreat

namespace Go.Proofs.YtbgkbdhdkpjcdaaGreat
open Go Go.RowKit Go.Proofs
set_option maxRecDepth 100000
set_option maxHeartbeats 8000000
theorem RouteLeasts_c (M : MetD) (vF vS : Value) (lw ls lc : Int) (li lb : Bool) (A : Option Addr) (n c : Nat) (S : Tab) (F : FliD) (vR : Value) (last : Int) (w : World) (hM : MetAt w vF vS M) (hc1 : n ≤ c) (hc2 : c ≤ 9223372036854775807) (hL : RecsAt w A n 3 (nV S)) (hR : SlI w vR F.m F.R) :
   Calls Tryz.prog 12 #[.agg #[.int .i64 M.places, .int .i64 M.any.a0, .int .i64 M.any.a1, .int .i64 M.any.a2, .int .i64 M.any.a3, .int .i64 M.any.a4, .int .i64 M.any.a5, .bool M.any.i, .bool M.any.s, .int .i64 M.mw, .int .i64 M.ms, .int .i64 M.mc, vF, vS, .int .i64 lw, .int .i64 ls, .int .i64 lc, .bool li, .bool lb, .slice A n c], .agg #[vR, .int .i64 F.dep, .int .i64 F.fuel, .int .i64 F.burn, .int .i64 F.res], .int .i64 last] w fun e w' => e = .returned (.bool true) ∧ RowKit.Below w.heap.size w w' := by
  have HM := Lib.hid hM
  have HL := Lib.hid hL
  have HR := Lib.hid hR
  have HLO := Lib.hid (fun w1 h1 h2 h3 => l5Long_c M vF vS lw ls lc li lb A n c S F vR w1 h1 hc1 hc2 h2 h3)
  have hh1 := fun w1 h1 h2 h3 => rLeast_c M vF vS lw ls lc li lb A n c S F vR w1 h1 hc1 hc2 h2 h3
  have hh2 := fun w1 h1 h2 h3 => r5Least_c M vF vS lw ls lc li lb A n c S F vR w1 h1 hc1 hc2 h2 h3
  have hs1 := fun w1 h1 h2 h3 => rSoonest_c M vF vS lw ls lc li lb A n c S F vR last w1 h1 hc1 hc2 h2 h3
  have hs2 := fun w1 h1 h2 h3 => r5Soonest_c M vF vS lw ls lc li lb A n c S F vR last w1 h1 hc1 hc2 h2 h3
  have HCK0 := Lib.hid (fun w1 h1 h2 h3 => r5Check_c M vF vS A n c S F vR w1 h1 hc1 hc2 h2 h3)
  have hdb : nfE (netE M S n) M S n F = 0 → 0 ≤ F.dep ∧ F.dep ≤ 2000 := fun h => by
    obtain ⟨-, -, -, -, f⟩ := nfN_ok h
    exact (FliD.nums_iff.1 f.1).2.1
  clear hM hL hR
  generalize leE M lw ls lc li lb S n F = X at *
  generalize sooE (nfE (netME M lw ls lc S n) M S n F) M lw ls lc li lb S n F last = Y at *
  generalize nfE (netE M S n) M S n F = KE at *
  obtain ⟨xn, xe⟩ := X
  obtain ⟨yn, ye⟩ := Y
  dsimp only at hh1 hh2 hs1 hs2
  have HH1 := Lib.hid hh1
  have HH2 := Lib.hid hh2
  have HS1 := Lib.hid hs1
  have HS2 := Lib.hid hs2
  have HCK := HCK0
  clear hh1 hh2 hs1 hs2 HCK0
  have xnn : (xn != xn) = false := by simp
  have xee : (xe != xe) = false := by simp
  have ynn : (yn == yn) = true := by simp
  have yee : (ye == ye) = true := by simp
  have tok : True := trivial
  have tok2 : True := trivial
  have tok0 : True := trivial
  go_enter Tryz.func12, Tryz.ntmps12
  go_wp2_with (first | (have _t := tok0; generalize hWX : World.alloc (World.alloc w _) _ = W; clear tok0; have _x := duo_r w #[.int .i64 M.places, .int .i64 M.any.a0, .int .i64 M.any.a1, .int .i64 M.any.a2, .int .i64 M.any.a3, .int .i64 M.any.a4, .int .i64 M.any.a5, .bool M.any.i, .bool M.any.s, .int .i64 M.mw, .int .i64 M.ms, .int .i64 M.mc, vF, vS, .int .i64 lw, .int .i64 ls, .int .i64 lc, .bool li, .bool lb, .slice A n c] #[vR, .int .i64 F.dep, .int .i64 F.fuel, .int .i64 F.burn, .int .i64 F.res] 34 37; rw [hWX] at _x; clear hWX; have HX := Lib.hid _x.1; have HY := Lib.hid _x.2.1; have HB := Lib.hid _x.2.2; clear _x) | (have _t := tok; refine wpl_row rfl 34 (.tmp 3) rfl _ rfl #[.int .i64 M.places, .int .i64 M.any.a0, .int .i64 M.any.a1, .int .i64 M.any.a2, .int .i64 M.any.a3, .int .i64 M.any.a4, .int .i64 M.any.a5, .bool M.any.i, .bool M.any.s, .int .i64 M.mw, .int .i64 M.ms, .int .i64 M.mc, vF, vS, .int .i64 lw, .int .i64 ls, .int .i64 lc, .bool li, .bool lb, .slice A n c] 20 HX.out Tryz.rowPlan rfl ?_; simp only [Act.put]; clear tok) | (have _t := tok2; refine wpl_row rfl 37 (.tmp 4) rfl _ rfl #[vR, .int .i64 F.dep, .int .i64 F.fuel, .int .i64 F.burn, .int .i64 F.res] 5 HY.out Tryz.rowFli rfl ?_; simp only [Act.put]; clear tok2))
  refine (HLO.out _ (HM.out.below HB.out) (HL.out.below HB.out) (HR.out.below HB.out)).mono ?_
  rintro e w1 ⟨⟨bb, rfl⟩, hb1⟩
  have nHX := Lib.hid (HX.out.below hb1)
  have nHY := Lib.hid (HY.out.below hb1)
  have nHB := Lib.hid (bthen HB.out hb1)
  clear HX HY HB hb1
  have HX := nHX
  have HY := nHY
  have HB := nHB
  clear nHX nHY nHB
  cases bb
  case true =>
    go_wp2_with (first | (go_at_call 26; (with_reducible refine (rworks_c _).mono ?_); rintro e w1 ⟨rfl, hb1⟩; have nHX := Lib.hid (HX.out.below hb1); have nHY := Lib.hid (HY.out.below hb1); have nHB := Lib.hid (bthen HB.out hb1); have zz1 := hb1.size; clear HX HY HB hb1; have HX := nHX; have HY := nHY; have HB := nHB; clear nHX nHY nHB))
    go_ret
    exact ⟨rfl, HB.out⟩
  have x19 := HX.out.cell 19
  simp only [List.getElem?_toArray, List.getElem?_cons_succ, List.getElem?_cons_zero] at x19
  have tok2 : True := trivial
  have tok3 : True := trivial
  have tok4 : True := trivial
  have tok5 : True := trivial
  have tok6 : True := trivial
  by_cases h0 : KE = 0
  case neg =>
    have hz : (KE == 0) = false := by simpa using h0
    clear h0 hdb
    go_wp2_with (first | (have _t := tok5; refine wpl_mid_g ?_ 29 _ rfl w.heap.size 0 rfl 34 #[.int .i64 M.places, .int .i64 M.any.a0, .int .i64 M.any.a1, .int .i64 M.any.a2, .int .i64 M.any.a3, .int .i64 M.any.a4, .int .i64 M.any.a5, .bool M.any.i, .bool M.any.s, .int .i64 M.mw, .int .i64 M.ms, .int .i64 M.mc, vF, vS, .int .i64 lw, .int .i64 ls, .int .i64 lc, .bool li, .bool lb, .slice A n c] #[.int .i64 M.places, .int .i64 M.any.a0, .int .i64 M.any.a1, .int .i64 M.any.a2, .int .i64 M.any.a3, .int .i64 M.any.a4, .int .i64 M.any.a5, .bool M.any.i, .bool M.any.s, .int .i64 M.mw, .int .i64 M.ms, .int .i64 M.mc, vF, vS] 14 HX.out Tryz.rowMet [] [.int .i64 lw, .int .i64 ls, .int .i64 lc, .bool li, .bool lb, .slice A n c] rfl rfl rfl ?_; (focus rfl); simp only [Act.put]; clear tok5) | (have _t := tok6; refine wpl_row_g ?_ 37 (.tmp 4) rfl _ rfl #[vR, .int .i64 F.dep, .int .i64 F.fuel, .int .i64 F.burn, .int .i64 F.res] 5 HY.out Tryz.rowFli rfl ?_; (focus rfl); simp only [Act.put]; clear tok6) | ((with_reducible refine (HCK.out _ (HM.out.below HB.out) (HL.out.below HB.out) (HR.out.below HB.out)).mono ?_); rintro e w1 ⟨rfl, hb1⟩; have nHX := Lib.hid (HX.out.below hb1); have nHY := Lib.hid (HY.out.below hb1); have nHB := Lib.hid (bthen HB.out hb1); have zz1 := hb1.size; clear HX HY HB hb1; have HX := nHX; have HY := nHY; have HB := nHB; clear nHX nHY nHB; (try clear zHX); have zHX := HX.out.lt; (try clear cHX19); have cHX19 := HX.out.cell 19) | (have _t := tok3; refine wpl_mid rfl 29 _ rfl w.heap.size 0 rfl 34 #[.int .i64 M.places, .int .i64 M.any.a0, .int .i64 M.any.a1, .int .i64 M.any.a2, .int .i64 M.any.a3, .int .i64 M.any.a4, .int .i64 M.any.a5, .bool M.any.i, .bool M.any.s, .int .i64 M.mw, .int .i64 M.ms, .int .i64 M.mc, vF, vS, .int .i64 lw, .int .i64 ls, .int .i64 lc, .bool li, .bool lb, .slice A n c] #[.int .i64 M.places, .int .i64 M.any.a0, .int .i64 M.any.a1, .int .i64 M.any.a2, .int .i64 M.any.a3, .int .i64 M.any.a4, .int .i64 M.any.a5, .bool M.any.i, .bool M.any.s, .int .i64 M.mw, .int .i64 M.ms, .int .i64 M.mc, vF, vS] 14 HX.out Tryz.rowMet [] [.int .i64 lw, .int .i64 ls, .int .i64 lc, .bool li, .bool lb, .slice A n c] rfl rfl rfl ?_; simp only [Act.put]; clear tok3) | (have _t := tok4; refine wpl_mid rfl 31 _ rfl w.heap.size 14 rfl 34 #[.int .i64 M.places, .int .i64 M.any.a0, .int .i64 M.any.a1, .int .i64 M.any.a2, .int .i64 M.any.a3, .int .i64 M.any.a4, .int .i64 M.any.a5, .bool M.any.i, .bool M.any.s, .int .i64 M.mw, .int .i64 M.ms, .int .i64 M.mc, vF, vS, .int .i64 lw, .int .i64 ls, .int .i64 lc, .bool li, .bool lb, .slice A n c] #[.int .i64 lw, .int .i64 ls, .int .i64 lc, .bool li, .bool lb] 5 HX.out Tryz.rowMin [.int .i64 M.places, .int .i64 M.any.a0, .int .i64 M.any.a1, .int .i64 M.any.a2, .int .i64 M.any.a3, .int .i64 M.any.a4, .int .i64 M.any.a5, .bool M.any.i, .bool M.any.s, .int .i64 M.mw, .int .i64 M.ms, .int .i64 M.mc, vF, vS] [.slice A n c] rfl rfl rfl ?_; simp only [Act.put]; clear tok4) | (have _t := tok2; refine wpl_row rfl 37 (.tmp 4) rfl _ rfl #[vR, .int .i64 F.dep, .int .i64 F.fuel, .int .i64 F.burn, .int .i64 F.res] 5 HY.out Tryz.rowFli rfl ?_; simp only [Act.put]; clear tok2))
    clear cHX19 zHX
    refine (HH1.out _ (HM.out.below HB.out) (HL.out.below HB.out) (HR.out.below HB.out)).mono ?_
    rintro e w2 ⟨rfl, hb2⟩
    clear x19
    have nHX := Lib.hid (HX.out.below hb2)
    have nHY := Lib.hid (HY.out.below hb2)
    have nHB := Lib.hid (bthen HB.out hb2)
    clear HX HY HB hb2
    have HX := nHX
    have HY := nHY
    have HB := nHB
    clear nHX nHY nHB
    have x19 := HX.out.cell 19
    simp only [List.getElem?_toArray, List.getElem?_cons_succ, List.getElem?_cons_zero] at x19
    have tok2 : True := trivial
    have tok3 : True := trivial
    have tok4 : True := trivial
    go_wp2_with (first | (have _t := tok3; refine wpl_mid rfl 29 _ rfl w.heap.size 0 rfl 34 #[.int .i64 M.places, .int .i64 M.any.a0, .int .i64 M.any.a1, .int .i64 M.any.a2, .int .i64 M.any.a3, .int .i64 M.any.a4, .int .i64 M.any.a5, .bool M.any.i, .bool M.any.s, .int .i64 M.mw, .int .i64 M.ms, .int .i64 M.mc, vF, vS, .int .i64 lw, .int .i64 ls, .int .i64 lc, .bool li, .bool lb, .slice A n c] #[.int .i64 M.places, .int .i64 M.any.a0, .int .i64 M.any.a1, .int .i64 M.any.a2, .int .i64 M.any.a3, .int .i64 M.any.a4, .int .i64 M.any.a5, .bool M.any.i, .bool M.any.s, .int .i64 M.mw, .int .i64 M.ms, .int .i64 M.mc, vF, vS] 14 HX.out Tryz.rowMet [] [.int .i64 lw, .int .i64 ls, .int .i64 lc, .bool li, .bool lb, .slice A n c] rfl rfl rfl ?_; simp only [Act.put]; clear tok3) | (have _t := tok4; refine wpl_mid rfl 31 _ rfl w.heap.size 14 rfl 34 #[.int .i64 M.places, .int .i64 M.any.a0, .int .i64 M.any.a1, .int .i64 M.any.a2, .int .i64 M.any.a3, .int .i64 M.any.a4, .int .i64 M.any.a5, .bool M.any.i, .bool M.any.s, .int .i64 M.mw, .int .i64 M.ms, .int .i64 M.mc, vF, vS, .int .i64 lw, .int .i64 ls, .int .i64 lc, .bool li, .bool lb, .slice A n c] #[.int .i64 lw, .int .i64 ls, .int .i64 lc, .bool li, .bool lb] 5 HX.out Tryz.rowMin [.int .i64 M.places, .int .i64 M.any.a0, .int .i64 M.any.a1, .int .i64 M.any.a2, .int .i64 M.any.a3, .int .i64 M.any.a4, .int .i64 M.any.a5, .bool M.any.i, .bool M.any.s, .int .i64 M.mw, .int .i64 M.ms, .int .i64 M.mc, vF, vS] [.slice A n c] rfl rfl rfl ?_; simp only [Act.put]; clear tok4) | (have _t := tok2; refine wpl_row rfl 37 (.tmp 4) rfl _ rfl #[vR, .int .i64 F.dep, .int .i64 F.fuel, .int .i64 F.burn, .int .i64 F.res] 5 HY.out Tryz.rowFli rfl ?_; simp only [Act.put]; clear tok2))
    refine (HH2.out _ (HM.out.below HB.out) (HL.out.below HB.out) (HR.out.below HB.out)).mono ?_
    rintro e w3 ⟨rfl, hb3⟩
    clear x19
    have nHX := Lib.hid (HX.out.below hb3)
    have nHY := Lib.hid (HY.out.below hb3)
    have nHB := Lib.hid (bthen HB.out hb3)
    clear HX HY HB hb3
    have HX := nHX
    have HY := nHY
    have HB := nHB
    clear nHX nHY nHB
    have x19 := HX.out.cell 19
    simp only [List.getElem?_toArray, List.getElem?_cons_succ, List.getElem?_cons_zero] at x19
    have tok2 : True := trivial
    have tok3 : True := trivial
    have tok4 : True := trivial
    go_wp2_with (first | (have _t := tok3; refine wpl_mid rfl 29 _ rfl w.heap.size 0 rfl 34 #[.int .i64 M.places, .int .i64 M.any.a0, .int .i64 M.any.a1, .int .i64 M.any.a2, .int .i64 M.any.a3, .int .i64 M.any.a4, .int .i64 M.any.a5, .bool M.any.i, .bool M.any.s, .int .i64 M.mw, .int .i64 M.ms, .int .i64 M.mc, vF, vS, .int .i64 lw, .int .i64 ls, .int .i64 lc, .bool li, .bool lb, .slice A n c] #[.int .i64 M.places, .int .i64 M.any.a0, .int .i64 M.any.a1, .int .i64 M.any.a2, .int .i64 M.any.a3, .int .i64 M.any.a4, .int .i64 M.any.a5, .bool M.any.i, .bool M.any.s, .int .i64 M.mw, .int .i64 M.ms, .int .i64 M.mc, vF, vS] 14 HX.out Tryz.rowMet [] [.int .i64 lw, .int .i64 ls, .int .i64 lc, .bool li, .bool lb, .slice A n c] rfl rfl rfl ?_; simp only [Act.put]; clear tok3) | (have _t := tok4; refine wpl_mid rfl 31 _ rfl w.heap.size 14 rfl 34 #[.int .i64 M.places, .int .i64 M.any.a0, .int .i64 M.any.a1, .int .i64 M.any.a2, .int .i64 M.any.a3, .int .i64 M.any.a4, .int .i64 M.any.a5, .bool M.any.i, .bool M.any.s, .int .i64 M.mw, .int .i64 M.ms, .int .i64 M.mc, vF, vS, .int .i64 lw, .int .i64 ls, .int .i64 lc, .bool li, .bool lb, .slice A n c] #[.int .i64 lw, .int .i64 ls, .int .i64 lc, .bool li, .bool lb] 5 HX.out Tryz.rowMin [.int .i64 M.places, .int .i64 M.any.a0, .int .i64 M.any.a1, .int .i64 M.any.a2, .int .i64 M.any.a3, .int .i64 M.any.a4, .int .i64 M.any.a5, .bool M.any.i, .bool M.any.s, .int .i64 M.mw, .int .i64 M.ms, .int .i64 M.mc, vF, vS] [.slice A n c] rfl rfl rfl ?_; simp only [Act.put]; clear tok4) | (have _t := tok2; refine wpl_row rfl 37 (.tmp 4) rfl _ rfl #[vR, .int .i64 F.dep, .int .i64 F.fuel, .int .i64 F.burn, .int .i64 F.res] 5 HY.out Tryz.rowFli rfl ?_; simp only [Act.put]; clear tok2))
    refine (HS1.out _ (HM.out.below HB.out) (HL.out.below HB.out) (HR.out.below HB.out)).mono ?_
    rintro e w4 ⟨rfl, hb4⟩
    clear x19
    have nHX := Lib.hid (HX.out.below hb4)
    have nHY := Lib.hid (HY.out.below hb4)
    have nHB := Lib.hid (bthen HB.out hb4)
    clear HX HY HB hb4
    have HX := nHX
    have HY := nHY
    have HB := nHB
    clear nHX nHY nHB
    have x19 := HX.out.cell 19
    simp only [List.getElem?_toArray, List.getElem?_cons_succ, List.getElem?_cons_zero] at x19
    have tok2 : True := trivial
    have tok3 : True := trivial
    have tok4 : True := trivial
    go_wp2_with (first | (have _t := tok3; refine wpl_mid rfl 29 _ rfl w.heap.size 0 rfl 34 #[.int .i64 M.places, .int .i64 M.any.a0, .int .i64 M.any.a1, .int .i64 M.any.a2, .int .i64 M.any.a3, .int .i64 M.any.a4, .int .i64 M.any.a5, .bool M.any.i, .bool M.any.s, .int .i64 M.mw, .int .i64 M.ms, .int .i64 M.mc, vF, vS, .int .i64 lw, .int .i64 ls, .int .i64 lc, .bool li, .bool lb, .slice A n c] #[.int .i64 M.places, .int .i64 M.any.a0, .int .i64 M.any.a1, .int .i64 M.any.a2, .int .i64 M.any.a3, .int .i64 M.any.a4, .int .i64 M.any.a5, .bool M.any.i, .bool M.any.s, .int .i64 M.mw, .int .i64 M.ms, .int .i64 M.mc, vF, vS] 14 HX.out Tryz.rowMet [] [.int .i64 lw, .int .i64 ls, .int .i64 lc, .bool li, .bool lb, .slice A n c] rfl rfl rfl ?_; simp only [Act.put]; clear tok3) | (have _t := tok4; refine wpl_mid rfl 31 _ rfl w.heap.size 14 rfl 34 #[.int .i64 M.places, .int .i64 M.any.a0, .int .i64 M.any.a1, .int .i64 M.any.a2, .int .i64 M.any.a3, .int .i64 M.any.a4, .int .i64 M.any.a5, .bool M.any.i, .bool M.any.s, .int .i64 M.mw, .int .i64 M.ms, .int .i64 M.mc, vF, vS, .int .i64 lw, .int .i64 ls, .int .i64 lc, .bool li, .bool lb, .slice A n c] #[.int .i64 lw, .int .i64 ls, .int .i64 lc, .bool li, .bool lb] 5 HX.out Tryz.rowMin [.int .i64 M.places, .int .i64 M.any.a0, .int .i64 M.any.a1, .int .i64 M.any.a2, .int .i64 M.any.a3, .int .i64 M.any.a4, .int .i64 M.any.a5, .bool M.any.i, .bool M.any.s, .int .i64 M.mw, .int .i64 M.ms, .int .i64 M.mc, vF, vS] [.slice A n c] rfl rfl rfl ?_; simp only [Act.put]; clear tok4) | (have _t := tok2; refine wpl_row rfl 37 (.tmp 4) rfl _ rfl #[vR, .int .i64 F.dep, .int .i64 F.fuel, .int .i64 F.burn, .int .i64 F.res] 5 HY.out Tryz.rowFli rfl ?_; simp only [Act.put]; clear tok2))
    refine (HS2.out _ (HM.out.below HB.out) (HL.out.below HB.out) (HR.out.below HB.out)).mono ?_
    rintro e w5 ⟨rfl, hb5⟩
    clear x19
    have nHX := Lib.hid (HX.out.below hb5)
    have nHY := Lib.hid (HY.out.below hb5)
    have nHB := Lib.hid (bthen HB.out hb5)
    clear HX HY HB hb5
    have HX := nHX
    have HY := nHY
    have HB := nHB
    clear nHX nHY nHB
    go_wp2_with (first | (go_at_call 26; (with_reducible refine (rworks_c _).mono ?_); rintro e w1 ⟨rfl, hb1⟩; have nHX := Lib.hid (HX.out.below hb1); have nHY := Lib.hid (HY.out.below hb1); have nHB := Lib.hid (bthen HB.out hb1); have zz1 := hb1.size; clear HX HY HB hb1; have HX := nHX; have HY := nHY; have HB := nHB; clear nHX nHY nHB))
    go_ret
    exact ⟨rfl, HB.out⟩
  subst h0
  have hd := hdb rfl
  have hw30 : IntKind.i64.wrap (F.dep + 30) = F.dep + 30 := by rw [IntKind.wrap_i64]; omega
  by_cases h1 : F.dep + 30 < last
  case neg =>
    have h1z : decide (F.dep + 30 < last) = false := decide_eq_false h1
    clear h1 hdb
    go_wp2_with (first | (have _t := tok5; refine wpl_mid_g ?_ 29 _ rfl w.heap.size 0 rfl 34 #[.int .i64 M.places, .int .i64 M.any.a0, .int .i64 M.any.a1, .int .i64 M.any.a2, .int .i64 M.any.a3, .int .i64 M.any.a4, .int .i64 M.any.a5, .bool M.any.i, .bool M.any.s, .int .i64 M.mw, .int .i64 M.ms, .int .i64 M.mc, vF, vS, .int .i64 lw, .int .i64 ls, .int .i64 lc, .bool li, .bool lb, .slice A n c] #[.int .i64 M.places, .int .i64 M.any.a0, .int .i64 M.any.a1, .int .i64 M.any.a2, .int .i64 M.any.a3, .int .i64 M.any.a4, .int .i64 M.any.a5, .bool M.any.i, .bool M.any.s, .int .i64 M.mw, .int .i64 M.ms, .int .i64 M.mc, vF, vS] 14 HX.out Tryz.rowMet [] [.int .i64 lw, .int .i64 ls, .int .i64 lc, .bool li, .bool lb, .slice A n c] rfl rfl rfl ?_; (focus rfl); simp only [Act.put]; clear tok5) | (have _t := tok6; refine wpl_row_g ?_ 37 (.tmp 4) rfl _ rfl #[vR, .int .i64 F.dep, .int .i64 F.fuel, .int .i64 F.burn, .int .i64 F.res] 5 HY.out Tryz.rowFli rfl ?_; (focus rfl); simp only [Act.put]; clear tok6) | ((with_reducible refine (HCK.out _ (HM.out.below HB.out) (HL.out.below HB.out) (HR.out.below HB.out)).mono ?_); rintro e w1 ⟨rfl, hb1⟩; have nHX := Lib.hid (HX.out.below hb1); have nHY := Lib.hid (HY.out.below hb1); have nHB := Lib.hid (bthen HB.out hb1); have zz1 := hb1.size; clear HX HY HB hb1; have HX := nHX; have HY := nHY; have HB := nHB; clear nHX nHY nHB; (try clear zHX); have zHX := HX.out.lt; (try clear cHX19); have cHX19 := HX.out.cell 19; (try clear zHY); have zHY := HY.out.lt; (try clear cHY1); have cHY1 := HY.out.cell 1) | (have _t := tok3; refine wpl_mid rfl 29 _ rfl w.heap.size 0 rfl 34 #[.int .i64 M.places, .int .i64 M.any.a0, .int .i64 M.any.a1, .int .i64 M.any.a2, .int .i64 M.any.a3, .int .i64 M.any.a4, .int .i64 M.any.a5, .bool M.any.i, .bool M.any.s, .int .i64 M.mw, .int .i64 M.ms, .int .i64 M.mc, vF, vS, .int .i64 lw, .int .i64 ls, .int .i64 lc, .bool li, .bool lb, .slice A n c] #[.int .i64 M.places, .int .i64 M.any.a0, .int .i64 M.any.a1, .int .i64 M.any.a2, .int .i64 M.any.a3, .int .i64 M.any.a4, .int .i64 M.any.a5, .bool M.any.i, .bool M.any.s, .int .i64 M.mw, .int .i64 M.ms, .int .i64 M.mc, vF, vS] 14 HX.out Tryz.rowMet [] [.int .i64 lw, .int .i64 ls, .int .i64 lc, .bool li, .bool lb, .slice A n c] rfl rfl rfl ?_; simp only [Act.put]; clear tok3) | (have _t := tok4; refine wpl_mid rfl 31 _ rfl w.heap.size 14 rfl 34 #[.int .i64 M.places, .int .i64 M.any.a0, .int .i64 M.any.a1, .int .i64 M.any.a2, .int .i64 M.any.a3, .int .i64 M.any.a4, .int .i64 M.any.a5, .bool M.any.i, .bool M.any.s, .int .i64 M.mw, .int .i64 M.ms, .int .i64 M.mc, vF, vS, .int .i64 lw, .int .i64 ls, .int .i64 lc, .bool li, .bool lb, .slice A n c] #[.int .i64 lw, .int .i64 ls, .int .i64 lc, .bool li, .bool lb] 5 HX.out Tryz.rowMin [.int .i64 M.places, .int .i64 M.any.a0, .int .i64 M.any.a1, .int .i64 M.any.a2, .int .i64 M.any.a3, .int .i64 M.any.a4, .int .i64 M.any.a5, .bool M.any.i, .bool M.any.s, .int .i64 M.mw, .int .i64 M.ms, .int .i64 M.mc, vF, vS] [.slice A n c] rfl rfl rfl ?_; simp only [Act.put]; clear tok4) | (have _t := tok2; refine wpl_row rfl 37 (.tmp 4) rfl _ rfl #[vR, .int .i64 F.dep, .int .i64 F.fuel, .int .i64 F.burn, .int .i64 F.res] 5 HY.out Tryz.rowFli rfl ?_; simp only [Act.put]; clear tok2))
    clear cHX19 zHX cHY1 zHY
    refine (HH1.out _ (HM.out.below HB.out) (HL.out.below HB.out) (HR.out.below HB.out)).mono ?_
    rintro e w2 ⟨rfl, hb2⟩
    clear x19
    have nHX := Lib.hid (HX.out.below hb2)
    have nHY := Lib.hid (HY.out.below hb2)
    have nHB := Lib.hid (bthen HB.out hb2)
    clear HX HY HB hb2
    have HX := nHX
    have HY := nHY
    have HB := nHB
    clear nHX nHY nHB
    have x19 := HX.out.cell 19
    simp only [List.getElem?_toArray, List.getElem?_cons_succ, List.getElem?_cons_zero] at x19
    have tok2 : True := trivial
    have tok3 : True := trivial
    have tok4 : True := trivial
    go_wp2_with (first | (have _t := tok3; refine wpl_mid rfl 29 _ rfl w.heap.size 0 rfl 34 #[.int .i64 M.places, .int .i64 M.any.a0, .int .i64 M.any.a1, .int .i64 M.any.a2, .int .i64 M.any.a3, .int .i64 M.any.a4, .int .i64 M.any.a5, .bool M.any.i, .bool M.any.s, .int .i64 M.mw, .int .i64 M.ms, .int .i64 M.mc, vF, vS, .int .i64 lw, .int .i64 ls, .int .i64 lc, .bool li, .bool lb, .slice A n c] #[.int .i64 M.places, .int .i64 M.any.a0, .int .i64 M.any.a1, .int .i64 M.any.a2, .int .i64 M.any.a3, .int .i64 M.any.a4, .int .i64 M.any.a5, .bool M.any.i, .bool M.any.s, .int .i64 M.mw, .int .i64 M.ms, .int .i64 M.mc, vF, vS] 14 HX.out Tryz.rowMet [] [.int .i64 lw, .int .i64 ls, .int .i64 lc, .bool li, .bool lb, .slice A n c] rfl rfl rfl ?_; simp only [Act.put]; clear tok3) | (have _t := tok4; refine wpl_mid rfl 31 _ rfl w.heap.size 14 rfl 34 #[.int .i64 M.places, .int .i64 M.any.a0, .int .i64 M.any.a1, .int .i64 M.any.a2, .int .i64 M.any.a3, .int .i64 M.any.a4, .int .i64 M.any.a5, .bool M.any.i, .bool M.any.s, .int .i64 M.mw, .int .i64 M.ms, .int .i64 M.mc, vF, vS, .int .i64 lw, .int .i64 ls, .int .i64 lc, .bool li, .bool lb, .slice A n c] #[.int .i64 lw, .int .i64 ls, .int .i64 lc, .bool li, .bool lb] 5 HX.out Tryz.rowMin [.int .i64 M.places, .int .i64 M.any.a0, .int .i64 M.any.a1, .int .i64 M.any.a2, .int .i64 M.any.a3, .int .i64 M.any.a4, .int .i64 M.any.a5, .bool M.any.i, .bool M.any.s, .int .i64 M.mw, .int .i64 M.ms, .int .i64 M.mc, vF, vS] [.slice A n c] rfl rfl rfl ?_; simp only [Act.put]; clear tok4) | (have _t := tok2; refine wpl_row rfl 37 (.tmp 4) rfl _ rfl #[vR, .int .i64 F.dep, .int .i64 F.fuel, .int .i64 F.burn, .int .i64 F.res] 5 HY.out Tryz.rowFli rfl ?_; simp only [Act.put]; clear tok2))
    refine (HH2.out _ (HM.out.below HB.out) (HL.out.below HB.out) (HR.out.below HB.out)).mono ?_
    rintro e w3 ⟨rfl, hb3⟩
    clear x19
    have nHX := Lib.hid (HX.out.below hb3)
    have nHY := Lib.hid (HY.out.below hb3)
    have nHB := Lib.hid (bthen HB.out hb3)
    clear HX HY HB hb3
    have HX := nHX
    have HY := nHY
    have HB := nHB
    clear nHX nHY nHB
    have x19 := HX.out.cell 19
    simp only [List.getElem?_toArray, List.getElem?_cons_succ, List.getElem?_cons_zero] at x19
    have tok2 : True := trivial
    have tok3 : True := trivial
    have tok4 : True := trivial
    go_wp2_with (first | (have _t := tok3; refine wpl_mid rfl 29 _ rfl w.heap.size 0 rfl 34 #[.int .i64 M.places, .int .i64 M.any.a0, .int .i64 M.any.a1, .int .i64 M.any.a2, .int .i64 M.any.a3, .int .i64 M.any.a4, .int .i64 M.any.a5, .bool M.any.i, .bool M.any.s, .int .i64 M.mw, .int .i64 M.ms, .int .i64 M.mc, vF, vS, .int .i64 lw, .int .i64 ls, .int .i64 lc, .bool li, .bool lb, .slice A n c] #[.int .i64 M.places, .int .i64 M.any.a0, .int .i64 M.any.a1, .int .i64 M.any.a2, .int .i64 M.any.a3, .int .i64 M.any.a4, .int .i64 M.any.a5, .bool M.any.i, .bool M.any.s, .int .i64 M.mw, .int .i64 M.ms, .int .i64 M.mc, vF, vS] 14 HX.out Tryz.rowMet [] [.int .i64 lw, .int .i64 ls, .int .i64 lc, .bool li, .bool lb, .slice A n c] rfl rfl rfl ?_; simp only [Act.put]; clear tok3) | (have _t := tok4; refine wpl_mid rfl 31 _ rfl w.heap.size 14 rfl 34 #[.int .i64 M.places, .int .i64 M.any.a0, .int .i64 M.any.a1, .int .i64 M.any.a2, .int .i64 M.any.a3, .int .i64 M.any.a4, .int .i64 M.any.a5, .bool M.any.i, .bool M.any.s, .int .i64 M.mw, .int .i64 M.ms, .int .i64 M.mc, vF, vS, .int .i64 lw, .int .i64 ls, .int .i64 lc, .bool li, .bool lb, .slice A n c] #[.int .i64 lw, .int .i64 ls, .int .i64 lc, .bool li, .bool lb] 5 HX.out Tryz.rowMin [.int .i64 M.places, .int .i64 M.any.a0, .int .i64 M.any.a1, .int .i64 M.any.a2, .int .i64 M.any.a3, .int .i64 M.any.a4, .int .i64 M.any.a5, .bool M.any.i, .bool M.any.s, .int .i64 M.mw, .int .i64 M.ms, .int .i64 M.mc, vF, vS] [.slice A n c] rfl rfl rfl ?_; simp only [Act.put]; clear tok4) | (have _t := tok2; refine wpl_row rfl 37 (.tmp 4) rfl _ rfl #[vR, .int .i64 F.dep, .int .i64 F.fuel, .int .i64 F.burn, .int .i64 F.res] 5 HY.out Tryz.rowFli rfl ?_; simp only [Act.put]; clear tok2))
    refine (HS1.out _ (HM.out.below HB.out) (HL.out.below HB.out) (HR.out.below HB.out)).mono ?_
    rintro e w4 ⟨rfl, hb4⟩
    clear x19
    have nHX := Lib.hid (HX.out.below hb4)
    have nHY := Lib.hid (HY.out.below hb4)
    have nHB := Lib.hid (bthen HB.out hb4)
    clear HX HY HB hb4
    have HX := nHX
    have HY := nHY
    have HB := nHB
    clear nHX nHY nHB
    have x19 := HX.out.cell 19
    simp only [List.getElem?_toArray, List.getElem?_cons_succ, List.getElem?_cons_zero] at x19
    have tok2 : True := trivial
    have tok3 : True := trivial
    have tok4 : True := trivial
    go_wp2_with (first | (have _t := tok3; refine wpl_mid rfl 29 _ rfl w.heap.size 0 rfl 34 #[.int .i64 M.places, .int .i64 M.any.a0, .int .i64 M.any.a1, .int .i64 M.any.a2, .int .i64 M.any.a3, .int .i64 M.any.a4, .int .i64 M.any.a5, .bool M.any.i, .bool M.any.s, .int .i64 M.mw, .int .i64 M.ms, .int .i64 M.mc, vF, vS, .int .i64 lw, .int .i64 ls, .int .i64 lc, .bool li, .bool lb, .slice A n c] #[.int .i64 M.places, .int .i64 M.any.a0, .int .i64 M.any.a1, .int .i64 M.any.a2, .int .i64 M.any.a3, .int .i64 M.any.a4, .int .i64 M.any.a5, .bool M.any.i, .bool M.any.s, .int .i64 M.mw, .int .i64 M.ms, .int .i64 M.mc, vF, vS] 14 HX.out Tryz.rowMet [] [.int .i64 lw, .int .i64 ls, .int .i64 lc, .bool li, .bool lb, .slice A n c] rfl rfl rfl ?_; simp only [Act.put]; clear tok3) | (have _t := tok4; refine wpl_mid rfl 31 _ rfl w.heap.size 14 rfl 34 #[.int .i64 M.places, .int .i64 M.any.a0, .int .i64 M.any.a1, .int .i64 M.any.a2, .int .i64 M.any.a3, .int .i64 M.any.a4, .int .i64 M.any.a5, .bool M.any.i, .bool M.any.s, .int .i64 M.mw, .int .i64 M.ms, .int .i64 M.mc, vF, vS, .int .i64 lw, .int .i64 ls, .int .i64 lc, .bool li, .bool lb, .slice A n c] #[.int .i64 lw, .int .i64 ls, .int .i64 lc, .bool li, .bool lb] 5 HX.out Tryz.rowMin [.int .i64 M.places, .int .i64 M.any.a0, .int .i64 M.any.a1, .int .i64 M.any.a2, .int .i64 M.any.a3, .int .i64 M.any.a4, .int .i64 M.any.a5, .bool M.any.i, .bool M.any.s, .int .i64 M.mw, .int .i64 M.ms, .int .i64 M.mc, vF, vS] [.slice A n c] rfl rfl rfl ?_; simp only [Act.put]; clear tok4) | (have _t := tok2; refine wpl_row rfl 37 (.tmp 4) rfl _ rfl #[vR, .int .i64 F.dep, .int .i64 F.fuel, .int .i64 F.burn, .int .i64 F.res] 5 HY.out Tryz.rowFli rfl ?_; simp only [Act.put]; clear tok2))
    refine (HS2.out _ (HM.out.below HB.out) (HL.out.below HB.out) (HR.out.below HB.out)).mono ?_
    rintro e w5 ⟨rfl, hb5⟩
    clear x19
    have nHX := Lib.hid (HX.out.below hb5)
    have nHY := Lib.hid (HY.out.below hb5)
    have nHB := Lib.hid (bthen HB.out hb5)
    clear HX HY HB hb5
    have HX := nHX
    have HY := nHY
    have HB := nHB
    clear nHX nHY nHB
    go_wp2_with (first | (go_at_call 26; (with_reducible refine (rworks_c _).mono ?_); rintro e w1 ⟨rfl, hb1⟩; have nHX := Lib.hid (HX.out.below hb1); have nHY := Lib.hid (HY.out.below hb1); have nHB := Lib.hid (bthen HB.out hb1); have zz1 := hb1.size; clear HX HY HB hb1; have HX := nHX; have HY := nHY; have HB := nHB; clear nHX nHY nHB))
    go_ret
    exact ⟨rfl, HB.out⟩
  have h1z : decide (F.dep + 30 < last) = true := decide_eq_true h1
  by_cases h2 : last ≤ 2000
  case pos =>
    have h2z : decide (last ≤ 2000) = true := decide_eq_true h2
    clear hdb
    go_wp2_with (first | (have _t := tok5; refine wpl_mid_g ?_ 29 _ rfl w.heap.size 0 rfl 34 #[.int .i64 M.places, .int .i64 M.any.a0, .int .i64 M.any.a1, .int .i64 M.any.a2, .int .i64 M.any.a3, .int .i64 M.any.a4, .int .i64 M.any.a5, .bool M.any.i, .bool M.any.s, .int .i64 M.mw, .int .i64 M.ms, .int .i64 M.mc, vF, vS, .int .i64 lw, .int .i64 ls, .int .i64 lc, .bool li, .bool lb, .slice A n c] #[.int .i64 M.places, .int .i64 M.any.a0, .int .i64 M.any.a1, .int .i64 M.any.a2, .int .i64 M.any.a3, .int .i64 M.any.a4, .int .i64 M.any.a5, .bool M.any.i, .bool M.any.s, .int .i64 M.mw, .int .i64 M.ms, .int .i64 M.mc, vF, vS] 14 HX.out Tryz.rowMet [] [.int .i64 lw, .int .i64 ls, .int .i64 lc, .bool li, .bool lb, .slice A n c] rfl rfl rfl ?_; (focus rfl); simp only [Act.put]; clear tok5) | (have _t := tok6; refine wpl_row_g ?_ 37 (.tmp 4) rfl _ rfl #[vR, .int .i64 F.dep, .int .i64 F.fuel, .int .i64 F.burn, .int .i64 F.res] 5 HY.out Tryz.rowFli rfl ?_; (focus rfl); simp only [Act.put]; clear tok6) | ((with_reducible refine (HCK.out _ (HM.out.below HB.out) (HL.out.below HB.out) (HR.out.below HB.out)).mono ?_); rintro e w1 ⟨rfl, hb1⟩; have nHX := Lib.hid (HX.out.below hb1); have nHY := Lib.hid (HY.out.below hb1); have nHB := Lib.hid (bthen HB.out hb1); have zz1 := hb1.size; clear HX HY HB hb1; have HX := nHX; have HY := nHY; have HB := nHB; clear nHX nHY nHB; (try clear zHX); have zHX := HX.out.lt; (try clear cHX19); have cHX19 := HX.out.cell 19; (try clear zHY); have zHY := HY.out.lt; (try clear cHY1); have cHY1 := HY.out.cell 1) | (go_at_call 26; (with_reducible refine (rworks_c _).mono ?_); rintro e w1 ⟨rfl, hb1⟩; have nHX := Lib.hid (HX.out.below hb1); have nHY := Lib.hid (HY.out.below hb1); have nHB := Lib.hid (bthen HB.out hb1); have zz1 := hb1.size; clear HX HY HB hb1; have HX := nHX; have HY := nHY; have HB := nHB; clear nHX nHY nHB))
    go_ret
    exact ⟨rfl, HB.out⟩
  have h2z : decide (last ≤ 2000) = false := decide_eq_false h2
  clear hdb
  go_wp2_with (first | (have _t := tok5; refine wpl_mid_g ?_ 29 _ rfl w.heap.size 0 rfl 34 #[.int .i64 M.places, .int .i64 M.any.a0, .int .i64 M.any.a1, .int .i64 M.any.a2, .int .i64 M.any.a3, .int .i64 M.any.a4, .int .i64 M.any.a5, .bool M.any.i, .bool M.any.s, .int .i64 M.mw, .int .i64 M.ms, .int .i64 M.mc, vF, vS, .int .i64 lw, .int .i64 ls, .int .i64 lc, .bool li, .bool lb, .slice A n c] #[.int .i64 M.places, .int .i64 M.any.a0, .int .i64 M.any.a1, .int .i64 M.any.a2, .int .i64 M.any.a3, .int .i64 M.any.a4, .int .i64 M.any.a5, .bool M.any.i, .bool M.any.s, .int .i64 M.mw, .int .i64 M.ms, .int .i64 M.mc, vF, vS] 14 HX.out Tryz.rowMet [] [.int .i64 lw, .int .i64 ls, .int .i64 lc, .bool li, .bool lb, .slice A n c] rfl rfl rfl ?_; (focus rfl); simp only [Act.put]; clear tok5) | (have _t := tok6; refine wpl_row_g ?_ 37 (.tmp 4) rfl _ rfl #[vR, .int .i64 F.dep, .int .i64 F.fuel, .int .i64 F.burn, .int .i64 F.res] 5 HY.out Tryz.rowFli rfl ?_; (focus rfl); simp only [Act.put]; clear tok6) | ((with_reducible refine (HCK.out _ (HM.out.below HB.out) (HL.out.below HB.out) (HR.out.below HB.out)).mono ?_); rintro e w1 ⟨rfl, hb1⟩; have nHX := Lib.hid (HX.out.below hb1); have nHY := Lib.hid (HY.out.below hb1); have nHB := Lib.hid (bthen HB.out hb1); have zz1 := hb1.size; clear HX HY HB hb1; have HX := nHX; have HY := nHY; have HB := nHB; clear nHX nHY nHB; (try clear zHX); have zHX := HX.out.lt; (try clear cHX19); have cHX19 := HX.out.cell 19; (try clear zHY); have zHY := HY.out.lt; (try clear cHY1); have cHY1 := HY.out.cell 1) | (have _t := tok3; refine wpl_mid rfl 29 _ rfl w.heap.size 0 rfl 34 #[.int .i64 M.places, .int .i64 M.any.a0, .int .i64 M.any.a1, .int .i64 M.any.a2, .int .i64 M.any.a3, .int .i64 M.any.a4, .int .i64 M.any.a5, .bool M.any.i, .bool M.any.s, .int .i64 M.mw, .int .i64 M.ms, .int .i64 M.mc, vF, vS, .int .i64 lw, .int .i64 ls, .int .i64 lc, .bool li, .bool lb, .slice A n c] #[.int .i64 M.places, .int .i64 M.any.a0, .int .i64 M.any.a1, .int .i64 M.any.a2, .int .i64 M.any.a3, .int .i64 M.any.a4, .int .i64 M.any.a5, .bool M.any.i, .bool M.any.s, .int .i64 M.mw, .int .i64 M.ms, .int .i64 M.mc, vF, vS] 14 HX.out Tryz.rowMet [] [.int .i64 lw, .int .i64 ls, .int .i64 lc, .bool li, .bool lb, .slice A n c] rfl rfl rfl ?_; simp only [Act.put]; clear tok3) | (have _t := tok4; refine wpl_mid rfl 31 _ rfl w.heap.size 14 rfl 34 #[.int .i64 M.places, .int .i64 M.any.a0, .int .i64 M.any.a1, .int .i64 M.any.a2, .int .i64 M.any.a3, .int .i64 M.any.a4, .int .i64 M.any.a5, .bool M.any.i, .bool M.any.s, .int .i64 M.mw, .int .i64 M.ms, .int .i64 M.mc, vF, vS, .int .i64 lw, .int .i64 ls, .int .i64 lc, .bool li, .bool lb, .slice A n c] #[.int .i64 lw, .int .i64 ls, .int .i64 lc, .bool li, .bool lb] 5 HX.out Tryz.rowMin [.int .i64 M.places, .int .i64 M.any.a0, .int .i64 M.any.a1, .int .i64 M.any.a2, .int .i64 M.any.a3, .int .i64 M.any.a4, .int .i64 M.any.a5, .bool M.any.i, .bool M.any.s, .int .i64 M.mw, .int .i64 M.ms, .int .i64 M.mc, vF, vS] [.slice A n c] rfl rfl rfl ?_; simp only [Act.put]; clear tok4) | (have _t := tok2; refine wpl_row rfl 37 (.tmp 4) rfl _ rfl #[vR, .int .i64 F.dep, .int .i64 F.fuel, .int .i64 F.burn, .int .i64 F.res] 5 HY.out Tryz.rowFli rfl ?_; simp only [Act.put]; clear tok2))
  clear cHX19 zHX cHY1 zHY
  refine (HH1.out _ (HM.out.below HB.out) (HL.out.below HB.out) (HR.out.below HB.out)).mono ?_
  rintro e w2 ⟨rfl, hb2⟩
  clear x19
  have nHX := Lib.hid (HX.out.below hb2)
  have nHY := Lib.hid (HY.out.below hb2)
  have nHB := Lib.hid (bthen HB.out hb2)
  clear HX HY HB hb2
  have HX := nHX
  have HY := nHY
  have HB := nHB
  clear nHX nHY nHB
  have x19 := HX.out.cell 19
  simp only [List.getElem?_toArray, List.getElem?_cons_succ, List.getElem?_cons_zero] at x19
  have tok2 : True := trivial
  have tok3 : True := trivial
  have tok4 : True := trivial
  go_wp2_with (first | (have _t := tok3; refine wpl_mid rfl 29 _ rfl w.heap.size 0 rfl 34 #[.int .i64 M.places, .int .i64 M.any.a0, .int .i64 M.any.a1, .int .i64 M.any.a2, .int .i64 M.any.a3, .int .i64 M.any.a4, .int .i64 M.any.a5, .bool M.any.i, .bool M.any.s, .int .i64 M.mw, .int .i64 M.ms, .int .i64 M.mc, vF, vS, .int .i64 lw, .int .i64 ls, .int .i64 lc, .bool li, .bool lb, .slice A n c] #[.int .i64 M.places, .int .i64 M.any.a0, .int .i64 M.any.a1, .int .i64 M.any.a2, .int .i64 M.any.a3, .int .i64 M.any.a4, .int .i64 M.any.a5, .bool M.any.i, .bool M.any.s, .int .i64 M.mw, .int .i64 M.ms, .int .i64 M.mc, vF, vS] 14 HX.out Tryz.rowMet [] [.int .i64 lw, .int .i64 ls, .int .i64 lc, .bool li, .bool lb, .slice A n c] rfl rfl rfl ?_; simp only [Act.put]; clear tok3) | (have _t := tok4; refine wpl_mid rfl 31 _ rfl w.heap.size 14 rfl 34 #[.int .i64 M.places, .int .i64 M.any.a0, .int .i64 M.any.a1, .int .i64 M.any.a2, .int .i64 M.any.a3, .int .i64 M.any.a4, .int .i64 M.any.a5, .bool M.any.i, .bool M.any.s, .int .i64 M.mw, .int .i64 M.ms, .int .i64 M.mc, vF, vS, .int .i64 lw, .int .i64 ls, .int .i64 lc, .bool li, .bool lb, .slice A n c] #[.int .i64 lw, .int .i64 ls, .int .i64 lc, .bool li, .bool lb] 5 HX.out Tryz.rowMin [.int .i64 M.places, .int .i64 M.any.a0, .int .i64 M.any.a1, .int .i64 M.any.a2, .int .i64 M.any.a3, .int .i64 M.any.a4, .int .i64 M.any.a5, .bool M.any.i, .bool M.any.s, .int .i64 M.mw, .int .i64 M.ms, .int .i64 M.mc, vF, vS] [.slice A n c] rfl rfl rfl ?_; simp only [Act.put]; clear tok4) | (have _t := tok2; refine wpl_row rfl 37 (.tmp 4) rfl _ rfl #[vR, .int .i64 F.dep, .int .i64 F.fuel, .int .i64 F.burn, .int .i64 F.res] 5 HY.out Tryz.rowFli rfl ?_; simp only [Act.put]; clear tok2))
  refine (HH2.out _ (HM.out.below HB.out) (HL.out.below HB.out) (HR.out.below HB.out)).mono ?_
  rintro e w3 ⟨rfl, hb3⟩
  clear x19
  have nHX := Lib.hid (HX.out.below hb3)
  have nHY := Lib.hid (HY.out.below hb3)
  have nHB := Lib.hid (bthen HB.out hb3)
  clear HX HY HB hb3
  have HX := nHX
  have HY := nHY
  have HB := nHB
  clear nHX nHY nHB
  have x19 := HX.out.cell 19
  simp only [List.getElem?_toArray, List.getElem?_cons_succ, List.getElem?_cons_zero] at x19
  have tok2 : True := trivial
  have tok3 : True := trivial
  have tok4 : True := trivial
  go_wp2_with (first | (have _t := tok3; refine wpl_mid rfl 29 _ rfl w.heap.size 0 rfl 34 #[.int .i64 M.places, .int .i64 M.any.a0, .int .i64 M.any.a1, .int .i64 M.any.a2, .int .i64 M.any.a3, .int .i64 M.any.a4, .int .i64 M.any.a5, .bool M.any.i, .bool M.any.s, .int .i64 M.mw, .int .i64 M.ms, .int .i64 M.mc, vF, vS, .int .i64 lw, .int .i64 ls, .int .i64 lc, .bool li, .bool lb, .slice A n c] #[.int .i64 M.places, .int .i64 M.any.a0, .int .i64 M.any.a1, .int .i64 M.any.a2, .int .i64 M.any.a3, .int .i64 M.any.a4, .int .i64 M.any.a5, .bool M.any.i, .bool M.any.s, .int .i64 M.mw, .int .i64 M.ms, .int .i64 M.mc, vF, vS] 14 HX.out Tryz.rowMet [] [.int .i64 lw, .int .i64 ls, .int .i64 lc, .bool li, .bool lb, .slice A n c] rfl rfl rfl ?_; simp only [Act.put]; clear tok3) | (have _t := tok4; refine wpl_mid rfl 31 _ rfl w.heap.size 14 rfl 34 #[.int .i64 M.places, .int .i64 M.any.a0, .int .i64 M.any.a1, .int .i64 M.any.a2, .int .i64 M.any.a3, .int .i64 M.any.a4, .int .i64 M.any.a5, .bool M.any.i, .bool M.any.s, .int .i64 M.mw, .int .i64 M.ms, .int .i64 M.mc, vF, vS, .int .i64 lw, .int .i64 ls, .int .i64 lc, .bool li, .bool lb, .slice A n c] #[.int .i64 lw, .int .i64 ls, .int .i64 lc, .bool li, .bool lb] 5 HX.out Tryz.rowMin [.int .i64 M.places, .int .i64 M.any.a0, .int .i64 M.any.a1, .int .i64 M.any.a2, .int .i64 M.any.a3, .int .i64 M.any.a4, .int .i64 M.any.a5, .bool M.any.i, .bool M.any.s, .int .i64 M.mw, .int .i64 M.ms, .int .i64 M.mc, vF, vS] [.slice A n c] rfl rfl rfl ?_; simp only [Act.put]; clear tok4) | (have _t := tok2; refine wpl_row rfl 37 (.tmp 4) rfl _ rfl #[vR, .int .i64 F.dep, .int .i64 F.fuel, .int .i64 F.burn, .int .i64 F.res] 5 HY.out Tryz.rowFli rfl ?_; simp only [Act.put]; clear tok2))
  refine (HS1.out _ (HM.out.below HB.out) (HL.out.below HB.out) (HR.out.below HB.out)).mono ?_
  rintro e w4 ⟨rfl, hb4⟩
  clear x19
  have nHX := Lib.hid (HX.out.below hb4)
  have nHY := Lib.hid (HY.out.below hb4)
  have nHB := Lib.hid (bthen HB.out hb4)
  clear HX HY HB hb4
  have HX := nHX
  have HY := nHY
  have HB := nHB
  clear nHX nHY nHB
  have x19 := HX.out.cell 19
  simp only [List.getElem?_toArray, List.getElem?_cons_succ, List.getElem?_cons_zero] at x19
  have tok2 : True := trivial
  have tok3 : True := trivial
  have tok4 : True := trivial
  go_wp2_with (first | (have _t := tok3; refine wpl_mid rfl 29 _ rfl w.heap.size 0 rfl 34 #[.int .i64 M.places, .int .i64 M.any.a0, .int .i64 M.any.a1, .int .i64 M.any.a2, .int .i64 M.any.a3, .int .i64 M.any.a4, .int .i64 M.any.a5, .bool M.any.i, .bool M.any.s, .int .i64 M.mw, .int .i64 M.ms, .int .i64 M.mc, vF, vS, .int .i64 lw, .int .i64 ls, .int .i64 lc, .bool li, .bool lb, .slice A n c] #[.int .i64 M.places, .int .i64 M.any.a0, .int .i64 M.any.a1, .int .i64 M.any.a2, .int .i64 M.any.a3, .int .i64 M.any.a4, .int .i64 M.any.a5, .bool M.any.i, .bool M.any.s, .int .i64 M.mw, .int .i64 M.ms, .int .i64 M.mc, vF, vS] 14 HX.out Tryz.rowMet [] [.int .i64 lw, .int .i64 ls, .int .i64 lc, .bool li, .bool lb, .slice A n c] rfl rfl rfl ?_; simp only [Act.put]; clear tok3) | (have _t := tok4; refine wpl_mid rfl 31 _ rfl w.heap.size 14 rfl 34 #[.int .i64 M.places, .int .i64 M.any.a0, .int .i64 M.any.a1, .int .i64 M.any.a2, .int .i64 M.any.a3, .int .i64 M.any.a4, .int .i64 M.any.a5, .bool M.any.i, .bool M.any.s, .int .i64 M.mw, .int .i64 M.ms, .int .i64 M.mc, vF, vS, .int .i64 lw, .int .i64 ls, .int .i64 lc, .bool li, .bool lb, .slice A n c] #[.int .i64 lw, .int .i64 ls, .int .i64 lc, .bool li, .bool lb] 5 HX.out Tryz.rowMin [.int .i64 M.places, .int .i64 M.any.a0, .int .i64 M.any.a1, .int .i64 M.any.a2, .int .i64 M.any.a3, .int .i64 M.any.a4, .int .i64 M.any.a5, .bool M.any.i, .bool M.any.s, .int .i64 M.mw, .int .i64 M.ms, .int .i64 M.mc, vF, vS] [.slice A n c] rfl rfl rfl ?_; simp only [Act.put]; clear tok4) | (have _t := tok2; refine wpl_row rfl 37 (.tmp 4) rfl _ rfl #[vR, .int .i64 F.dep, .int .i64 F.fuel, .int .i64 F.burn, .int .i64 F.res] 5 HY.out Tryz.rowFli rfl ?_; simp only [Act.put]; clear tok2))
  refine (HS2.out _ (HM.out.below HB.out) (HL.out.below HB.out) (HR.out.below HB.out)).mono ?_
  rintro e w5 ⟨rfl, hb5⟩
  clear x19
  have nHX := Lib.hid (HX.out.below hb5)
  have nHY := Lib.hid (HY.out.below hb5)
  have nHB := Lib.hid (bthen HB.out hb5)
  clear HX HY HB hb5
  have HX := nHX
  have HY := nHY
  have HB := nHB
  clear nHX nHY nHB
  go_wp2_with (first | (go_at_call 26; (with_reducible refine (rworks_c _).mono ?_); rintro e w1 ⟨rfl, hb1⟩; have nHX := Lib.hid (HX.out.below hb1); have nHY := Lib.hid (HY.out.below hb1); have nHB := Lib.hid (bthen HB.out hb1); have zz1 := hb1.size; clear HX HY HB hb1; have HX := nHX; have HY := nHY; have HB := nHB; clear nHX nHY nHB))
  go_ret
  exact ⟨rfl, HB.out⟩
end Go.Proofs.YtbgkbdhdkpjcdaaGreat
