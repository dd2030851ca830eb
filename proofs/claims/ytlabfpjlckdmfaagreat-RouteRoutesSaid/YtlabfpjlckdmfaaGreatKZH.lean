/- Texts joined: KZH. -/
import Derived.Test.YtlabfpjlckdmfaaGreatKAW
import Derived.Test.YtlabfpjlckdmfaaGreatKAS
import Derived.Test.YtlabfpjlckdmfaaGreatKAV
set_option linter.all false
namespace Go.Proofs.YtlabfpjlckdmfaaGreat
open Go Go.RowKit Go.Proofs
set_option maxRecDepth 100000
set_option maxHeartbeats 8000000
def rnqA (gC gV gW gO gM : Nat) (vI vO : Value) (M : MetD) (vF vS : Value) (P : Nat) (lt tt : Tab) (G : FliD) (vR : Value) (lw ls lc : Int) (li lb : Bool) (GB : Bool) : Nat → Value → World → Prop
 | 0, v, _ => v = .pointer (some ⟨gV, 0, none⟩)
 | 1, v, _ => v = .pointer (some ⟨gV, 0, none⟩)
 | 2, v, _ => v = .pointer (some ⟨gV, 0, none⟩)
 | 3, v, _ => v = .pointer (some ⟨gW, 0, none⟩)
 | 4, v, _ => v = vI
 | 5, v, _ => v = vO
 | 6, v, w => (∃ y, v = .tuple #[y, .bool GB] ∧ (G.okB P lt = true → FliAt w y (.pointer (some ⟨gW, 0, none⟩)) M vF vS P lt tt G vR lw ls lc li lb))
 | 7, v, w => (∃ y, v = .tuple #[y, .bool GB] ∧ (G.okB P lt = true → FliAt w y (.pointer (some ⟨gW, 0, none⟩)) M vF vS P lt tt G vR lw ls lc li lb))
 | 8, v, w => (G.okB P lt = true → FliAt w v (.pointer (some ⟨gW, 0, none⟩)) M vF vS P lt tt G vR lw ls lc li lb)
 | 9, v, _ => v = .bool GB
 | 10, v, w => (G.okB P lt = true → FliAt w v (.pointer (some ⟨gW, 0, none⟩)) M vF vS P lt tt G vR lw ls lc li lb)
 | _, _, _ => True
theorem rnqA_below {gC gV gW gO gM : Nat} {vI vO : Value} {M : MetD} {vF vS : Value} {P : Nat} {lt tt : Tab} {G : FliD} {vR : Value} {lw ls lc : Int} {li lb : Bool} {GB : Bool} (k : Nat) (v : Value) (w w' : World) (hb : Below w.heap.size w w') (h : rnqA gC gV gW gO gM vI vO M vF vS P lt tt G vR lw ls lc li lb GB k v w) : rnqA gC gV gW gO gM vI vO M vF vS P lt tt G vR lw ls lc li lb GB k v w' := by
 unfold rnqA at *
 split at h <;> first | exact h | exact (by obtain ⟨y, e, h⟩ := h; exact ⟨y, e, fun q => (h q).below hb⟩) | exact (fun q => (h q).below hb)
def rnqB (gF : Nat) (y : Value) (fi dep : Int) : Nat → Value → World → Prop
 | 0, v, _ => v = y
 | 1, v, _ => v = .int .i64 fi
 | 2, v, _ => v = .pointer (some ⟨gF, 1, none⟩)
 | 3, v, _ => v = .int .i64 dep
 | 4, v, _ => v = .int .i64 (fi - dep)
 | _, _, _ => True
theorem rnqB_below {gF : Nat} {y : Value} {fi dep : Int} (k : Nat) (v : Value) (w w' : World) (hb : Below w.heap.size w w') (h : rnqB gF y fi dep k v w) : rnqB gF y fi dep k v w' := by
 unfold rnqB at *
 split at h <;> first | exact h
def rtE (E : Int) (P : Nat) (tgt : Int) (best : Option (List Nat)) : Int := if E = 0 then (if 0 ≤ tgt ∧ tgt ≤ (P : Int) - 1 then (match best with | none => 3 | some _ => 0) else 1) else E
attribute [local go_sem] Oper.semAt_some
def RtOut (RE : Int) (best : Option (List Nat)) (w : World) (v : Value) : Prop := (RE = 0 → ∃ ys, best = some ys ∧ SlI w v ys.length (rF ys)) ∧ (RE ≠ 0 → v = .slice none 0 0)
theorem rRoute_c (M : MetD) (vF vS : Value) (lw ls lc : Int) (li lb : Bool) (A : Option Addr) (n c : Nat) (S : Tab) (F : FliD) (vR : Value) (tgt : Int) (w : World) (hM : MetAt w vF vS M) (hc1 : n ≤ c) (hc2 : c ≤ 9223372036854775807) (hL : RecsAt w A n 3 (nV S)) (hR : SlI w vR F.m F.R) :
  Calls Tryz.prog 13 #[.agg #[.int .i64 M.places, .int .i64 M.any.a0, .int .i64 M.any.a1, .int .i64 M.any.a2, .int .i64 M.any.a3, .int .i64 M.any.a4, .int .i64 M.any.a5, .bool M.any.i, .bool M.any.s, .int .i64 M.mw, .int .i64 M.ms, .int .i64 M.mc, vF, vS], .agg #[.int .i64 lw, .int .i64 ls, .int .i64 lc, .bool li, .bool lb], .slice A n c, .agg #[vR, .int .i64 F.dep, .int .i64 F.fuel, .int .i64 F.burn, .int .i64 F.res], .int .i64 tgt] w fun e w' => ∃ v, e = .returned (.tuple #[v, .int .i64 (rtE (nfE (netME M lw ls lc S n) M S n F) M.places.toNat tgt (F.bestR M.places.toNat (lgT S n) (timT S n M.places.toNat) (opM M lw ls lc li lb) (rtsL M.places.toNat (lgT S n) tgt.toNat 7 [(F.R 0).toNat] (F.R 0).toNat)))]) ∧ RowKit.Below w.heap.size w w' ∧ RtOut (rtE (nfE (netME M lw ls lc S n) M S n F) M.places.toNat tgt (F.bestR M.places.toNat (lgT S n) (timT S n M.places.toNat) (opM M lw ls lc li lb) (rtsL M.places.toNat (lgT S n) tgt.toNat 7 [(F.R 0).toNat] (F.R 0).toNat))) (F.bestR M.places.toNat (lgT S n) (timT S n M.places.toNat) (opM M lw ls lc li lb) (rtsL M.places.toNat (lgT S n) tgt.toNat 7 [(F.R 0).toNat] (F.R 0).toNat)) w' v := by
 have HR := hI9 hR
 obtain ⟨AR, cR, rfl, -, -, -⟩ := hR
 have hnf := fun gl w1 h1 hm h2 h3 => newFlightM2_c M vF vS gl lw ls lc li lb A n c S F (.slice AR F.m cR) w1 h1 hm hc1 hc2 h2 h3
 have HM := hI9 hM
 have HL := hI9 hL
 clear hM hL
 obtain ⟨E, hE⟩ : ∃ q, q = nfE (netME M lw ls lc S n) M S n F := ⟨_, rfl⟩
 obtain ⟨P, hPP⟩ : ∃ P, P = M.places.toNat := ⟨_, rfl⟩
 rw [← hE] at hnf ⊢
 rw [← hPP]
 have HNF := hI9 hnf
 clear hnf
 obtain ⟨BE, hBE⟩ : ∃ q, q = F.bestR P (lgT S n) (timT S n P) (opM M lw ls lc li lb) (rtsL P (lgT S n) tgt.toNat 7 [(F.R 0).toNat] (F.R 0).toNat) := ⟨_, rfl⟩
 rw [← hBE]
 obtain ⟨RE, hRE⟩ : ∃ q, q = rtE E P tgt BE := ⟨_, rfl⟩
 rw [← hRE]
 have HBE0 := hI9 hBE
 clear hBE
 have HRE := hI9 hRE
 clear hRE
 refine calls_of_wp_rng Tryz.func13 rfl ?_
 simp only [Tryz.ntmps13, List.size_toArray, List.length_cons, List.length_nil, Nat.reduceAdd, Nat.reduceSub, Array.replicate_succ, Array.replicate_zero, List.push_toArray, List.append_toArray, List.nil_append, List.cons_append]
 go_wp2_with (fail)
 have _x := frm3 w #[.int .i64 M.places, .int .i64 M.any.a0, .int .i64 M.any.a1, .int .i64 M.any.a2, .int .i64 M.any.a3, .int .i64 M.any.a4, .int .i64 M.any.a5, .bool M.any.i, .bool M.any.s, .int .i64 M.mw, .int .i64 M.ms, .int .i64 M.mc, vF, vS] 29 #[.int .i64 lw, .int .i64 ls, .int .i64 lc, .bool li, .bool lb] 31 #[.slice AR F.m cR, .int .i64 F.dep, .int .i64 F.fuel, .int .i64 F.burn, .int .i64 F.res] 37
 have HX := hI9 _x.1
 have HI := hI9 _x.2.1
 have HF := hI9 _x.2.2.1
 have HB := hI9 _x.2.2.2.1
 have zW := _x.2.2.2.2
 clear _x
 generalize World.alloc (World.alloc (World.alloc w _) _) _ = W at *
 refine (HNF.out _ _ (HM.out.below HB.out) HI.out (HL.out.below HB.out) (HR.out.below HB.out)).mono ?_
 rintro e w2 ⟨v, rfl, hb2, hv, hnil⟩
 have HV := hI9 hv
 clear hv HNF
 have nHX := hI9 (HX.out.below hb2)
 have nHI := hI9 (HI.out.below hb2)
 have nHF := hI9 (HF.out.below hb2)
 have nHB := hI9 (bthen HB.out hb2)
 clear HX HI HF HB hb2
 have HX := nHX
 have HI := nHI
 have HF := nHF
 have HB := nHB
 clear nHX nHI nHF nHB
 by_cases h0 : E = 0
 case neg =>
  have hz : (E != 0) = true := by simpa using h0
  obtain rfl := hnil h0
  have HE := hI9 h0
  clear h0 HV hnil hE
  go_wp2_with (fail)
  refine rng_ret2 rfl rfl ⟨.slice none 0 0, ?_, bal HB.out _, fun h => absurd ((show RE = E from by rw [HRE.out]; unfold rtE; rw [if_neg HE.out]).symm.trans h) HE.out, fun _ => rfl⟩
  rw [show RE = E from by rw [HRE.out]; unfold rtE; rw [if_neg HE.out]]
  rfl
 clear hnil
 obtain ⟨hme, hok⟩ : netME M lw ls lc S n = 0 ∧ F.okB P (lgT S n) = true := by
  rw [h0] at hE
  unfold nfE at hE
  rw [hPP]
  by_cases h1 : netME M lw ls lc S n = 0
  ·rw [if_pos h1] at hE
   refine ⟨h1, ?_⟩
   cases e : F.okB M.places.toNat (lgT S n)
   ·rw [e] at hE; cases hE
   ·rfl
  ·rw [if_neg h1] at hE
   exact absurd hE.symm h1
 subst h0
 obtain ⟨n1, n2, -⟩ := netME_ok hme
 obtain ⟨hP, hp8, hlin, hnet⟩ := net_facts n1 n2
 obtain ⟨vN, hfi⟩ := HV.out rfl
 obtain ⟨gV, vA, rfl, f1, f2, f3, f4, f5⟩ := hfi
 obtain ⟨gW, rfl⟩ : ∃ g, vN = .pointer (some ⟨g, 0, none⟩) := by
  obtain ⟨g, -, -, -, -, -, -, -, -, -, -, e, -⟩ := f2
  exact ⟨g, e⟩
 have HV1 := hI9 f1
 have HV2 := hI9 f2
 rw [← hPP] at hP hp8 hnet hlin HV2
 have HNT := hI9 hnet
 have HLI := hI9 hlin
 have HOK := hI9 (FliD.okB_iff.1 hok)
 have HPE := hI9 hP
 clear HV hE f1 f2 f3 f4 f5 hme hok n1 n2 hlin hnet hPP
 have x0 := (HX.out.alloc (.cells #[.pointer (some ⟨gV, 0, none⟩)] 75)).cell 0
 simp only [List.getElem?_toArray, List.getElem?_cons_zero] at x0
 rw [hP] at x0
 have hp1 : wrap64 ((P : Int) - 1) = (P : Int) - 1 := wrap64_in (by omega) (by omega)
 obtain ⟨bI, hbI⟩ : ∃ q, q = inB tgt 0 ((P : Int) - 1) := ⟨_, rfl⟩
 have hw := fun w1 => rwithin_c tgt 0 ((P : Int) - 1) w1
 rw [← hbI] at hw
 have HWI := hI9 hw
 have HBI := hI9 hbI
 clear hw hbI hP
 cases bI
 case false =>
  go_wp2_with (first | (go_at_call 28; (with_reducible refine (HWI.out _).mono ?_); rintro e w1 ⟨rfl, rfl⟩))
  refine rng_ret2 rfl rfl ⟨.slice none 0 0, ?_, bal HB.out _, fun h => absurd ((show RE = 1 from by rw [HRE.out]; unfold rtE; rw [if_pos rfl, if_neg (fun h => by have := inB_iff.2 h; rw [← HBI.out] at this; cases this)]).symm.trans h) (by decide), fun _ => rfl⟩
  rw [show RE = 1 from by rw [HRE.out]; unfold rtE; rw [if_pos rfl, if_neg (fun h => by have := inB_iff.2 h; rw [← HBI.out] at this; cases this)]]
  rfl
 have hti := inB_iff.1 HBI.out.symm
 obtain ⟨tg, rfl⟩ : ∃ q : Nat, tgt = q := Int.eq_ofNat_of_zero_le hti.1
 go_upto_region 6 with (first | (go_at_call 28; (with_reducible refine (HWI.out _).mono ?_); rintro e w1 ⟨rfl, rfl⟩))
 have HC := hI9 (Blk.new w2 75 #[.pointer (some ⟨gV, 0, none⟩)])
 have hbC := bal (RowKit.Below.refl w2.heap.size w2) (.cells #[.pointer (some ⟨gV, 0, none⟩)] 75)
 have nHV1 := hI9 (HV1.out.below hbC)
 have nHV2 := hI9 (HV2.out.below hbC)
 clear HV1 HV2 x0
 have HV1 := nHV1
 have HV2 := nHV2
 clear nHV1 nHV2
 have nHX := hI9 (HX.out.below hbC)
 have nHI := hI9 (HI.out.below hbC)
 have nHF := hI9 (HF.out.below hbC)
 have nHB := hI9 (bthen HB.out hbC)
 clear HX HI HF HB hbC
 have HX := nHX
 have HI := nHI
 have HF := nHF
 have HB := nHB
 clear nHX nHI nHF nHB
 generalize w2.alloc (.cells #[.pointer (some ⟨gV, 0, none⟩)] 75) = w0 at *
 generalize w2.heap.size = gC at *
 obtain ⟨hf1, hf2⟩ := (FliD.nums_iff.1 HOK.out.1).1
 obtain ⟨bR, oR, rfl, hbR, hcR⟩ : ∃ b off, AR = some ⟨b, off, none⟩ ∧ b < w.heap.size ∧ w.cell? ⟨b, off, none⟩ = some (.int .i64 (F.R 0)) := by
  obtain ⟨A9, c9, e9, -, -, r9⟩ := HR.out
  cases e9
  obtain ⟨b9, o9, e, hb9, hc9⟩ := r9 (by omega)
  exact ⟨b9, o9, e, hb9, by have := hc9 0 (by omega) 0 (by omega); simpa [nL] using this⟩
 obtain ⟨fr, hfr⟩ : ∃ q : Nat, F.R 0 = q := Int.eq_ofNat_of_zero_le (HOK.out.2.1.1 0 (by omega)).1
 have hfrP : fr < P := by have := (HOK.out.2.1.1 0 (by omega)).2; omega
 rw [hfr] at hcR
 have HFR := hI9 hfr
 have HCR := hI9 hcR
 clear hfr hcR
 have hbA := bal (bal (RowKit.Below.refl w0.heap.size w0) (.cells #[.slice none 0 0] 35)) (.cells #[.int .i64 0] 3)
 have c0 := (HC.out.below hbA).cell 0
 have v0 := (HV1.out.below hbA).cell 0
 have f0 := (HF.out.below hbA).cell 0
 have r0 := ((bthen HB.out hbA).cell (p := ⟨bR, oR, none⟩) hbR).trans HCR.out
 simp only [gtA, gtS, gtZ] at c0 v0 f0
 have hm0 : (0 : Int) < (F.m : Int) := by omega
 clear hbA
 go_wp2_with (fail)
 (refine wp_region_drawnt 9 (by kernel_rfl) (by kernel_rfl) ?_; simp only [List.take_succ_cons, List.take_zero, List.drop_succ_cons, List.drop_zero]; (repeat (go_big_quiet_step ( fail))); refine wpQuiet_nil ?_; rintro _ ⟨nq, rfl⟩)
 have F1 := hI9 (((Blk.new w0 35 #[.slice none 0 0]).alloc (.cells #[.int .i64 0] 3)).below (bdn (RowKit.Below.refl _ _) nq))
 have F2 := hI9 ((Blk.new (w0.alloc (.cells #[.slice none 0 0] 35)) 3 #[.int .i64 0]).below (bdn (RowKit.Below.refl _ _) nq))
 have F3 := hI9 (bthen (bal (bal (RowKit.Below.refl w0.heap.size w0) (.cells #[.slice none 0 0] 35)) (.cells #[.int .i64 0] 3)) (bdn (RowKit.Below.refl _ _) nq))
 have hs3 : (((w0.alloc (.cells #[.slice none 0 0] 35)).alloc (.cells #[.int .i64 0] 3)).drewN nq).heap.size = w0.heap.size + 2 := by
  show ((w0.alloc (.cells #[.slice none 0 0] 35)).alloc (.cells #[.int .i64 0] 3)).heap.size = _
  simp
 rw [World.size_alloc] at F2
 clear c0 v0 f0 r0
 generalize World.drewN _ nq = w3 at *
 have hro := routes_c gW (fr : Int) (tg : Int) w3
 rw [hs3] at hro
 have HRO := hI9 hro
 have HS3 := hI9 hs3
 clear hro hs3
 go_wp2_with (go_at_call 29; (with_reducible refine HRO.out.mono ?_); rintro e w5 ⟨rfl, hb5, hs5, b0, b1, b2⟩; have B0 := hI9 b0; have B1 := hI9 b1; have B2 := hI9 b2; have HS5 := hI9 hs5; have HB5 := hI9 hb5; clear hb5 hs5 b0 b1 b2 HRO)
 have G1 := hI9 (show Blk w5 w0.heap.size 35 #[.slice none 0 0] from (HB5.out.block _ (by omega)).trans F1.out)
 have G2 := hI9 (show Blk w5 (w0.heap.size + 1) 3 #[.int .i64 0] from (HB5.out.block _ (by omega)).trans F2.out)
 have G3 := hI9 (F3.out.trans (HB5.out.mono (by omega)))
 have GS := hI9 (show w5.heap.size = w0.heap.size + 5 from HS5.out)
 clear F1 F2 F3 HS3 HS5 HB5
 refine wp_range (gf := 55) rfl (enters_of Tryz.func55 (by kernel_rfl) rfl) (w0.heap.size + 5) GS.out (fun r W => ∃ q, RtJ F P (lgT S n) (timT S n P) (opM M lw ls lc li lb) w0 (.pointer (some ⟨gW, 0, none⟩)) tg r (rtsL P (lgT S n) tg 7 [fr] fr) q W) ?call ?done
 case done =>
  intro fn w3
  generalize recR fn _ _ _ _ _ = rq
  rintro ⟨q, hj⟩
  refine ⟨hj.l, ?_⟩
  have HBB := hI9 (show BE = F.bestR P (lgT S n) (timT S n P) (opM M lw ls lc li lb) (rtsL P (lgT S n) tg 7 [fr] fr) from by rw [HBE0.out, HFR.out]; rfl)
  have hf := hj.f
  rw [← HBB.out] at hf
  have ho : ∀ b, b ≠ w0.heap.size + 6 → (w3.putObj (w0.heap.size + 6) (.loop { rq with state := .exhausted })).heap[b]? = w3.heap[b]? := fun b hb => World.putObj_heap_other hb
  have HD := hI9 ((ho (w0.heap.size + 5) (by omega)).trans hj.d)
  have HJb := hI9 (hj.b.trans (belowK_b (w := w0) (o' := .loop { rq with state := .exhausted }) (Nat.le_refl _) w3 (w0.heap.size + 6) _ (by omega) hj.l rfl rfl))
  have h0o := ho w0.heap.size (by omega)
  have hl := hj.l
  clear ho hj HBB HBE0
  cases BE with
  | none =>
   have hR0 : RE = 3 := by rw [HRE.out]; unfold rtE; rw [if_pos rfl, if_pos hti]
   have HR3 := hI9 hR0
   have r0 := (show Blk (w3.putObj (w0.heap.size + 6) (.loop { rq with state := .exhausted })) w0.heap.size 35 #[.slice none 0 0] from h0o.trans hf.1).cell 0
   simp only [List.getElem?_toArray, List.getElem?_cons_zero] at r0
   clear hf h0o hl hR0
   go_wp2
   have hbE := HJb.out.trans (belowK_b (n₀ := w0.heap.size) (w := w0) (o' := .deferred none) (Nat.le_refl _) _ (w0.heap.size + 5) _ (by omega) HD.out rfl rfl)
   refine rng_ret2m rfl rfl HD.out ⟨.slice none 0 0, ?_, bthen HB.out hbE, fun h => absurd (HR3.out.symm.trans h) (by decide), fun _ => rfl⟩
   rw [HR3.out]
   rfl
  | some ys =>
   have hR0 : RE = 0 := by rw [HRE.out]; unfold rtE; rw [if_pos rfl, if_pos hti]
   have HR3 := hI9 hR0
   obtain ⟨g0, o0, k0, -, -, h0, -, hs⟩ := hf
   have HSL := hI9 ((hs.put (o' := .loop { rq with state := .exhausted }) hl).putD (o' := .deferred none) HD.out)
   have r0 := (show Blk (w3.putObj (w0.heap.size + 6) (.loop { rq with state := .exhausted })) w0.heap.size 35 #[.slice (some ⟨g0, o0, none⟩) ys.length k0] from h0o.trans h0).cell 0
   simp only [List.getElem?_toArray, List.getElem?_cons_zero] at r0
   clear h0 hs h0o hl hR0
   go_wp2
   have hbE := HJb.out.trans (belowK_b (n₀ := w0.heap.size) (w := w0) (o' := .deferred none) (Nat.le_refl _) _ (w0.heap.size + 5) _ (by omega) HD.out rfl rfl)
   refine rng_ret2m rfl rfl HD.out ⟨.slice (some ⟨g0, o0, none⟩) ys.length k0, ?_, bthen HB.out hbE, fun _ => ⟨ys, rfl, HSL.out⟩, fun h => absurd HR3.out h⟩
   rw [HR3.out]
   rfl
 case call =>
  intro fn
  generalize hr : recR fn _ _ _ _ _ = r
  obtain ⟨W1, hW1⟩ : ∃ W1, W1 = (w5.alloc (.deferred (some []))).alloc (.loop r) := ⟨_, rfl⟩
  rw [← hW1]
  have hsz : W1.heap.size = w0.heap.size + 7 := by rw [hW1]; simp [GS.out]
  have J0 := hI9 (show RtJ F P (lgT S n) (timT S n P) (opM M lw ls lc li lb) w0 (.pointer (some ⟨gW, 0, none⟩)) tg r [] none W1 from by
   rw [hW1]
   refine ⟨bal (bal G3.out _) _, by simp [GS.out], (B0.out.alloc _).alloc _, (B2.out.alloc _).alloc _, ?_, ?_, ⟨(G1.out.alloc _).alloc _, (G2.out.alloc _).alloc _, rfl⟩⟩
   ·have h1 := World.alloc_heap_new w5 (.deferred (some []))
    rw [GS.out] at h1
    exact (Below.heap_alloc _ _ _ (by simp [GS.out])).trans h1
   ·have h1 := World.alloc_heap_new (w5.alloc (.deferred (some []))) (.loop r)
    rw [World.size_alloc, GS.out] at h1
    exact h1)
  have hgF : Blk W1 (w0.heap.size + 2 + 1) 3 #[.int .i64 (fr : Int)] := by rw [hW1]; exact (B1.out.alloc _).alloc _
  have hit := rtIter_c M vF vS (.pointer (some ⟨gW, 0, none⟩)) P (lgT S n) (timT S n P) w0 HV2.out HPE.out hp8 (w0.heap.size + 2 + 1) (w0.heap.size + 2 + 2) (w0.heap.size + 2) (w0.heap.size + 5 + 1) fr tg (fun pre q W => RtJ F P (lgT S n) (timT S n P) (opM M lw ls lc li lb) w0 (.pointer (some ⟨gW, 0, none⟩)) tg r pre q W) W1 J0.out.b hgF J0.out.t J0.out.n (by omega) hfrP
  rw [hsz] at hit
  refine (hit (fun pre q W W' h k => h.step k) ?_ J0.out).mono fun e w' h => h
  clear hit hgF J0 hsz hW1 W1
  intro pre q xs v Wr hj hs
  obtain ⟨rb, hrb⟩ : ∃ rb, rb = { r with state := LoopState.busy } := ⟨_, rfl⟩
  have HRR := hI9 (show ({ rb with state := .ready, pending := none } : Loop) = r by rw [hrb, ← hr]; rfl)
  have HJ := hI9 (hj.put FliD.bestR_pos rb)
  have HS := hI9 (hs.put (o' := .loop rb) hj.l)
  have HK := hI9 (RdK.put (n0 := w0.heap.size) (B := w0.heap.size + 7) (gT := w0.heap.size + 4) (gN := w0.heap.size + 2) (.loop rb) hj.l (by omega) (by omega) (by omega) (by omega))
  have hl := hj.l
  rw [← hr] at hl hrb
  clear hj hs
  refine round_at rb hrb hl rfl ?_
  clear hl hrb hr
  simp only [List.zip_toArray, List.zip_cons_cons, List.zip_nil_left, List.zip_nil_right, List.foldl_toArray', List.foldl_toArray, List.foldl_cons, List.foldl_nil, List.setIfInBounds_toArray, List.set_cons_succ, List.set_cons_zero]
  gi_upto_region 10 with fail
  generalize Wr.putObj (w0.heap.size + 6) (.loop rb) = W2 at HJ HS HK ⊢
  refine ⟨trivial, ?_⟩
  obtain ⟨Ax, cx, rfl, -, -, -⟩ := id HS.out
  have b2 := HJ.out.b
  have q0 := (HF.out.below b2).cell 0
  have q1 := (HF.out.below b2).cell 1
  have q2 := (HF.out.below b2).cell 2
  have q3 := (HF.out.below b2).cell 3
  have q4 := (HF.out.below b2).cell 4
  simp only [gtA, gtS, gtZ] at q0 q1 q2 q3 q4
  clear b2
  gi_upto_region 12 with fail
  clear q0 q1 q2 q3 q4
  have hbO := bal (RowKit.Below.refl W2.heap.size W2) (.cells #[.slice Ax xs.length cx, .int .i64 F.dep, .int .i64 F.fuel, .int .i64 F.burn, .int .i64 F.res] 37)
  have HO := hI9 (Blk.new W2 37 #[.slice Ax xs.length cx, .int .i64 F.dep, .int .i64 F.fuel, .int .i64 F.burn, .int .i64 F.res])
  have nJ := hI9 (HJ.out.below FliD.bestR_pos hbO)
  have nS := hI9 (HS.out.below hbO)
  have nK := hI9 (HK.out.trans (RdK.below hbO (by have := HJ.out.sz; omega) (by have := HJ.out.sz; omega) (by have := HJ.out.sz; omega)))
  clear HJ HS HK hbO
  have HJ := nJ
  have HS := nS
  have HK := nK
  clear nJ nS nK
  generalize W2.alloc (.cells #[.slice Ax xs.length cx, .int .i64 F.dep, .int .i64 F.fuel, .int .i64 F.burn, .int .i64 F.res] 37) = W3 at *
  generalize W2.heap.size = gO at *
  obtain ⟨GB, hGB⟩ : ∃ q, q = F.goodR P (lgT S n) (timT S n P) (opM M lw ls lc li lb) xs := ⟨_, rfl⟩
  have HSF := hI9 (show ∀ w1, NetAt w1 (.pointer (some ⟨gW, 0, none⟩)) M vF vS P (lgT S n) (timT S n P) → MetAt w1 vF vS M → SlI w1 (.slice Ax xs.length cx) xs.length (rF xs) →
    Calls Tryz.prog 30 #[.pointer (some ⟨gW, 0, none⟩), .agg #[.int .i64 lw, .int .i64 ls, .int .i64 lc, .bool li, .bool lb], .agg #[.slice Ax xs.length cx, .int .i64 F.dep, .int .i64 F.fuel, .int .i64 F.burn, .int .i64 F.res]] w1 fun e w' => ∃ v, e = .returned (.tuple #[v, .bool GB]) ∧ RowKit.Below w1.heap.size w1 w' ∧ ((F.wayR xs).okB P (lgT S n) = true → FliAt w' v (.pointer (some ⟨gW, 0, none⟩)) M vF vS P (lgT S n) (timT S n P) (F.wayR xs) (.slice Ax xs.length cx) lw ls lc li lb) from by
   intro w1 h1 h2 h3
   rw [hGB]
   exact fsafe2_c M vF vS (.pointer (some ⟨gW, 0, none⟩)) P (lgT S n) (timT S n P) (F.wayR xs) (.slice Ax xs.length cx) lw ls lc li lb w1 h1 h2 HPE.out hp8 HLI.out (timT_in HNT.out hp8.2) h3)
  have HGB := hI9 hGB
  clear hGB
  refine rnd_region_spec 11 (rnqA gC gV gW gO (w.heap.size + 1) (.agg #[.int .i64 lw, .int .i64 ls, .int .i64 lc, .bool li, .bool lb]) (.agg #[.slice Ax xs.length cx, .int .i64 F.dep, .int .i64 F.fuel, .int .i64 F.burn, .int .i64 F.res]) M vF vS P (lgT S n) (timT S n P) (F.wayR xs) (.slice Ax xs.length cx) lw ls lc li lb GB) (fun i => false) (by kernel_rfl) (fun ⟨_, _, h⟩ => h) (by kernel_rfl) (by kernel_rfl) rnqA_below ?hop1 ?htail1
  case hop1 =>
   simp only [List.take_succ_cons, List.take_zero, allOps]
   refine ⟨?_, ?_, ?_, ?_, ?_, ?_, ?_, ?_, ?_, ?_, ?_, trivial⟩
   all_goals intro u A w1 hA hb hd
   all_goals simp only [putAll, dstOf, gtA, gtS, gtZ, Option.bind_some, Option.bind, Act.put, List.setIfInBounds_toArray, List.set_cons_succ, List.set_cons_zero] at hA; subst hA
   all_goals have HB1 := hI9 hb
   ·clear hb hd
    have c0 := (HC.out.below (bthen HJ.out.b HB1.out)).cell 0
    simp only [List.getElem?_toArray, List.getElem?_cons_zero] at c0
    go_wp2
    exact ⟨_, rfl, Below.refl _ _, rfl, fun h => absurd h (by decide)⟩
   ·have d0 : u 0 = _ := hd 0 (by omega) (by kernel_rfl)
    clear hb hd
    rw [d0]
    clear d0
    go_wp2
    exact ⟨_, rfl, Below.refl _ _, rfl, fun h => absurd h (by decide)⟩
   ·have d1 : u 1 = _ := hd 1 (by omega) (by kernel_rfl)
    clear hb hd
    rw [d1]
    clear d1
    go_wp2
    exact ⟨_, rfl, Below.refl _ _, rfl, fun h => absurd h (by decide)⟩
   ·have d2 : u 2 = _ := hd 2 (by omega) (by kernel_rfl)
    clear hb hd
    rw [d2]
    clear d2
    have v0 := (HV1.out.below (bthen HJ.out.b HB1.out)).cell 0
    simp only [List.getElem?_toArray, List.getElem?_cons_zero] at v0
    go_wp2
    exact ⟨_, rfl, Below.refl _ _, rfl, fun h => absurd h (by decide)⟩
   ·clear hb hd
    have m0 := (HI.out.below (bthen HJ.out.b HB1.out)).cell 0
    have m1 := (HI.out.below (bthen HJ.out.b HB1.out)).cell 1
    have m2 := (HI.out.below (bthen HJ.out.b HB1.out)).cell 2
    have m3 := (HI.out.below (bthen HJ.out.b HB1.out)).cell 3
    have m4 := (HI.out.below (bthen HJ.out.b HB1.out)).cell 4
    simp only [gtA, gtS, gtZ] at m0 m1 m2 m3 m4
    go_wp2
    exact ⟨_, rfl, Below.refl _ _, rfl, fun h => absurd h (by decide)⟩
   ·clear hb hd
    have m0 := (HO.out.below HB1.out).cell 0
    have m1 := (HO.out.below HB1.out).cell 1
    have m2 := (HO.out.below HB1.out).cell 2
    have m3 := (HO.out.below HB1.out).cell 3
    have m4 := (HO.out.below HB1.out).cell 4
    simp only [gtA, gtS, gtZ] at m0 m1 m2 m3 m4
    go_wp2
    exact ⟨_, rfl, Below.refl _ _, rfl, fun h => absurd h (by decide)⟩
   ·have d3 : u 3 = _ := hd 3 (by omega) (by kernel_rfl)
    have d4 : u 4 = _ := hd 4 (by omega) (by kernel_rfl)
    have d5 : u 5 = _ := hd 5 (by omega) (by kernel_rfl)
    clear hb hd
    rw [d3, d4, d5]
    clear d3 d4 d5
    go_wp2_with (go_at_call 30; (with_reducible refine (HSF.out _ (HV2.out.below (bthen HJ.out.b HB1.out)) (HM.out.below (bthen HB.out (bthen HJ.out.b HB1.out))) (HS.out.below HB1.out)).mono ?_); rintro e w2 ⟨y, rfl, hb2, hy⟩)
    exact ⟨_, rfl, hb2, ⟨y, rfl, hy⟩, fun h => absurd h (by decide)⟩
   ·have d6 := hd 6 (by omega) (by kernel_rfl)
    clear hb hd
    obtain ⟨y, ey, hy⟩ := d6
    rw [ey]
    have HYY := hI9 hy
    clear hy ey
    go_wp2
    exact ⟨_, rfl, RowKit.Below.refl _ _, ⟨y, rfl, HYY.out⟩, fun h => absurd h (by decide)⟩
   ·have d7 := hd 7 (by omega) (by kernel_rfl)
    clear hb hd
    obtain ⟨y, ey, hy⟩ := d7
    rw [ey]
    have HYY := hI9 hy
    clear hy ey
    go_wp2
    exact ⟨_, rfl, RowKit.Below.refl _ _, HYY.out, fun h => absurd h (by decide)⟩
   ·have d7 := hd 7 (by omega) (by kernel_rfl)
    clear hb hd
    obtain ⟨y, ey, hy⟩ := d7
    rw [ey]
    clear hy ey
    go_wp2
    exact ⟨_, rfl, Below.refl _ _, rfl, fun h => absurd h (by decide)⟩
   ·have d0 : u 0 = _ := hd 0 (by omega) (by kernel_rfl)
    have d1 : u 1 = _ := hd 1 (by omega) (by kernel_rfl)
    have d2 : u 2 = _ := hd 2 (by omega) (by kernel_rfl)
    have d3 : u 3 = _ := hd 3 (by omega) (by kernel_rfl)
    have d4 : u 4 = _ := hd 4 (by omega) (by kernel_rfl)
    have d5 : u 5 = _ := hd 5 (by omega) (by kernel_rfl)
    have d6 := hd 6 (by omega) (by kernel_rfl)
    have d7 := hd 7 (by omega) (by kernel_rfl)
    have d8 := hd 8 (by omega) (by kernel_rfl)
    clear hb hd
    rw [d0, d1, d2, d3, d4, d5]
    clear d0 d1 d2 d3 d4 d5
    have HYY := hI9 d8
    clear d8
    go_wp2
    exact ⟨_, rfl, RowKit.Below.refl _ _, HYY.out, fun h => absurd h (by decide)⟩
  case htail1 =>
   intro u A w1 hA hb hd hf
   simp only [putAll, dstOf, gtA, gtS, gtZ, Option.bind_some, Option.bind, Act.put, List.setIfInBounds_toArray, List.set_cons_succ, List.set_cons_zero] at hA; subst hA
   have e0 : u 0 = _ := hd 0 (by omega)
   have e1 : u 1 = _ := hd 1 (by omega)
   have e2 : u 2 = _ := hd 2 (by omega)
   have e3 : u 3 = _ := hd 3 (by omega)
   have e4 : u 4 = _ := hd 4 (by omega)
   have e5 : u 5 = _ := hd 5 (by omega)
   have p6 := hd 6 (by omega)
   have p7 := hd 7 (by omega)
   have p8 := hd 8 (by omega)
   have e9 : u 9 = _ := hd 9 (by omega)
   have p10 := hd 10 (by omega)
   first | rw [e0, e1, e2, e3, e4, e5, e9] | simp only [e0, e1, e2, e3, e4, e5, e9]
   clear e0 e1 e2 e3 e4 e5 e9
   clear hd hf
   have nJ := hI9 (HJ.out.below FliD.bestR_pos hb)
   have nS := hI9 (HS.out.below hb)
   have nK := hI9 (HK.out.trans (RdK.below hb (by have := HJ.out.sz; omega) (by have := HJ.out.sz; omega) (by have := HJ.out.sz; omega)))
   have HFY := hI9 p10
   clear HJ HS HK hb HO HSF p6 p7 p8 p10
   have HJ := nJ
   have HS := nS
   have HK := nK
   clear nJ nS nK
   generalize u 10 = y at *
   cases GB
   case false =>
    have nJ := hI9 (HJ.out.like (FliD.bestR_skip (xs := xs) HGB.out.symm))
    clear HJ HS HFY
    go_wp2
    gi_wp2
    exact nJ.out.endR HRR.out HK.out (Or.inl rfl)
   obtain ⟨hok, -⟩ : (F.wayR xs).okB P (lgT S n) = true ∧ True := by
    have := HGB.out
    unfold FliD.goodR at this
    have h2 := this.symm
    rw [Bool.and_eq_true] at h2
    exact ⟨h2.1, trivial⟩
   have hfy := HFY.out hok
   have hok2 := FliD.okB_iff.1 hok
   have hnu := FliD.nums_iff.1 hok2.1
   obtain ⟨fi, hfi⟩ : ∃ q, q = F.finR (lgT S n) xs := ⟨_, rfl⟩
   have hfb : 0 ≤ fi ∧ fi ≤ 4000 := by
    rw [hfi]
    have h1 := FliD.at_in (F := F.wayR xs) HLI.out hnu.2.1 ((F.wayR xs).m - 1) (by
     have h0 := hok2.2.1
     rw [show (F.wayR xs).m - 1 + 1 = (F.wayR xs).m by omega]
     exact h0)
    have h2 := hnu.1.2
    show 0 ≤ (F.wayR xs).at_ (lgT S n) ((F.wayR xs).m - 1) ∧ (F.wayR xs).at_ (lgT S n) ((F.wayR xs).m - 1) ≤ 4000
    omega
   have hdp : 0 ≤ F.dep ∧ F.dep ≤ 2000 := hnu.2.1
   have hwd : wrap64 (fi - F.dep) = fi - F.dep := wrap64_in (by omega) (by omega)
   have HAR := hI9 (show ∀ w2, FliAt w2 y (.pointer (some ⟨gW, 0, none⟩)) M vF vS P (lgT S n) (timT S n P) (F.wayR xs) (.slice Ax xs.length cx) lw ls lc li lb → Calls Tryz.prog 31 #[y] w2 fun e w' => e = .returned (.int .i64 fi) ∧ RowKit.Below w2.heap.size w2 w' from by
    intro w2 h
    rw [hfi]
    exact arrival_c M vF vS y _ P _ _ (F.wayR xs) _ lw ls lc li lb w2 h hnu.1.1)
   have HFI := hI9 hfi
   have HYY := hI9 hfy
   have HXL := hI9 (show 1 ≤ xs.length ∧ xs.length ≤ 8 from hnu.1)
   clear hok hfy hok2 hnu hfi HFY
   go_wp2
   gi_upto_region 14 with fail
   refine rnd_region_spec 5 (rnqB (w.heap.size + 1 + 1) y fi F.dep) (fun i => false) (by kernel_rfl) (fun ⟨_, _, h⟩ => h) (by kernel_rfl) (by kernel_rfl) rnqB_below ?hop2 ?htail2
   case hop2 =>
    simp only [List.take_succ_cons, List.take_zero, allOps]
    refine ⟨?_, ?_, ?_, ?_, ?_, trivial⟩
    all_goals intro u A w1 hA hb hd
    all_goals simp only [putAll, dstOf, gtA, gtS, gtZ, Option.bind_some, Option.bind, Act.put, List.setIfInBounds_toArray, List.set_cons_succ, List.set_cons_zero] at hA; subst hA
    all_goals have HB1 := hI9 hb
    ·clear hb hd
     go_wp2
     exact ⟨_, rfl, Below.refl _ _, rfl, fun h => absurd h (by decide)⟩
    ·have d0 : u 0 = _ := hd 0 (by omega) (by kernel_rfl)
     clear hb hd
     rw [d0]
     clear d0
     go_wp2_with (go_at_call 31; (with_reducible refine (HAR.out _ (HYY.out.below HB1.out)).mono ?_); rintro e w2 ⟨rfl, hb2⟩)
     exact ⟨_, rfl, hb2, rfl, fun h => absurd h (by decide)⟩
    ·clear hb hd
     go_wp2
     exact ⟨_, rfl, Below.refl _ _, rfl, fun h => absurd h (by decide)⟩
    ·have d2 : u 2 = _ := hd 2 (by omega) (by kernel_rfl)
     clear hb hd
     rw [d2]
     clear d2
     have q1 := (HF.out.below (bthen HJ.out.b HB1.out)).cell 1
     simp only [gtA, gtS, gtZ] at q1
     go_wp2
     exact ⟨_, rfl, Below.refl _ _, rfl, fun h => absurd h (by decide)⟩
    ·have d1 : u 1 = _ := hd 1 (by omega) (by kernel_rfl)
     have d3 : u 3 = _ := hd 3 (by omega) (by kernel_rfl)
     clear hb hd
     rw [d1, d3]
     clear d1 d3
     go_wp2
     exact ⟨_, rfl, Below.refl _ _, rfl, fun h => absurd h (by decide)⟩
   case htail2 =>
    intro u A w1 hA hb hd hf
    simp only [putAll, dstOf, gtA, gtS, gtZ, Option.bind_some, Option.bind, Act.put, List.setIfInBounds_toArray, List.set_cons_succ, List.set_cons_zero] at hA; subst hA
    have e0 : u 0 = _ := hd 0 (by omega)
    have e1 : u 1 = _ := hd 1 (by omega)
    have e2 : u 2 = _ := hd 2 (by omega)
    have e3 : u 3 = _ := hd 3 (by omega)
    have e4 : u 4 = _ := hd 4 (by omega)
    first | rw [e0, e1, e2, e3, e4] | simp only [e0, e1, e2, e3, e4]
    clear e0 e1 e2 e3 e4
    clear hd hf
    have nJ := hI9 (HJ.out.below FliD.bestR_pos hb)
    have nS := hI9 (HS.out.below hb)
    have nK := hI9 (HK.out.trans (RdK.below hb (by have := HJ.out.sz; omega) (by have := HJ.out.sz; omega) (by have := HJ.out.sz; omega)))
    clear HJ HS HK hb HAR HYY hwd
    have HJ := nJ
    have HS := nS
    have HK := nK
    clear nJ nS nK
    go_wp2
    gi_upto_region 15 with fail
    have HT := hI9 (show fi - F.dep = F.finR (lgT S n) xs - F.dep by rw [HFI.out])
    generalize fi - F.dep = T at *
    have hf := HJ.out.f
    have HBS := hI9 (fun h => FliD.bestR_take (F := F) (P := P) (lt := lgT S n) (tt := timT S n P) (op := opM M lw ls lc li lb) (pre := pre) (xs := xs) HGB.out.symm h)
    have HLS := hI9 (fun h => FliD.bestR_less (F := F) (P := P) (lt := lgT S n) (tt := timT S n P) (op := opM M lw ls lc li lb) (pre := pre) (xs := xs) h)
    cases hb : F.bestR P (lgT S n) (timT S n P) (opM M lw ls lc li lb) pre with
    | none =>
     rw [hb] at hf HBS
     have HBE := hI9 (HBS.out rfl)
     obtain ⟨h0, h1, -⟩ := hf
     have F0 := hI9 h0
     have F1 := hI9 h1
     have r0 := h0.cell 0
     have r1 := h1.cell 0
     simp only [List.getElem?_toArray, List.getElem?_cons_zero] at r0 r1
     clear h0 h1 hb HBS HLS
     refine rnd_region (by kernel_rfl) (fun ⟨_, _, h⟩ => h) ?_
     go_wp2
     gi_upto_region 16 with fail
     have HCL := hI9 (clNum_c _ _ _ w1 HXL.out.1 (by have := HXL.out.2; omega) HS.out)
     clear r0 r1
     refine rnd_region (by kernel_rfl) (fun ⟨_, _, h⟩ => h) ?_
     go_wp2_with (go_at_call 32; (with_reducible refine HCL.out.mono ?_); rintro e w2 ⟨v2, rfl, hs2, hb2, hq2⟩; have HS2 := hI9 hs2; obtain ⟨A2, c2, rfl, -, -, hr2⟩ := hs2; obtain ⟨g2, o2, rfl, hg2, -⟩ := hr2 HXL.out.1; have HB2 := hI9 hb2; have HG2 := hI9 (And.intro (hq2 g2 rfl) hg2); have z0 := (F0.out.below hb2).cell 0; have y0 := (F0.out.below hb2).frozen 0; have z1 := ((F1.out.below hb2).far' (g := w0.heap.size + 1) (f := w0.heap.size) (i := 0) (by omega) (.slice (some ⟨g2, o2, none⟩) xs.length c2)).cell 0; have y1 := ((F1.out.below hb2).far' (g := w0.heap.size + 1) (f := w0.heap.size) (i := 0) (by omega) (.slice (some ⟨g2, o2, none⟩) xs.length c2)).frozen 0; simp only [List.getElem?_toArray, List.getElem?_cons_zero] at z0 z1; clear hr2 hg2 hb2 hq2 HCL)
     gi_wp2
     have nJ := (HJ.out.below FliD.bestR_pos HB2.out).take HBE.out HS2.out (by have h1 := HJ.out.sz; have h2 := HG2.out.1; omega)
     rw [← HT.out] at nJ
     refine nJ.endR HRR.out (((HK.out.trans (RdK.below HB2.out (by have := HJ.out.sz; omega) (by have := HJ.out.sz; omega) (by have := HJ.out.sz; omega))).trans (RdK.set _ _ (Nat.le_refl _) (by omega) (by omega) (by omega))).trans (RdK.set _ _ (by omega) (by omega) (by omega) (by omega))) (Or.inr ⟨g2, rfl, ?_, ?_⟩)
     ·have h1 := HK.out.1.size
      have h2 := HG2.out.1
      omega
     ·have h2 := HG2.out.2
      simpa using h2
    | some ys =>
     rw [hb] at hf HBS HLS
     obtain ⟨g0, o0, k0, -, -, h0, h1, -⟩ := hf
     have F0 := hI9 h0
     have F1 := hI9 h1
     have r0 := h0.cell 0
     have r1 := h1.cell 0
     simp only [List.getElem?_toArray, List.getElem?_cons_zero] at r0 r1
     have HBT := hI9 (show F.betR (lgT S n) (some ys) xs = (decide (F.finR (lgT S n) xs < F.finR (lgT S n) ys) || (decide (F.finR (lgT S n) xs = F.finR (lgT S n) ys) && decide (xs.length < ys.length))) from rfl)
     have HHB := hI9 hb
     clear h0 h1 hb
     by_cases c1 : F.finR (lgT S n) xs < F.finR (lgT S n) ys
     ·have HBE := hI9 (HBS.out (by rw [HBT.out, decide_eq_true c1]; rfl))
      have hlt : T < F.finR (lgT S n) ys - F.dep := by have := HT.out; omega
      clear c1 HBS HLS HBT
      generalize F.finR (lgT S n) ys - F.dep = s at *
      refine rnd_region (by kernel_rfl) (fun ⟨_, _, h⟩ => h) ?_
      go_wp2
      gi_upto_region 16 with fail
      have HCL := hI9 (clNum_c _ _ _ w1 HXL.out.1 (by have := HXL.out.2; omega) HS.out)
      clear r0 r1
      refine rnd_region (by kernel_rfl) (fun ⟨_, _, h⟩ => h) ?_
      go_wp2_with (go_at_call 32; (with_reducible refine HCL.out.mono ?_); rintro e w2 ⟨v2, rfl, hs2, hb2, hq2⟩; have HS2 := hI9 hs2; obtain ⟨A2, c2, rfl, -, -, hr2⟩ := hs2; obtain ⟨g2, o2, rfl, hg2, -⟩ := hr2 HXL.out.1; have HB2 := hI9 hb2; have HG2 := hI9 (And.intro (hq2 g2 rfl) hg2); have z0 := (F0.out.below hb2).cell 0; have y0 := (F0.out.below hb2).frozen 0; have z1 := ((F1.out.below hb2).far' (g := w0.heap.size + 1) (f := w0.heap.size) (i := 0) (by omega) (.slice (some ⟨g2, o2, none⟩) xs.length c2)).cell 0; have y1 := ((F1.out.below hb2).far' (g := w0.heap.size + 1) (f := w0.heap.size) (i := 0) (by omega) (.slice (some ⟨g2, o2, none⟩) xs.length c2)).frozen 0; simp only [List.getElem?_toArray, List.getElem?_cons_zero] at z0 z1; clear hr2 hg2 hb2 hq2 HCL)
      gi_wp2
      have nJ := (HJ.out.below FliD.bestR_pos HB2.out).take HBE.out HS2.out (by have h1 := HJ.out.sz; have h2 := HG2.out.1; omega)
      rw [← HT.out] at nJ
      refine nJ.endR HRR.out (((HK.out.trans (RdK.below HB2.out (by have := HJ.out.sz; omega) (by have := HJ.out.sz; omega) (by have := HJ.out.sz; omega))).trans (RdK.set _ _ (Nat.le_refl _) (by omega) (by omega) (by omega))).trans (RdK.set _ _ (by omega) (by omega) (by omega) (by omega))) (Or.inr ⟨g2, rfl, ?_, ?_⟩)
      ·have h1 := HK.out.1.size
       have h2 := HG2.out.1
       omega
      ·have h2 := HG2.out.2
       simpa using h2
     ·by_cases c2 : F.finR (lgT S n) xs = F.finR (lgT S n) ys
      ·have hlt : ¬ T < F.finR (lgT S n) ys - F.dep := by have := HT.out; omega
       have heq : (T == F.finR (lgT S n) ys - F.dep) = true := by have := HT.out; simp; omega
       by_cases c3 : xs.length < ys.length
       ·have HBE := hI9 (HBS.out (by rw [HBT.out, decide_eq_false c1, decide_eq_true c2, decide_eq_true c3]; rfl))
        have hl3 : (xs.length : Int) < (ys.length : Int) := by omega
        clear c1 c2 c3 HBS HLS HBT
        generalize F.finR (lgT S n) ys - F.dep = s at *
        refine rnd_region (by kernel_rfl) (fun ⟨_, _, h⟩ => h) ?_
        go_wp2
        gi_upto_region 16 with fail
        have HCL := hI9 (clNum_c _ _ _ w1 HXL.out.1 (by have := HXL.out.2; omega) HS.out)
        clear r0 r1
        refine rnd_region (by kernel_rfl) (fun ⟨_, _, h⟩ => h) ?_
        go_wp2_with (go_at_call 32; (with_reducible refine HCL.out.mono ?_); rintro e w2 ⟨v2, rfl, hs2, hb2, hq2⟩; have HS2 := hI9 hs2; obtain ⟨A2, c2, rfl, -, -, hr2⟩ := hs2; obtain ⟨g2, o2, rfl, hg2, -⟩ := hr2 HXL.out.1; have HB2 := hI9 hb2; have HG2 := hI9 (And.intro (hq2 g2 rfl) hg2); have z0 := (F0.out.below hb2).cell 0; have y0 := (F0.out.below hb2).frozen 0; have z1 := ((F1.out.below hb2).far' (g := w0.heap.size + 1) (f := w0.heap.size) (i := 0) (by omega) (.slice (some ⟨g2, o2, none⟩) xs.length c2)).cell 0; have y1 := ((F1.out.below hb2).far' (g := w0.heap.size + 1) (f := w0.heap.size) (i := 0) (by omega) (.slice (some ⟨g2, o2, none⟩) xs.length c2)).frozen 0; simp only [List.getElem?_toArray, List.getElem?_cons_zero] at z0 z1; clear hr2 hg2 hb2 hq2 HCL)
        gi_wp2
        have nJ := (HJ.out.below FliD.bestR_pos HB2.out).take HBE.out HS2.out (by have h1 := HJ.out.sz; have h2 := HG2.out.1; omega)
        rw [← HT.out] at nJ
        refine nJ.endR HRR.out (((HK.out.trans (RdK.below HB2.out (by have := HJ.out.sz; omega) (by have := HJ.out.sz; omega) (by have := HJ.out.sz; omega))).trans (RdK.set _ _ (Nat.le_refl _) (by omega) (by omega) (by omega))).trans (RdK.set _ _ (by omega) (by omega) (by omega) (by omega))) (Or.inr ⟨g2, rfl, ?_, ?_⟩)
        ·have h1 := HK.out.1.size
         have h2 := HG2.out.1
         omega
        ·have h2 := HG2.out.2
         simpa using h2
       ·have HBE := hI9 (HLS.out (by rw [HBT.out, decide_eq_false c1, decide_eq_false c3, Bool.and_false]; rfl))
        have hl3 : ¬ (xs.length : Int) < (ys.length : Int) := by omega
        clear c1 c2 c3 HBS HLS HBT
        generalize F.finR (lgT S n) ys - F.dep = s at *
        have nJ := hI9 (HJ.out.like (HBE.out.trans HHB.out.symm))
        clear HJ HS F0 F1
        refine rnd_region (by kernel_rfl) (fun ⟨_, _, h⟩ => h) ?_
        go_wp2
        gi_wp2
        exact nJ.out.endR HRR.out HK.out (Or.inl rfl)
      ·have HBE := hI9 (HLS.out (by rw [HBT.out, decide_eq_false c1, decide_eq_false c2]; rfl))
       have hlt : ¬ T < F.finR (lgT S n) ys - F.dep := by have := HT.out; omega
       have heq : (T == F.finR (lgT S n) ys - F.dep) = false := by have := HT.out; simp; omega
       clear c1 c2 HBS HLS HBT
       generalize F.finR (lgT S n) ys - F.dep = s at *
       have nJ := hI9 (HJ.out.like (HBE.out.trans HHB.out.symm))
       clear HJ HS F0 F1
       refine rnd_region (by kernel_rfl) (fun ⟨_, _, h⟩ => h) ?_
       go_wp2
       gi_wp2
       exact nJ.out.endR HRR.out HK.out (Or.inl rfl)
end Go.Proofs.YtlabfpjlckdmfaaGreat
