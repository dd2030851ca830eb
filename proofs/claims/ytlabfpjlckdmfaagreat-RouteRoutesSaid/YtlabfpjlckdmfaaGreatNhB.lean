import Derived.Test.YtlabfpjlckdmfaaGreatNhA
import Derived.Test.YtlabfpjlckdmfaaGreatRgQ
import Derived.Test.YtlabfpjlckdmfaaGreatKAP
import Derived.Test.YtlabfpjlckdmfaaGreatKAN
import Derived.Test.YtlabfpjlckdmfaaGreatKZN
set_option linter.all false
namespace Go.Proofs.YtlabfpjlckdmfaaGreat
open Go Go.RowKit Go.Proofs
set_option maxRecDepth 100000
set_option maxHeartbeats 80000000
def rqR (W0 : Nat) (vO : Value) (vM : Value) (vN : Value) (vY : Value) (ys : List Nat) (k : Nat) (tg : Int) (K : List (List Nat)) : Nat → Value → World → Prop
 | 0, v, _ => v = vO
 | 1, v, _ => v = vM
 | 2, v, _ => v = vN
 | 3, v, _ => v = vY
 | 4, v, w => (w.ownsRow W0 3 1 v ys.length (rV ys))
 | 5, v, _ => v = .int .i64 (k : Int)
 | 6, v, w => (∃ g, v = .slice (some ⟨g, 0, none⟩) 1 1 ∧ w.cell? ⟨g, 0, none⟩ = some (.int .i64 (k : Int)))
 | 7, v, w => (SlT w v (ys ++ [k]).length (rF (ys ++ [k])))
 | 8, v, _ => v = .int .i64 tg
 | 9, v, w => (SlS w v K)
 | _, _, _ => True
def rqT (k : Nat) : Nat := if k = 4 then 7 else if k = 6 then 7 else 10
def rqG (W0 : Nat) (j : Nat) (a b : World) : Prop := a.heap.size ≤ b.heap.size ∧ RowKit.Below W0 a b ∧ (j ≠ 7 → RowKit.Below a.heap.size a b)
theorem rqG_b {W0 j : Nat} {a b : World} (h0 : W0 ≤ a.heap.size) (h : RowKit.Below a.heap.size a b) : rqG W0 j a b := ⟨h.size, h.mono h0, fun _ => h⟩
theorem rqR_keep {ops : Array Oper} (h9 : (depsOf ops 9).contains 7 = true) {W0 : Nat} {vO vM vN vY : Value} {ys : List Nat} {k0 : Nat} {tg : Int} {K : List (List Nat)} (k j : Nat) (v : Value) (a b : World) (hkj : k ≠ j) (hd : (depsOf ops k).contains j = false) (hr : j ≠ rqT k) (hG : rqG W0 j a b) (h : rqR W0 vO vM vN vY ys k0 tg K k v a) : rqR W0 vO vM vN vY ys k0 tg K k v b := by
 unfold rqR at *
 split at h
 all_goals first
  | exact h
  | skip
 ·exact ownsRow_below h (hG.2.2 fun e => hr e)
 ·obtain ⟨g, e, hc⟩ := h
  have hb := hG.2.2 fun e => hr e
  exact ⟨g, e, by rw [hb.cell (p := ⟨g, 0, none⟩) (World.block_lt_of_cell? a ⟨g, 0, none⟩ hc)]; exact hc⟩
 ·exact h.below (hG.2.2 fun e => hkj e.symm)
 ·exact h.below (hG.2.2 fun e => by rw [e] at hd; rw [h9] at hd; cases hd)
theorem r5Routes_c (M : MetD) (vF vS : Value) (A : Option Addr) (n c : Nat) (S : Tab) (P : Nat) (tg : Nat) (hc1 : n ≤ c) (hc2 : c ≤ 9223372036854775807) (hN : NetOk P S n) (hP : M.places = (P : Int)) (hP8 : P ≤ 8) : ∀ (f : Nat) (ys : List Nat) (a : Nat) (e1 : Nat) (vY : Value) (w : World),
  f ≤ 7 → ys.length = e1 + 1 → rF ys e1 = (a : Int) → ys.Nodup → (∀ y ∈ ys, y < P) → P ≤ f + ys.length → RecsAt w A n 3 (nV S) → SlT w vY ys.length (rF ys) →
  Calls Tryz.prog 34 #[.agg #[.int .i64 M.places, .int .i64 M.any.a0, .int .i64 M.any.a1, .int .i64 M.any.a2, .int .i64 M.any.a3, .int .i64 M.any.a4, .int .i64 M.any.a5, .bool M.any.i, .bool M.any.s, .int .i64 M.mw, .int .i64 M.ms, .int .i64 M.mc, vF, vS], .slice A n c, vY, .int .i64 (tg : Int)] w fun e w' => ∃ vO, e = .returned vO ∧ RowKit.Below w.heap.size w w' ∧ SlS w' vO (rtsL P (lgT S n) tg f ys a) := by
 have HP := hI9 hP
 clear hP
 intro f
 induction f using Nat.strongRecOn with
 | _ f ih =>
 intro ys a e1 vY w hf7 hlen hla hnd hlt hPf hL hY
 have HIH := hI9 ih
 have HL := hI9 hL
 have HY := hI9 hY
 have HND := hI9 hnd
 have HLT := hI9 hlt
 have HPF := hI9 hPf
 have HLA := hI9 hla
 have HLE := hI9 hlen
 have HF7 := hI9 hf7
 obtain ⟨⟨AY, cY, rfl, hy1, hy2, hYc⟩, hYt⟩ := hY
 obtain ⟨bY, oY, rfl, hbY, hcY⟩ := hYc (by omega)
 have hle8 : ys.length ≤ 8 := Nat.le_trans (nodup_lenR P ys hnd hlt) hP8
 have HL8 := hI9 hle8
 have yl := hcY e1 (by omega) 0 (by omega)
 simp only [nL, Nat.mul_one, Nat.add_zero, hla] at yl
 have HYL := hI9 (fun wr (hb : RowKit.Below w.heap.size w wr) => (hb.cell (p := ⟨bY, oY + e1, none⟩) hbY).trans yl)
 have hmz : IntKind.i64.wrap ((ys.length : Int) - 1) = (e1 : Int) := by rw [IntKind.wrap_i64]; omega
 have hez : (e1 : Int) < (ys.length : Int) := by omega
 obtain ⟨ly, hly⟩ : ∃ q, ys.length = q := ⟨_, rfl⟩
 rw [hly] at hmz hez
 have HLY := hI9 hly
 clear ih hL hnd hlt hPf hla hlen hYc hYt hcY hle8 yl hf7 hy1 hy2
 obtain ⟨RES, hRES⟩ : ∃ q, q = rtsL P (lgT S n) tg f ys a := ⟨_, rfl⟩
 rw [← hRES, hly]
 have HRES := hI9 hRES
 clear hly hRES
 go_enter Tryz.func34, Tryz.ntmps34
 go_upto_region 1 with fail
 have _x := frm1 w #[.int .i64 M.places, .int .i64 M.any.a0, .int .i64 M.any.a1, .int .i64 M.any.a2, .int .i64 M.any.a3, .int .i64 M.any.a4, .int .i64 M.any.a5, .bool M.any.i, .bool M.any.s, .int .i64 M.mw, .int .i64 M.ms, .int .i64 M.mc, vF, vS] 29
 have HX := hI9 _x.1
 have HB := hI9 _x.2.1
 have zW := _x.2.2
 clear _x
 generalize World.alloc w _ = W at *
 have HY := hI9 (show ∀ wr, RowKit.Below w.heap.size w wr → SlT wr (.slice (some ⟨bY, oY, none⟩) ly cY) ly (rF ys) from fun wr hb => by have := HY.out.below hb; rw [HLY.out] at this; exact this)
 have yl := HYL.out _ HB.out
 by_cases e : a = tg
 ·obtain rfl : a = tg := e
  have hres : RES = [ys] := by rw [HRES.out, rtsL_end rfl]
  clear HIH HRES
  go_wp2_with (fail)
  go_ret
  exact ⟨_, rfl, bal HB.out _, by rw [hres]; exact SlS.one (ys := ys) (by rw [HLY.out]; exact HY.out _ HB.out)⟩
 have he : ((a : Int) == (tg : Int)) = false := beq_eq_false_iff_ne.2 (by omega)
 have HR2 := hI9 (HRES.out.trans (rts_all HND.out HLT.out HPF.out e))
 clear e HRES
 have HT0 := hI9 (RowKit.Below.refl W.heap.size W)
 have x0 := HX.out.cell 0
 simp only [gtA, gtS, gtZ, HP.out] at x0
 go_wp2_with (fail)
 clear yl hmz hez x0
 go_loopg [10, 11] P (fun gx ov2 iv wr => ∃ (k : Nat) (ov : Value), iv = .int .i64 k ∧ ov = ov2 ∧ k ≤ P ∧ P - k ≤ gx ∧ Hid (RowKit.Below W.heap.size W wr) ∧ Hid (OutS wr W.heap.size ov (rtsK P (lgT S n) tg (f - 1) ys a k)))
 case atStart => exact ⟨0, _, rfl, rfl, Nat.zero_le _, Nat.le_refl _, HT0, hI9 OutS.nil⟩
 case round =>
  clear HT0
  obtain ⟨k, ov, rfl, rfl, hk, hgx, HW, HO⟩ := hrel
  have x0 := (HX.out.below HW.out).cell 0
  simp only [gtA, gtS, gtZ, HP.out] at x0
  by_cases hlt : k < P
  case neg =>
   obtain rfl : k = P := by omega
   have hnz : ¬ (k : Int) < (k : Int) := by omega
   go_wp2_with (fail)
   go_ret
   exact ⟨_, rfl, bthen HB.out HW.out, by rw [HR2.out]; exact HO.out.sl⟩
  have hltz : (k : Int) < (P : Int) := by omega
  go_wp2_with (fail)
  refine (r5has_c _ ly (rF ys) (k : Int) _ (HY.out _ (bthen HB.out HW.out)).1).mono ?_
  rintro e w2 ⟨⟨b, rfl, hb⟩, hb2⟩
  have HW2 := hI9 (bthen HW.out hb2)
  have HO2 := hI9 (HO.out.below hb2)
  clear HW HO hb2 x0
  have hmem : b = true ↔ k ∈ ys := by rw [hb, ← HLY.out]; exact mem_rF
  clear hb
  cases b with
  | true =>
   have HO3 := hI9 (show OutS w2 W.heap.size ov (rtsK P (lgT S n) tg (f - 1) ys a (k + 1)) by rw [rtsK_skip (Or.inr (hmem.1 rfl))]; exact HO2.out)
   clear hmem
   go_wp2_with (fail)
   go_roundg (P - (k + 1))
   case measure => omega
   case rel => exact ⟨k + 1, _, by first | rfl | go_num | (congr 1; omega), rfl, by omega, Nat.le_refl _, HW2, HO3⟩
  | false =>
  have hnm : k ∉ ys := fun h => by have := hmem.2 h; cases this
  clear hmem
  go_wp2_with (fail)
  refine (r5leg_c A n c S (a : Int) (k : Int) _ hc1 hc2 (HL.out.below (bthen HB.out HW2.out))).mono ?_
  rintro e w3 ⟨rfl, hb3⟩
  have HW3 := hI9 (bthen HW2.out hb3)
  have HO3 := hI9 (HO2.out.below hb3)
  clear HW2 HO2 hb3
  have hlg := lgT_leg hN a k n (Nat.le_refl _)
  generalize legK S (a : Int) (k : Int) n = LK at *
  by_cases h0 : 0 ≤ LK
  case neg =>
   have HO4 := hI9 (show OutS w3 W.heap.size ov (rtsK P (lgT S n) tg (f - 1) ys a (k + 1)) by rw [rtsK_skip (Or.inl (by omega))]; exact HO3.out)
   clear HO3 hlg
   go_wp2_with (fail)
   go_roundg (P - (k + 1))
   case measure => omega
   case rel => exact ⟨k + 1, _, by first | rfl | go_num | (congr 1; omega), rfl, by omega, Nat.le_refl _, HW3, HO4⟩
  have hf1 : f = (f - 1) + 1 := by
   have hlen := nodup_lenR P (k :: ys) (List.nodup_cons.2 ⟨hnm, HND.out⟩) (fun x hx => by
    rcases List.mem_cons.1 hx with rfl | h
    ·omega
    ·exact HLT.out x h)
   simp only [List.length_cons] at hlen
   have := HPF.out
   omega
  have htk := rtsK_take (P := P) (lt := lgT S n) (tgt := tg) (f := f - 1) (ys := ys) (a := a) (k := k) (by rintro (h | h); (focus omega); exact hnm h)
  obtain ⟨KK, hKK⟩ : ∃ q, q = rtsL P (lgT S n) tg (f - 1) (ys ++ [k]) k := ⟨_, rfl⟩
  rw [← hKK] at htk
  have hl1 := rtsK_len (P := P) (lt := lgT S n) (tgt := tg) hP8 (f := f - 1) (ys := ys) (a := a) k
  have hl2 : KK.length ≤ 8 ^ (f - 1) := by rw [hKK]; exact rtsL_len hP8 _ _ _
  have h87 : 8 ^ (f - 1) ≤ 2097152 := Nat.le_trans (Nat.pow_le_pow_right (by omega) (show f - 1 ≤ 7 by have := HF7.out; omega)) (by decide)
  have hlen : (rtsK P (lgT S n) tg (f - 1) ys a k).length + KK.length ≤ 100000000 := by
   have : k * 8 ^ (f - 1) ≤ 8 * 2097152 := Nat.mul_le_mul (by omega) h87
   omega
  have HLEN := hI9 hlen
  have HTK := hI9 htk
  have HC9 := hI9 (show ∀ v w1, RecsAt w1 A n 3 (nV S) → SlT w1 v (ys ++ [k]).length (rF (ys ++ [k])) → Calls Tryz.prog 34 #[.agg #[.int .i64 M.places, .int .i64 M.any.a0, .int .i64 M.any.a1, .int .i64 M.any.a2, .int .i64 M.any.a3, .int .i64 M.any.a4, .int .i64 M.any.a5, .bool M.any.i, .bool M.any.s, .int .i64 M.mw, .int .i64 M.ms, .int .i64 M.mc, vF, vS], .slice A n c, v, .int .i64 (tg : Int)] w1 fun e w' => ∃ vO, e = .returned vO ∧ RowKit.Below w1.heap.size w1 w' ∧ SlS w' vO KK from fun v w1 h1 h2 => by
   rw [hKK]
   refine HIH.out (f - 1) (by omega) (ys ++ [k]) k ly v w1 (by have := HF7.out; omega) (by rw [List.length_append, HLY.out]; rfl) ?_ ?_ ?_ (by rw [List.length_append]; have := HPF.out; simp only [List.length_singleton]; omega) h1 h2
   ·show (((ys ++ [k]).getD ly 0 : Nat) : Int) = (k : Int)
    rw [← HLY.out, List.getD_eq_getElem?_getD, List.getElem?_append_right (Nat.le_refl _), Nat.sub_self]
    rfl
   ·rw [List.nodup_append]
    refine ⟨HND.out, by simp, fun x hx y hy => ?_⟩
    rw [List.mem_singleton] at hy
    subst hy
    exact fun e => hnm (e ▸ hx)
   ·intro y hy
    rcases List.mem_append.1 hy with h | h
    ·exact HLT.out y h
    ·rw [List.mem_singleton] at h
     omega)
  clear hlg hnm hf1 htk hKK hl1 hl2 h87 hlen HIH
  go_wp2_with (fail)
  have HDW := hI9 (fun b (h : RowKit.Below w3.drew.heap.size w3.drew b) => show RowKit.Below w3.heap.size w3 b from bthen (RowKit.Below.drew (RowKit.Below.refl _ w3)) h)
  refine wp_region_specQ (rqG w3.drew.heap.size) (fun b => RowKit.Below w3.drew.heap.size w3.drew b) rqT (fun _ _ _ h => h.1) (fun _ _ _ h h2 => h2.trans h.2.1) (RowKit.Below.refl _ _) 10 (rqR w3.drew.heap.size ov (.agg #[.int .i64 M.places, .int .i64 M.any.a0, .int .i64 M.any.a1, .int .i64 M.any.a2, .int .i64 M.any.a3, .int .i64 M.any.a4, .int .i64 M.any.a5, .bool M.any.i, .bool M.any.s, .int .i64 M.mw, .int .i64 M.ms, .int .i64 M.mc, vF, vS]) (.slice A n c) (.slice (some ⟨bY, oY, none⟩) ly cY) ys k (tg : Int) KK) (fun _ => false) (by kernel_rfl) (by kernel_rfl) (by kernel_rfl) (rqR_keep (by kernel_rfl)) ?hoph210 ?htailh210
  case hoph210 =>
   simp only [List.take_succ_cons, List.take_zero, allOps]
   refine ⟨?_, ?_, ?_, ?_, ?_, ?_, ?_, ?_, ?_, ?_, trivial⟩
   all_goals intro u A w1 hA hj hd
   all_goals simp only [putAll, dstOf, gtA, gtS, gtZ, Option.bind_some, Option.bind, Act.put, List.setIfInBounds_toArray, List.set_cons_succ, List.set_cons_zero] at hA; subst hA
   ·clear hd
    go_wp2
    exact ⟨_, rfl, (rqG_b hj.size (RowKit.Below.refl _ _)), rfl, fun h => absurd h (by decide)⟩
   ·clear hd
    go_wp2_with (refine wpl_row rfl 29 (.tmp 4) rfl _ rfl _ 14 (HX.out.below (bthen HW3.out (HDW.out _ hj))) Tryz.rowMet rfl ?_; simp only [Act.put])
    exact ⟨_, rfl, (rqG_b hj.size (RowKit.Below.refl _ _)), rfl, fun h => absurd h (by decide)⟩
   ·clear hd
    go_wp2
    exact ⟨_, rfl, (rqG_b hj.size (RowKit.Below.refl _ _)), rfl, fun h => absurd h (by decide)⟩
   ·clear hd
    go_wp2
    exact ⟨_, rfl, (rqG_b hj.size (RowKit.Below.refl _ _)), rfl, fun h => absurd h (by decide)⟩
   ·have d3 : u 3 = _ := hd 3 (by omega) (by kernel_rfl)
    clear hd
    try rw [d3]
    clear d3
    refine wpl_nilT rfl (.const (.slice none 0 0)) (.tmp 43) rfl w3.drew.heap.size hj.size (.slice (some ⟨bY, oY, none⟩) ly cY) ys rfl rfl (by rw [HLY.out]; exact (HY.out _ (bthen HB.out (bthen HW3.out (HDW.out _ hj)))).1) (by rw [HLY.out]; have := HLE.out; have := HLY.out; omega) (by have := HL8.out; omega) ?_
    intro v' w' h1 h2
    exact ⟨v', rfl, rqG_b hj.size h2, h1, fun h => absurd h (by decide)⟩
   ·clear hd
    go_wp2
    exact ⟨_, rfl, (rqG_b hj.size (RowKit.Below.refl _ _)), rfl, fun h => absurd h (by decide)⟩
   ·have d5 : u 5 = _ := hd 5 (by omega) (by kernel_rfl)
    clear hd
    try rw [d5]
    clear d5
    go_wp2
    exact ⟨_, rfl, rqG_b hj.size (bal (RowKit.Below.refl _ _) _), ⟨_, rfl, (Blk.new _ _ _).cell 0⟩, fun h => absurd h (by decide)⟩
   ·have d4 := hd 4 (by omega) (by kernel_rfl)
    have d6 := hd 6 (by omega) (by kernel_rfl)
    clear hd
    obtain ⟨g, e6, c6⟩ := d6
    rw [e6]
    refine wpl_appT rfl (.tmp 44) (.tmp 46) rfl w3.drew.heap.size _ ys.length (rV ys) rfl d4 g (.int .i64 (k : Int)) rfl c6 rfl (by have := HL8.out; omega) hj.size ?_
    intro v' w' h1 h2
    exact ⟨v', rfl, ⟨h2.out.size, (RowKit.Below.refl _ _).grown h2.out hj.size (fun g hg => (d4.lt g hg).1), fun h => absurd rfl h⟩, SlT.of_owns (base := w3.drew.heap.size) (by rw [List.length_append, rV_snoc]; exact h1.out), fun h => absurd h (by decide)⟩
   ·clear hd
    go_wp2
    exact ⟨_, rfl, (rqG_b hj.size (RowKit.Below.refl _ _)), rfl, fun h => absurd h (by decide)⟩
   ·have d1 : u 1 = _ := hd 1 (by omega) (by kernel_rfl)
    have d2 : u 2 = _ := hd 2 (by omega) (by kernel_rfl)
    have d7 := hd 7 (by omega) (by kernel_rfl)
    have d8 : u 8 = _ := hd 8 (by omega) (by kernel_rfl)
    clear hd
    try rw [d1, d2, d8]
    clear d1 d2 d8
    go_wp2_with (fail)
    (refine (HC9.out _ _ (HL.out.below (bthen HB.out (bthen HW3.out (HDW.out _ hj)))) d7).mono ?_)
    rintro e w2 ⟨vO2, rfl, hb2, hS2⟩
    go_wp2
    exact ⟨_, rfl, rqG_b hj.size hb2, hS2, fun h => absurd h (by decide)⟩
  case htailh210 =>
   intro u A w1 hA hj hd hf
   simp only [putAll, dstOf, gtA, gtS, gtZ, Option.bind_some, Option.bind, Act.put, List.setIfInBounds_toArray, List.set_cons_succ, List.set_cons_zero] at hA; subst hA
   have e0 : u 0 = _ := hd 0 (by omega) (by first | rfl | decide)
   have e1 : u 1 = _ := hd 1 (by omega) (by first | rfl | decide)
   have e2 : u 2 = _ := hd 2 (by omega) (by first | rfl | decide)
   have e3 : u 3 = _ := hd 3 (by omega) (by first | rfl | decide)
   have e5 : u 5 = _ := hd 5 (by omega) (by first | rfl | decide)
   have p7 := hd 7 (by omega) (by first | rfl | decide)
   have e8 : u 8 = _ := hd 8 (by omega) (by first | rfl | decide)
   have p9 := hd 9 (by omega) (by first | rfl | decide)
   first | rw [e0, e1, e2, e3, e5, e8] | simp only [e0, e1, e2, e3, e5, e8]
   clear e0 e1 e2 e3 e5 e8
   clear hd hf
   have HW4 := hI9 (bthen HW3.out (HDW.out _ hj))
   have HO4 := hI9 (HO3.out.below (HDW.out _ hj))
   clear p7 hj HO3 HW3 HDW
   refine wpl_appS2 rfl (.tmp 40) (.tmp 49) rfl W.heap.size ov _ _ KK rfl rfl HO4.out p9 HLEN.out HW4.out.size ?_
   intro v' w' h1 h2
   have HW5 := hI9 (HW4.out.grown h2 HW4.out.size (HO4.out.base))
   have HO5 := hI9 (show OutS w' W.heap.size v' (rtsK P (lgT S n) tg (f - 1) ys a (k + 1)) by rw [HTK.out]; exact h1)
   clear h1 h2 HW4 HO4 HTK HLEN HC9
   simp only [Act.put]
   go_wp2_with (fail)
   go_roundg (P - (k + 1))
   case measure => omega
   case rel => exact ⟨k + 1, _, by first | rfl | go_num | (congr 1; omega), rfl, by omega, Nat.le_refl _, HW5, HO5⟩
end Go.Proofs.YtlabfpjlckdmfaaGreat
