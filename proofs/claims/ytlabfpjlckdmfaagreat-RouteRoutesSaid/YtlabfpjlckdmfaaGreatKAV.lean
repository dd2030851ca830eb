/- Texts joined: KAV. -/
import Derived.Test.YtlabfpjlckdmfaaGreatKAU
import Derived.Test.YtlabfpjlckdmfaaGreatKAN
set_option linter.all false
namespace Go.Proofs.YtlabfpjlckdmfaaGreat
open Go Go.RowKit Go.Proofs
set_option maxRecDepth 100000
set_option maxHeartbeats 8000000
theorem wpl_appTq {ops : Array Oper} {rest : List Oper} {o : Oper} {a : Act} {w : World} {Q : Exit → Act → World → Prop} (hgd : o.guard = none) (s x : Operand)
  (ho : o.op = .call { callee := .builtin .append, args := #[s, x], argTypes := #[35, 35] }) (base : Nat) (v : Value) (n : Nat) (xs : List Value) (hs : a.eval s = v) (hown : w.ownsRow base 3 1 v n xs)
  (g : Nat) (y : Value) (hx : a.eval x = .slice (some ⟨g, 0, none⟩) 1 1) (hc : w.cell? ⟨g, 0, none⟩ = some y) (hy : y.oneCell' = true) (h40 : n ≤ 1000) (hbase : base ≤ w.heap.size)
  (h : ∀ v' w', Hid (w'.ownsRow base 3 1 v' (n + 1) (xs ++ [y])) → Hid (w.grownBy w' v.ownBlock) → Hid (v'.ownBlock = v.ownBlock ∨ v'.ownBlock = some w.heap.size) → wpList Tryz.prog ops Q rest (a.put o.dst v') w') : wpList Tryz.prog ops Q (o :: rest) a w := by
 have hI := Tryz.inIx
 cases hi : Tryz.prog.info? 3 with
 | none => rw [hi] at hI; cases hI
 | some i =>
  rw [hi] at hI
  simp only [Option.map_some, Option.some.injEq, Prod.mk.injEq] at hI
  refine wpList_append_own_at w hgd s x 35 ho base 3 i (.int .i64 0) 1 8 Tryz.inUx hi hI.1 hI.2.1 hI.2.2 rfl (by decide) v n xs hs hown ⟨g, 0, none⟩ 1 1 [y] hx rfl ?_ ?_ (by unfold maxLen; omega) (by omega) hbase ?_
  ·intro j u hj
   match j, hj with
   | 0, hj =>
    have : u = y := by simpa using hj.symm
    subst this
    exact hc
  ·intro u hu
   have : u = y := by simpa using hu
   subst this
   exact hy
  ·intro v' w' h1 h2 h3 h4
   exact h v' w' (hI9 h1) (hI9 h2) (hI9 h4)
theorem mem_rF {xs : List Nat} {p : Nat} : (∃ i, i < xs.length ∧ rF xs i = (p : Int)) ↔ p ∈ xs := by
 unfold rF
 constructor
 ·rintro ⟨i, hi, h⟩
  rw [List.getD_eq_getElem?_getD, List.getElem?_eq_getElem hi] at h
  have h : ((xs[i] : Nat) : Int) = (p : Int) := h
  have h : xs[i] = p := by omega
  exact h ▸ List.getElem_mem hi
 ·intro h
  obtain ⟨i, hi, rfl⟩ := List.getElem_of_mem h
  refine ⟨i, hi, ?_⟩
  rw [List.getD_eq_getElem?_getD, List.getElem?_eq_getElem hi]
  rfl
theorem rF_last (xs : List Nat) (p : Nat) : rF (xs ++ [p]) ((xs ++ [p]).length - 1) = (p : Int) := by
 unfold rF
 rw [List.length_append, List.length_singleton, Nat.add_sub_cancel, List.getD_eq_getElem?_getD, List.getElem?_append_right (Nat.le_refl _), Nat.sub_self]
 rfl
theorem rtNext_c (M : MetD) (vF vS vN : Value) (P : Nat) (lt tt : Tab) (w0 : World) (hN : NetAt w0 vN M vF vS P lt tt) (hP : M.places = P) (hp8 : 1 ≤ P ∧ P ≤ 8) (B gR gT gY gN gX l tgt : Nat) (J : List (List Nat) → Option Nat → World → Prop)
  (hJ : ∀ pre q W W', J pre q W → RtStep B q W W' → J pre q W')
  (hY : ∀ (pre : List (List Nat)) (q : Option Nat) (xs : List Nat) (v : Value) (W1 : World), J pre q W1 → SlI W1 v xs.length (rF xs) → YieldAt Fence.wide 0 Tryz.prog l #[v] W1 fun e W' => e = .returned (.bool true) ∧ RdK w0.heap.size B gT gN W1 W' ∧ ∃ q2, J (pre ++ [xs]) q2 W' ∧ (q2 = q ∨ ∃ g, q2 = some g ∧ W1.heap.size ≤ g ∧ g < W'.heap.size)) :
  ∀ (f : Nat) (xs : List Nat) (a : Nat) (v : Value) (pre : List (List Nat)) (q : Option Nat) (w : World), RtS w0 B gR gT gY gN gX l tgt vN q xs v w → xs.length + f = 8 → 1 ≤ xs.length → rF xs (xs.length - 1) = a → a < P → J pre q w →
  Calls Tryz.prog 56 #[.pointer (some ⟨gR, 0, none⟩), .pointer (some ⟨gT, 0, none⟩), .pointer (some ⟨gY, 0, none⟩), .pointer (some ⟨gN, 0, none⟩), .pointer (some ⟨gX, 0, none⟩)] w fun e w' => e = .returned (.bool true) ∧ ∃ q2, J (pre ++ rtsL P lt tgt f xs a) q2 w' ∧ ∃ v', RtS w0 B gR gT gY gN gX l tgt vN q2 xs v' w' := by
 have HY := hI9 hY
 have HJ := hI9 hJ
 obtain ⟨gW, gL, gM, cL, cM, rL, rM, loL, hiL, loM, hiM, rfl, n1, n2, -⟩ := hN
 have HN := hI9 n1
 have HSL := hI9 n2
 have HP := hI9 hP
 clear hY hJ n1 n2 hP
 intro f
 induction f with
 | zero =>
  intro xs a v pre q w h hf h1 hl haP hj
  obtain ⟨n, hn⟩ : ∃ n, xs.length = n + 1 := ⟨xs.length - 1, by omega⟩
  rw [hn] at hl
  have hl : rF xs n = a := by simpa using hl
  have HS := hI9 h
  have HQ := hI9 hj
  obtain ⟨k, c, rfl, hk, hc1, hc2, hcells⟩ := h.form hn
  have x0 := hcells n (by omega)
  rw [hl] at x0
  have r0 := h.r.cell 0
  have t0 := h.t.cell 0
  have y0 := h.y.cell 0
  simp only [List.getElem?_toArray, List.getElem?_cons_zero] at r0 t0 y0
  have hnn : ((n + 1 : Nat) : Int) - 1 = (n : Int) := by omega
  have hltz : (n : Int) < ((n + 1 : Nat) : Int) := by omega
  clear h hj hcells
  by_cases ha : a = tgt
  ·skip
   have hat : ((a : Int) == (tgt : Int)) = true := by subst ha; simp
   have HA := hI9 ha
   clear ha
   go_enter Tryz.func56, Tryz.ntmps56
   go_upto_region 3 with fail
   refine (wpIn_wide (n := 1)).1 ?_
   refine wpIn_region_lit ?_
   obtain ⟨fn, tmps, assign, body, hy, hR⟩ := HY.out pre q xs _ w HQ.out (HS.out.sl hn)
   gi_wp2
   refine hR.mono ?_
   rintro e W2 ⟨rfl, hk2, q2, hj2, hq2⟩
   have HS2 := hI9 (HS.out.round hk2 hq2)
   have HQ2 := hI9 hj2
   clear hR hy hj2 hk2 hq2
   gi_wp2
   go_wp2
   go_ret
   exact ⟨rfl, q2, by rw [rtsL_end HA.out]; exact HQ2.out, _, HS2.out⟩
  ·have hat : ((a : Int) == (tgt : Int)) = false := by simp; omega
   have hk8 : (((n : Int) + 1) == 8) = true := by simp; omega
   have HA := hI9 ha
   clear ha
   go_enter Tryz.func56, Tryz.ntmps56
   go_wp2
   go_ret
   exact ⟨rfl, q, by rw [rtsL_none HA.out, List.append_nil]; exact HQ.out, _, HS.out⟩
 | succ f ih =>
  intro xs a v pre q w h hf h1 hl haP hj
  obtain ⟨n, hn⟩ : ∃ n, xs.length = n + 1 := ⟨xs.length - 1, by omega⟩
  rw [hn] at hl
  have hl : rF xs n = a := by simpa using hl
  have HS := hI9 h
  have HQ := hI9 hj
  have IH := hI9 ih
  clear ih
  obtain ⟨k, c, rfl, hk, hc1, hc2, hcells⟩ := h.form hn
  have x0 := hcells n (by omega)
  rw [hl] at x0
  have r0 := h.r.cell 0
  have t0 := h.t.cell 0
  have y0 := h.y.cell 0
  have m0 := h.n.cell 0
  have p0 : w.cell? ⟨gW, 0, none⟩ = some (.int .i64 (P : Int)) := by rw [← HP.out]; exact (HN.out.below h.b).cell 0
  simp only [List.getElem?_toArray, List.getElem?_cons_zero] at r0 t0 y0 m0
  have hnn : ((n + 1 : Nat) : Int) - 1 = (n : Int) := by omega
  have hltz : (n : Int) < ((n + 1 : Nat) : Int) := by omega
  clear h hj hcells
  by_cases ha : a = tgt
  ·skip
   have hat : ((a : Int) == (tgt : Int)) = true := by subst ha; simp
   have HA := hI9 ha
   clear ha
   go_enter Tryz.func56, Tryz.ntmps56
   go_upto_region 3 with fail
   refine (wpIn_wide (n := 1)).1 ?_
   refine wpIn_region_lit ?_
   obtain ⟨fn, tmps, assign, body, hy, hR⟩ := HY.out pre q xs _ w HQ.out (HS.out.sl hn)
   gi_wp2
   refine hR.mono ?_
   rintro e W2 ⟨rfl, hk2, q2, hj2, hq2⟩
   have HS2 := hI9 (HS.out.round hk2 hq2)
   have HQ2 := hI9 hj2
   clear hR hy hj2 hk2 hq2
   gi_wp2
   go_wp2
   go_ret
   exact ⟨rfl, q2, by rw [rtsL_end HA.out]; exact HQ2.out, _, HS2.out⟩
  ·have hat : ((a : Int) == (tgt : Int)) = false := by simp; omega
   have hk8 : (((n : Int) + 1) == 8) = false := by simp; omega
   have HA := hI9 ha
   clear ha
   go_enter Tryz.func56, Tryz.ntmps56
   go_wp2
   have K0 := hI9 (show ∃ q v, RtS w0 B gR gT gY gN gX l tgt (.pointer (some ⟨gW, 0, none⟩)) q xs v w ∧ J (pre ++ rtsK P lt tgt f xs a 0) q w from ⟨q, _, HS.out, by rw [rtsK_zero, List.append_nil]; exact HQ.out⟩)
   clear HS HQ x0 r0 t0 y0 m0 p0
   go_loopg [29] P (fun gx v wr => ∃ p : Nat, v = .int .i64 p ∧ p ≤ P ∧ P - p ≤ gx ∧ Hid (∃ q v, RtS w0 B gR gT gY gN gX l tgt (.pointer (some ⟨gW, 0, none⟩)) q xs v wr ∧ J (pre ++ rtsK P lt tgt f xs a p) q wr))
   case atStart => exact ⟨0, rfl, Nat.zero_le _, Nat.le_refl _, K0⟩
   case round =>
    clear K0
    obtain ⟨p, rfl, hp, hgx, K0⟩ := hrel
    by_cases hlt : p < P
    case neg =>
     obtain rfl : P = p := by omega
     have hnz : ¬ (P : Int) < (P : Int) := by omega
     go_wp2
     go_ret
     obtain ⟨q3, v3, h3, h4⟩ := K0.out
     exact ⟨rfl, q3, by rw [rtsL_on HA.out]; exact h4, v3, h3⟩
    have hltp : (p : Int) < (P : Int) := by omega
    obtain ⟨q, v, hs, hq⟩ := K0.out
    have HS := hI9 hs
    have Q0 := hI9 hq
    clear hq
    clear K0
    obtain ⟨k, c, rfl, hk, hc1, hc2, -⟩ := hs.form hn
    have r0 := hs.r.cell 0
    have m0 := hs.n.cell 0
    have g0 := (HN.out.below hs.b).cell 14
    obtain ⟨ca, -, -, co⟩ := (HSL.out.below hs.b).o a haP
    have cc := (HSL.out.below hs.b).cell haP hlt
    have HC := hI9 (ctNum_c _ _ _ (p : Int) wr (hs.sl hn))
    simp only [gtA, gtS, gtZ] at r0 m0 g0
    clear hs
    rw [hn] at HC
    have haz : (a : Int) < (P : Int) := by omega
    by_cases hL : lt a p < 0
    case pos =>
     have Q1 := hI9 (show J (pre ++ rtsK P lt tgt f xs a (p + 1)) q wr from by rw [rtsK_skip (Or.inl hL)]; exact Q0.out)
     clear Q0
     generalize lt a p = L at *
     go_wp2
     go_roundg (P - (p + 1))
     case measure => omega
     case rel => exact ⟨p + 1, by first | rfl | go_num | (congr 1; omega), by omega, Nat.le_refl _, hI9 ⟨q, _, HS.out, Q1.out⟩⟩
    have HLL := hI9 hL
    by_cases hm : p ∈ xs
    case pos =>
     have HCT := hI9 (HC.out.mono (R' := fun e w' => e = .returned (.bool true) ∧ wr = w') fun e w' ⟨b, h1, h2, h3⟩ => ⟨by rw [h1, h2.2 (by have := mem_rF.2 hm; rw [hn] at this; exact this)], h3⟩)
     have Q1 := hI9 (show J (pre ++ rtsK P lt tgt f xs a (p + 1)) q wr from by rw [rtsK_skip (Or.inr hm)]; exact Q0.out)
     clear Q0 HC hm
     generalize lt a p = L at *
     go_wp2_with (go_at_call 57; (with_reducible refine HCT.out.mono ?_); rintro e w1 ⟨rfl, rfl⟩)
     go_roundg (P - (p + 1))
     case measure => omega
     case rel => exact ⟨p + 1, by first | rfl | go_num | (congr 1; omega), by omega, Nat.le_refl _, hI9 ⟨q, _, HS.out, Q1.out⟩⟩
    have HCT := hI9 (HC.out.mono (R' := fun e w' => e = .returned (.bool false) ∧ wr = w') fun e w' ⟨b, h1, h2, h3⟩ => ⟨by
     rw [h1]
     cases b
     ·rfl
     ·have := h2.1 rfl
      rw [← hn] at this
      exact absurd (mem_rF.1 this) hm, h3⟩)
    have HTK := hI9 (rtsK_take (P := P) (tgt := tgt) (f := f) (fun h => h.elim HLL.out hm))
    have HO := hI9 (show wr.ownsRow B 3 1 (.slice (some ⟨k, 0, none⟩) (n + 1) c) (n + 1) (rV xs) from by have := HS.out.o; rw [hn] at this; exact this)
    have HBW := hI9 (show B ≤ wr.heap.size from by have h1 := HS.out.r.lt; have h2 := HS.out.g; omega)
    clear HC hm HLL
    generalize lt a p = L at *
    go_wp2_with (first | (go_at_call 57; (with_reducible refine HCT.out.mono ?_); rintro e w1 ⟨rfl, rfl⟩) | (at_builtin; refine wpl_appTq rfl _ _ rfl B _ (n + 1) (rV xs) rfl (ownsRow_below HO.out (bal (RowKit.Below.refl _ _) _)) wr.heap.size (.int .i64 (p : Int)) rfl ?a1 rfl (by omega) ?b1 ?_))
    case a1 => exact (Blk.new _ _ _).cell 0
    case b1 => have := HBW.out; simp; omega
    intro v2 w2 ho hg hv5
    obtain ⟨k2, c2, rfl⟩ := owns_form ho.out
    have hb8 : RowKit.Below wr.heap.size wr (wr.alloc (.cells #[.int .i64 (p : Int)] 3)) := bal (RowKit.Below.refl _ _) _
    have HPU := RtS.push HS.out hb8 (by rw [hn]; exact ho.out) hg.out (by rw [World.size_alloc]; exact hv5.out)
    have HS3 := hI9 HPU.1
    have HQ3 := hI9 (HJ.out _ _ _ _ Q0.out HPU.2)
    have hr2 := (HS.out.r.below hb8).grew hg.out (own_blk_ne (ownsRow_below HO.out hb8) (HS.out.r.below hb8) (by decide))
    have r2 := hr2.cell 0
    have f2 := hr2.frozen 0
    have x3 := HS3.out.x.cell 0
    simp only [List.getElem?_toArray, List.getElem?_cons_zero] at r2 x3
    have IH3 := hI9 (IH.out (xs ++ [p]) p _ _ _ _ HS3.out (by simp only [List.length_append, List.length_singleton]; omega) (by simp only [List.length_append, List.length_singleton]; omega) (rF_last xs p) hlt HQ3.out)
    clear HPU hr2 ho hg hv5 HS Q0 r0 m0 g0 co cc hb8 HO HBW HCT
    have hnn2 : ((n + 1 + 1 : Nat) : Int) - 1 = ((n + 1 : Nat) : Int) := by omega
    go_wp2_with (go_at_call 56; (with_reducible refine IH3.out.mono ?_); rintro e w4 ⟨rfl, q4, hj4, v4, hs4⟩; obtain ⟨k4, c4, rfl, -, hc4, hc5, -⟩ := hs4.form (n := n + 1) (by rw [List.length_append, hn]; rfl); have r4 := hs4.r.cell 0; have f4 := hs4.r.frozen 0; simp only [List.getElem?_toArray, List.getElem?_cons_zero] at r4; have HS4 := hI9 hs4; have HQ4 := hI9 hj4; clear hs4 hj4 r2 f2 x3 HS3 HQ3 IH3)
    go_roundg (P - (p + 1))
    case measure => omega
    case rel =>
     have h5 := HS4.out
     rw [← hn] at h5
     have h6 := RtS.pop h5
     rw [hn] at h6
     exact ⟨p + 1, by first | rfl | go_num | (congr 1; omega), by omega, Nat.le_refl _, hI9 ⟨q4, _, h6.1, HJ.out _ _ _ _ (by rw [HTK.out, ← List.append_assoc]; exact HQ4.out) h6.2⟩⟩
end Go.Proofs.YtlabfpjlckdmfaaGreat

namespace Go.Proofs.YtlabfpjlckdmfaaGreat
open Go Go.RowKit Go.Proofs
set_option maxRecDepth 100000
set_option maxHeartbeats 8000000
theorem routes_c (gV : Nat) (fr tgt : Int) (w : World) :
  Calls Tryz.prog 29 #[.pointer (some ⟨gV, 0, none⟩), .int .i64 fr, .int .i64 tgt] w fun e w' => e = .returned (.func (.func 55) #[] #[.pointer (some ⟨w.heap.size + 1, 0, none⟩), .pointer (some ⟨w.heap.size + 2, 0, none⟩), .pointer (some ⟨w.heap.size, 0, none⟩)]) ∧ RowKit.Below w.heap.size w w' ∧ w'.heap.size = w.heap.size + 3 ∧ Blk w' w.heap.size 70 #[.pointer (some ⟨gV, 0, none⟩)] ∧ Blk w' (w.heap.size + 1) 3 #[.int .i64 fr] ∧ Blk w' (w.heap.size + 2) 3 #[.int .i64 tgt] := by
 go_enter Tryz.func29, Tryz.ntmps29
 go_wp2
 have h0 := ((Blk.new w 70 #[.pointer (some ⟨gV, 0, none⟩)]).alloc (.cells #[.int .i64 fr] 3)).alloc (.cells #[.int .i64 tgt] 3)
 have h1 := (Blk.new (w.alloc (.cells #[.pointer (some ⟨gV, 0, none⟩)] 70)) 3 #[.int .i64 fr]).alloc (.cells #[.int .i64 tgt] 3)
 have h2 := Blk.new ((w.alloc (.cells #[.pointer (some ⟨gV, 0, none⟩)] 70)).alloc (.cells #[.int .i64 fr] 3)) 3 #[.int .i64 tgt]
 simp only [World.size_alloc] at h1 h2
 have hb := bal (bal (bal (RowKit.Below.refl w.heap.size w) (.cells #[.pointer (some ⟨gV, 0, none⟩)] 70)) (.cells #[.int .i64 fr] 3)) (.cells #[.int .i64 tgt] 3)
 go_ret
 exact ⟨rfl, hb, by simp, h0, h1, h2⟩
theorem rtIter_c (M : MetD) (vF vS vN : Value) (P : Nat) (lt tt : Tab) (w0 : World) (hN : NetAt w0 vN M vF vS P lt tt) (hP : M.places = P) (hp8 : 1 ≤ P ∧ P ≤ 8) (gF gT gN l fr tgt : Nat) (J : List (List Nat) → Option Nat → World → Prop) (w : World)
  (hw : RowKit.Below w0.heap.size w0 w) (hF : Blk w gF 3 #[.int .i64 (fr : Int)]) (hT : Blk w gT 3 #[.int .i64 (tgt : Int)]) (hNb : Blk w gN 70 #[vN]) (hg : w0.heap.size ≤ gT ∧ w0.heap.size ≤ gN) (hfr : fr < P)
  (hJ : ∀ pre q W W', J pre q W → RtStep w.heap.size q W W' → J pre q W')
  (hY : ∀ (pre : List (List Nat)) (q : Option Nat) (xs : List Nat) (v : Value) (W1 : World), J pre q W1 → SlI W1 v xs.length (rF xs) → YieldAt Fence.wide 0 Tryz.prog l #[v] W1 fun e W' => e = .returned (.bool true) ∧ RdK w0.heap.size w.heap.size gT gN W1 W' ∧ ∃ q2, J (pre ++ [xs]) q2 W' ∧ (q2 = q ∨ ∃ g, q2 = some g ∧ W1.heap.size ≤ g ∧ g < W'.heap.size))
  (h0 : J [] none w) :
  Calls Tryz.prog 55 #[.func (.yield l) #[] #[], .pointer (some ⟨gF, 0, none⟩), .pointer (some ⟨gT, 0, none⟩), .pointer (some ⟨gN, 0, none⟩)] w fun e w' => (∃ v, e = .returned v) ∧ ∃ q, J (rtsL P lt tgt 7 [fr] fr) q w' := by
 have hc := fun gR gY gX => rtNext_c M vF vS vN P lt tt w0 hN hP hp8 w.heap.size gR gT gY gN gX l tgt J hJ hY
 have HC := hI9 hc
 have HJ := hI9 hJ
 have H0 := hI9 h0
 have HF := hI9 hF
 have HT := hI9 hT
 have HN := hI9 hNb
 have HW := hI9 hw
 have zF := hF.lt
 have zT := hT.lt
 have zN := hNb.lt
 have f0 := hF.cell 0
 simp only [List.getElem?_toArray, List.getElem?_cons_zero] at f0
 clear hc hJ hY h0 hF hT hNb hw hN
 go_enter Tryz.func55, Tryz.ntmps55
 go_upto_region 4 with fail
 have _x := frm4 w #[.func (.yield l) #[] #[]] 58 #[.int .i64 (fr : Int)] 3 #[.slice (some ⟨w.heap.size + 1, 0, none⟩) 1 1] 35 #[.func (.func 56) #[] #[.pointer (some ⟨w.heap.size + 1 + 1, 0, none⟩), .pointer (some ⟨gT, 0, none⟩), .pointer (some ⟨w.heap.size, 0, none⟩), .pointer (some ⟨gN, 0, none⟩), .pointer (some ⟨w.heap.size + 1 + 1 + 1, 0, none⟩)]] 40
 have HB1 := hI9 _x.1
 have HD := hI9 _x.2.1
 have HR := hI9 _x.2.2.1
 have HX := hI9 _x.2.2.2.1
 have HB := hI9 _x.2.2.2.2.1
 have zW := _x.2.2.2.2.2
 clear _x
 generalize World.alloc (World.alloc (World.alloc (World.alloc w _) _) _) _ = W at *
 have HS := hI9 (show RtS w0 w.heap.size (w.heap.size + 1 + 1) gT w.heap.size gN (w.heap.size + 1 + 1 + 1) l tgt vN none [fr] (.slice (some ⟨w.heap.size + 1, 0, none⟩) 1 1) W from
  ⟨bthen HW.out HB.out, HT.out.below HB.out, HN.out.below HB.out, HB1.out, HX.out, HR.out, ⟨by simp [rV], .inr ⟨w.heap.size + 1, 1, _, rfl, by omega, HD.out, Nat.le_refl _, by decide, by simp, by simp [rV]⟩⟩, fun b e => (by cases e), by have := HW.out.size; omega⟩)
 have HCC := hI9 (HC.out _ _ _ 7 [fr] fr _ [] none W HS.out (by simp) (by simp) (by simp [rF]) hfr (HJ.out _ _ _ _ H0.out ⟨HB.out, fun b e => (by cases e)⟩))
 have x0 := HX.out.cell 0
 simp only [List.getElem?_toArray, List.getElem?_cons_zero] at x0
 clear HS HC HJ H0 HF HT HN HW HB1 HD HR HX HB
 go_wp2_with (go_at_call 56; (with_reducible refine HCC.out.mono ?_); rintro e w2 ⟨rfl, q, hj, -⟩; have HJ2 := hI9 hj; clear hj HCC)
 refine bodyPost_end (v := .tuple #[]) (by simp (maxDischargeDepth := 9) [results, Tryz.results55, go_sem]) rfl ?_
 exact ⟨⟨_, rfl⟩, q, by simpa using HJ2.out⟩
end Go.Proofs.YtlabfpjlckdmfaaGreat

namespace Go.Proofs.YtlabfpjlckdmfaaGreat
open Go Go.RowKit Go.Proofs
set_option maxRecDepth 100000
set_option maxHeartbeats 8000000
theorem fsafe2_c (M : MetD) (vF vS vN : Value) (P : Nat) (lt tt : Tab) (F : FliD) (vR : Value) (lw ls lc : Int) (li lb : Bool) (w : World) (hN : NetAt w vN M vF vS P lt tt) (hM : MetAt w vF vS M) (hP : M.places = P) (hp8 : 1 ≤ P ∧ P ≤ 8) (hl : LegIn P lt) (htt : TabIn P 51200 tt) (hR : SlI w vR F.m F.R) :
  Calls Tryz.prog 30 #[vN, .agg #[.int .i64 lw, .int .i64 ls, .int .i64 lc, .bool li, .bool lb], .agg #[vR, .int .i64 F.dep, .int .i64 F.fuel, .int .i64 F.burn, .int .i64 F.res]] w fun e w' => ∃ v, e = .returned (.tuple #[v, .bool (F.okB P lt && (F.prf lt tt (opM M lw ls lc li lb) P).2.2)]) ∧ RowKit.Below w.heap.size w w' ∧ (F.okB P lt = true → FliAt w' v vN M vF vS P lt tt F vR lw ls lc li lb) := by
 have HN := hI9 hN
 have HM := hI9 hM
 have HR := hI9 hR
 have HFC := hI9 (fun w1 h1 h2 => fly_c M vF vS vN P lt tt F vR w1 h1 hP hp8 hl h2)
 have hpr := fun v w1 h hm hok => fproof_c M vF vS v vN P lt tt F vR lw ls lc li lb w1 h hm hP hp8.2 hok hl htt
 clear hN hM hR hP hp8 hl htt
 generalize F.prf lt tt (opM M lw ls lc li lb) P = R at *
 obtain ⟨l, rt, rs⟩ := R
 dsimp only at hpr ⊢
 have HPR := hI9 hpr
 obtain ⟨BB, hBB⟩ : ∃ BB, BB = (F.okB P lt && rs) := ⟨_, rfl⟩
 rw [← hBB]
 have HBB := hI9 hBB
 clear hpr hBB
 have tok : True := trivial
 go_enter Tryz.func30, Tryz.ntmps30
 go_wp2_with (fail)
 have _x := frm2 w #[.int .i64 lw, .int .i64 ls, .int .i64 lc, .bool li, .bool lb] 31 #[vR, .int .i64 F.dep, .int .i64 F.fuel, .int .i64 F.burn, .int .i64 F.res] 37
 have HI := hI9 _x.1
 have HF := hI9 _x.2.1
 have HB := hI9 _x.2.2.1
 have zW := _x.2.2.2
 clear _x
 generalize World.alloc (World.alloc w _) _ = W at *
 go_wp2_with (have _t := tok; refine wpl_row rfl 37 _ rfl _ rfl _ 5 HF.out Tryz.rowFli rfl ?_; simp only [Act.put]; clear tok)
 refine (HFC.out _ (HN.out.below HB.out) (HR.out.below HB.out)).mono ?_
 rintro e w3 ⟨v, rfl, hb3, hfr⟩
 have HB3 := hI9 (bthen HB.out hb3)
 have HB23 := hI9 hb3
 have HM3 := hI9 (HI.out.below hb3)
 clear HI HF hb3 HFC
 cases hok : F.okB P lt
 case false =>
  obtain rfl := hfr.2 (fun h => by rw [FliD.okB_iff.2 h] at hok; cases hok)
  have HKF := hI9 hok
  clear hfr hok
  go_wp2_with (fail)
  go_ret2
  exact ⟨_, by rw [HBB.out, HKF.out]; rfl, HB3.out, fun h => by rw [HKF.out] at h; cases h⟩
 have HKF := hI9 hok
 have hfa := (hfr.1 (FliD.okB_iff.1 hok)).1
 have hge := (hfr.1 (FliD.okB_iff.1 hok)).2
 have HOK := hI9 (FliD.okB_iff.1 hok)
 obtain ⟨gx, vA, rfl, h1, h2, h3, h4, h5⟩ := hfa
 have HGE := hI9 (hge _ _ _ rfl)
 have HXX := hI9 h1
 have HH2 := hI9 (And.intro h4 h5)
 have y6 := h1.cell 6
 have y7 := h1.cell 7
 have y8 := h1.cell 8
 have y9 := h1.cell 9
 have y10 := h1.cell 10
 have fr := fun i => h1.frozen i
 simp only [gtA, gtS, gtZ] at y6 y7 y8 y9 y10
 clear hge hfr hok h1 h2 h3 h4 h5
 have tok2 : True := trivial
 go_wp2_with (have _t := tok2; refine wpl_row rfl 31 _ rfl _ rfl _ 5 HM3.out Tryz.rowMin rfl ?_; simp only [Act.put]; clear tok2)
 have hx := (((((HXX.out.set_ 6 (.int .i64 lw)).set_ 7 (.int .i64 ls)).set_ 8 (.int .i64 lc)).set_ 9 (.bool li)).set_ 10 (.bool lb))
 obtain ⟨hsa, hne⟩ := HH2.out
 have hb2 : RowKit.Below W.heap.size W (((((w3.setCell ⟨gx, 6, none⟩ (.int .i64 lw)).setCell ⟨gx, 7, none⟩ (.int .i64 ls)).setCell ⟨gx, 8, none⟩ (.int .i64 lc)).setCell ⟨gx, 9, none⟩ (.bool li)).setCell ⟨gx, 10, none⟩ (.bool lb)) := bset (bset (bset (bset (bset HB23.out HGE.out _) HGE.out _) HGE.out _) HGE.out _) HGE.out _
 have HSA : Hid (SlI (((((w3.setCell ⟨gx, 6, none⟩ (.int .i64 lw)).setCell ⟨gx, 7, none⟩ (.int .i64 ls)).setCell ⟨gx, 8, none⟩ (.int .i64 lc)).setCell ⟨gx, 9, none⟩ (.bool li)).setCell ⟨gx, 10, none⟩ (.bool lb)) vA F.m (F.at_ lt)) := by
  obtain ⟨A2, c2, rfl, e2, e3, e4⟩ := hsa
  refine hI9 ⟨A2, c2, rfl, e2, e3, RecsAt.frm e4 (by simp) fun b off e => ?_⟩
  subst e
  have hbg : b ≠ gx := fun q => hne (by rw [q]; rfl)
  rw [Below.heap_setCell _ ⟨gx, 10, none⟩ _ b hbg, Below.heap_setCell _ ⟨gx, 9, none⟩ _ b hbg, Below.heap_setCell _ ⟨gx, 8, none⟩ _ b hbg, Below.heap_setCell _ ⟨gx, 7, none⟩ _ b hbg, Below.heap_setCell _ ⟨gx, 6, none⟩ _ b hbg]
 have hfi : FliAt (((((w3.setCell ⟨gx, 6, none⟩ (.int .i64 lw)).setCell ⟨gx, 7, none⟩ (.int .i64 ls)).setCell ⟨gx, 8, none⟩ (.int .i64 lc)).setCell ⟨gx, 9, none⟩ (.bool li)).setCell ⟨gx, 10, none⟩ (.bool lb)) (.pointer (some ⟨gx, 0, none⟩)) vN M vF vS P lt tt F vR lw ls lc li lb := ⟨gx, vA, rfl, hx, (HN.out.below HB.out).below hb2, (HR.out.below HB.out).below hb2, HSA.out, hne⟩
 refine (HPR.out _ _ ⟨gx, vA, rfl, hx, (HN.out.below HB.out).below hb2, (HR.out.below HB.out).below hb2, HSA.out, hne⟩ ((HM.out.below HB.out).below hb2) HOK.out).mono ?_
 rintro e w5 ⟨vO, rfl, hb5, hO⟩
 have HB5 := hI9 (bthen (bthen HB.out hb2) hb5)
 have HFI := hI9 (hfi.below hb5)
 clear hx hsa hb2 HSA HPR hb5 hO hfi y6 y7 y8 y9 y10 fr HXX HB3 HB23 HM3 HB HH2
 go_wp2_with (fail)
 go_ret2
 exact ⟨_, by rw [HBB.out, HKF.out]; rfl, HB5.out, fun _ => HFI.out⟩
end Go.Proofs.YtlabfpjlckdmfaaGreat

namespace Go.Proofs.YtlabfpjlckdmfaaGreat
open Go Go.RowKit Go.Proofs
set_option maxRecDepth 100000
set_option maxHeartbeats 8000000
theorem newFlightM2_c (M : MetD) (vF vS : Value) (gl : Nat) (lw ls lc : Int) (li lb : Bool) (A : Option Addr) (n c : Nat) (S : Tab) (F : FliD) (vR : Value) (w : World) (hM : MetAt w vF vS M) (hmi : Blk w gl 31 #[.int .i64 lw, .int .i64 ls, .int .i64 lc, .bool li, .bool lb]) (hc1 : n ≤ c) (hc2 : c ≤ 9223372036854775807) (hL : RecsAt w A n 3 (nV S)) (hR : SlI w vR F.m F.R) :
  Calls Tryz.prog 25 #[.agg #[.int .i64 M.places, .int .i64 M.any.a0, .int .i64 M.any.a1, .int .i64 M.any.a2, .int .i64 M.any.a3, .int .i64 M.any.a4, .int .i64 M.any.a5, .bool M.any.i, .bool M.any.s, .int .i64 M.mw, .int .i64 M.ms, .int .i64 M.mc, vF, vS], .pointer (some ⟨gl, 0, none⟩), .slice A n c, .agg #[vR, .int .i64 F.dep, .int .i64 F.fuel, .int .i64 F.burn, .int .i64 F.res]] w fun e w' => ∃ v, e = .returned (.tuple #[v, .int .i64 (nfE (netME M lw ls lc S n) M S n F)]) ∧ RowKit.Below w.heap.size w w' ∧ NfRes (nfE (netME M lw ls lc S n) M S n F) w' v M vF vS S n F vR lw ls lc li lb ∧ (nfE (netME M lw ls lc S n) M S n F ≠ 0 → v = .pointer none) := by
 have HM := hI9 hM
 have HL := hI9 hL
 have HR := hI9 hR
 have HMI := hI9 hmi
 clear hM hL hR hmi
 have hnn := fun w1 h1 hm h2 => netM_c M vF vS gl lw ls lc li lb A n c S w1 h1 hm hc1 hc2 h2
 obtain ⟨E, hE⟩ : ∃ q, q = netME M lw ls lc S n := ⟨_, rfl⟩
 obtain ⟨NE, hNE⟩ : ∃ q, q = nfE E M S n F := ⟨_, rfl⟩
 rw [← hE] at hnn ⊢
 rw [← hNE]
 have HNN := hI9 hnn
 clear hnn
 unfold nfE at hNE
 by_cases h0 : E = 0
 case neg =>
  rw [if_neg h0] at hNE
  have hz : (E != 0) = true := by simpa using h0
  have HH := hI9 (And.intro hNE h0)
  clear hNE h0 hE
  go_enter Tryz.func25, Tryz.ntmps25
  go_wp2_with (fail)
  have _x := frm2 w #[.int .i64 M.places, .int .i64 M.any.a0, .int .i64 M.any.a1, .int .i64 M.any.a2, .int .i64 M.any.a3, .int .i64 M.any.a4, .int .i64 M.any.a5, .bool M.any.i, .bool M.any.s, .int .i64 M.mw, .int .i64 M.ms, .int .i64 M.mc, vF, vS] 29 #[vR, .int .i64 F.dep, .int .i64 F.fuel, .int .i64 F.burn, .int .i64 F.res] 37
  have HX := hI9 _x.1
  have HF := hI9 _x.2.1
  have HB := hI9 _x.2.2.1
  have zW := _x.2.2.2
  clear _x
  generalize World.alloc (World.alloc w _) _ = W at *
  have tok : True := trivial
  go_wp2_with (first | (have _t := tok; refine wpl_row rfl 29 _ rfl _ rfl _ 14 HX.out Tryz.rowMet rfl ?_; simp only [Act.put]; clear tok))
  refine (HNN.out _ (HM.out.below HB.out) (HMI.out.below HB.out) (HL.out.below HB.out)).mono ?_
  rintro e w2 ⟨vN, rfl, hb2, hN⟩
  have nHX := hI9 (HX.out.below hb2)
  have nHF := hI9 (HF.out.below hb2)
  have nHB := hI9 (bthen HB.out hb2)
  clear HX HF HB hb2
  have HX := nHX
  have HF := nHF
  have HB := nHB
  clear nHX nHF nHB
  go_wp2_with (fail)
  go_ret2
  exact ⟨_, by rw [HH.out.1]; rfl, HB.out, fun h => absurd (HH.out.1.symm.trans h) HH.out.2, fun _ => rfl⟩
 rw [if_pos h0] at hNE
 subst h0
 obtain ⟨f1, f2, -⟩ := netME_ok hE.symm
 obtain ⟨f3, f4, f5, f6⟩ := net_facts f1 f2
 have HFC := hI9 (fun v w1 h1 h2 => fly_c M vF vS v M.places.toNat (lgT S n) (timT S n M.places.toNat) F vR w1 h1 f3 f4 f5 h2)
 have HNE := hI9 hNE
 clear hNE hE f1 f2 f3 f4 f5 f6
 go_enter Tryz.func25, Tryz.ntmps25
 go_wp2_with (fail)
 have _x := frm2 w #[.int .i64 M.places, .int .i64 M.any.a0, .int .i64 M.any.a1, .int .i64 M.any.a2, .int .i64 M.any.a3, .int .i64 M.any.a4, .int .i64 M.any.a5, .bool M.any.i, .bool M.any.s, .int .i64 M.mw, .int .i64 M.ms, .int .i64 M.mc, vF, vS] 29 #[vR, .int .i64 F.dep, .int .i64 F.fuel, .int .i64 F.burn, .int .i64 F.res] 37
 have HX := hI9 _x.1
 have HF := hI9 _x.2.1
 have HB := hI9 _x.2.2.1
 have zW := _x.2.2.2
 clear _x
 generalize World.alloc (World.alloc w _) _ = W at *
 have tok : True := trivial
 go_wp2_with (first | (have _t := tok; refine wpl_row rfl 29 _ rfl _ rfl _ 14 HX.out Tryz.rowMet rfl ?_; simp only [Act.put]; clear tok))
 refine (HNN.out _ (HM.out.below HB.out) (HMI.out.below HB.out) (HL.out.below HB.out)).mono ?_
 rintro e w2 ⟨vN, rfl, hb2, hN⟩
 have nHX := hI9 (HX.out.below hb2)
 have nHF := hI9 (HF.out.below hb2)
 have nHB := hI9 (bthen HB.out hb2)
 clear HX HF HB hb2
 have HX := nHX
 have HF := nHF
 have HB := nHB
 clear nHX nHF nHB
 have HNA := hI9 (hN (by trivial))
 clear hN
 go_wp2_with (refine wpl_row rfl 37 (.tmp 7) rfl _ rfl _ 5 HF.out Tryz.rowFli rfl ?_; simp only [Act.put])
 refine (HFC.out _ _ HNA.out (HR.out.below HB.out)).mono ?_
 rintro e w3 ⟨v, rfl, hb3, hfr⟩
 have HB3 := hI9 (bthen HB.out hb3)
 have HB2 := HB
 have HB23 := hI9 hb3
 have HNA2 := HNA
 clear HB HX HF HNA hb3
 cases hok : F.okB M.places.toNat (lgT S n)
 case false =>
  obtain rfl := hfr.2 (fun h => by rw [FliD.okB_iff.2 h] at hok; cases hok)
  have HH := hI9 (show NE = 51 by rw [HNE.out, hok]; rfl)
  clear hfr hok HNE
  go_wp2_with (fail)
  go_ret2
  exact ⟨_, by rw [HH.out]; rfl, HB3.out, fun h => absurd (HH.out.symm.trans h) (by decide), fun _ => rfl⟩
 have hfa := (hfr.1 (FliD.okB_iff.1 hok)).1
 have hge := (hfr.1 (FliD.okB_iff.1 hok)).2
 have HH := hI9 (show NE = 0 by rw [HNE.out, hok]; rfl)
 obtain ⟨gx, vA, rfl, h1, h2, h3, h4, h5⟩ := hfa
 have HGE := hI9 (hge _ _ _ rfl)
 have HXX := hI9 h1
 have HH2 := hI9 (And.intro h2 (And.intro h3 (And.intro h4 h5)))
 have HM3 := hI9 (HMI.out.below HB3.out)
 have y6 := h1.cell 6
 have y7 := h1.cell 7
 have y8 := h1.cell 8
 have y9 := h1.cell 9
 have y10 := h1.cell 10
 have fr := fun i => h1.frozen i
 simp only [gtA, gtS, gtZ] at y6 y7 y8 y9 y10
 clear hge hfr hok HNE h1 h2 h3 h4 h5
 have tok2 : True := trivial
 go_wp2_with (have _t := tok2; refine wpl_row rfl 31 _ rfl _ rfl _ 5 HM3.out Tryz.rowMin rfl ?_; simp only [Act.put]; clear tok2)
 go_ret2
 have hx := (((((HXX.out.set_ 6 (.int .i64 lw)).set_ 7 (.int .i64 ls)).set_ 8 (.int .i64 lc)).set_ 9 (.bool li)).set_ 10 (.bool lb))
 obtain ⟨-, hsr, hsa, hne⟩ := HH2.out
 have hb2 : RowKit.Below w2.heap.size w2 (((((w3.setCell ⟨gx, 6, none⟩ (.int .i64 lw)).setCell ⟨gx, 7, none⟩ (.int .i64 ls)).setCell ⟨gx, 8, none⟩ (.int .i64 lc)).setCell ⟨gx, 9, none⟩ (.bool li)).setCell ⟨gx, 10, none⟩ (.bool lb)) := bset (bset (bset (bset (bset HB23.out HGE.out _) HGE.out _) HGE.out _) HGE.out _) HGE.out _
 refine ⟨_, by rw [HH.out]; rfl, bthen HB2.out hb2, fun _ => ⟨vN, gx, vA, rfl, hx, HNA2.out.below hb2, (HR.out.below HB2.out).below hb2, ?_, hne⟩, fun h => absurd HH.out h⟩
 obtain ⟨A2, c2, rfl, e2, e3, e4⟩ := hsa
 refine ⟨A2, c2, rfl, e2, e3, RecsAt.frm e4 (by simp) fun b off e => ?_⟩
 subst e
 have hbg : b ≠ gx := fun q => hne (by rw [q]; rfl)
 rw [Below.heap_setCell _ ⟨gx, 10, none⟩ _ b hbg, Below.heap_setCell _ ⟨gx, 9, none⟩ _ b hbg, Below.heap_setCell _ ⟨gx, 8, none⟩ _ b hbg, Below.heap_setCell _ ⟨gx, 7, none⟩ _ b hbg, Below.heap_setCell _ ⟨gx, 6, none⟩ _ b hbg]
end Go.Proofs.YtlabfpjlckdmfaaGreat

namespace Go.Proofs.YtlabfpjlckdmfaaGreat
open Go Go.RowKit Go.Proofs
set_option maxRecDepth 100000
set_option maxHeartbeats 8000000
def SwB (e : Ending) : Prop := ∃ b : Bool, e = .returned (.bool b)
theorem slow_c (M : MetD) (vF vS : Value) (lw ls lc : Int) (li lb : Bool) (A : Option Addr) (n c : Nat) (S : Tab) (w : World) (hc1 : n ≤ c) (hc2 : c ≤ 9223372036854775807) (hL : RecsAt w A n 3 (nV S)) :
  Calls Tryz.prog 12 #[.agg #[.int .i64 M.places, .int .i64 M.any.a0, .int .i64 M.any.a1, .int .i64 M.any.a2, .int .i64 M.any.a3, .int .i64 M.any.a4, .int .i64 M.any.a5, .bool M.any.i, .bool M.any.s, .int .i64 M.mw, .int .i64 M.ms, .int .i64 M.mc, vF, vS, .int .i64 lw, .int .i64 ls, .int .i64 lc, .bool li, .bool lb, .slice A n c]] w fun e w' => SwB e ∧ RowKit.Below w.heap.size w w' := by
 have HL := hI9 hL
 clear hL
 go_enter Tryz.func12, Tryz.ntmps12
 go_wp2_with (fail)
 have _x := frm1 w #[.int .i64 M.places, .int .i64 M.any.a0, .int .i64 M.any.a1, .int .i64 M.any.a2, .int .i64 M.any.a3, .int .i64 M.any.a4, .int .i64 M.any.a5, .bool M.any.i, .bool M.any.s, .int .i64 M.mw, .int .i64 M.ms, .int .i64 M.mc, vF, vS, .int .i64 lw, .int .i64 ls, .int .i64 lc, .bool li, .bool lb, .slice A n c] 34
 have HX := hI9 _x.1
 have HB := hI9 _x.2.1
 have zW := _x.2.2
 clear _x
 generalize World.alloc w _ = W at *
 have x0 := HX.out.cell 0
 have x19 := HX.out.cell 19
 simp only [gtA, gtS, gtZ] at x0 x19
 have HW := hI9 HB.out
 generalize hWW : W = W0 at *
 clear hWW
 go_loopg [3] n (fun gx v wr => ∃ k : Nat, v = .int .i64 k ∧ k ≤ n ∧ n - k ≤ gx ∧ W0 = wr)
 case atStart => exact ⟨0, rfl, Nat.zero_le _, Nat.le_refl _, rfl⟩
 case round =>
  obtain ⟨k, rfl, hk, hgx, rfl⟩ := hrel
  by_cases hlt : k < n
  ·have hltz : (k : Int) < (n : Int) := by omega
   obtain ⟨bL, oL, rfl, hbL, hcL⟩ := HL.out (by omega)
   have l2 := (HB.out.cell (p := ⟨bL, oL + k * 3 + 2, none⟩) hbL).trans (hcL k hlt 2 (by omega))
   simp only [nV] at l2
   clear hcL
   generalize S k 2 = s at *
   by_cases c1 : 25 < s
   ·by_cases c2 : s ≤ 200
    ·go_wp2_with (fail)
     go_ret
     exact ⟨⟨_, rfl⟩, HB.out⟩
    ·go_wp2_with (fail)
     go_roundg (n - (k + 1))
     case measure => omega
     case rel => exact ⟨k + 1, by first | rfl | go_num | (congr 1; omega), by omega, Nat.le_refl _, rfl⟩
   ·go_wp2_with (fail)
    go_roundg (n - (k + 1))
    case measure => omega
    case rel => exact ⟨k + 1, by first | rfl | go_num | (congr 1; omega), by omega, Nat.le_refl _, rfl⟩
  ·obtain rfl : k = n := by omega
   have hnz : ¬ (k : Int) < (k : Int) := by omega
   by_cases c1 : 5 < M.places
   ·go_wp2_with (fail)
    go_ret
    exact ⟨⟨_, rfl⟩, HB.out⟩
   ·go_wp2_with (fail)
    go_ret
    exact ⟨⟨_, rfl⟩, HB.out⟩
end Go.Proofs.YtlabfpjlckdmfaaGreat
