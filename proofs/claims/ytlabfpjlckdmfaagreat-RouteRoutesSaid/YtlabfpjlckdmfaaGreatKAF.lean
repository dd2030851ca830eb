/- Texts joined: KAF. -/
import Derived.Test.YtlabfpjlckdmfaaGreatKAE
import Derived.Test.YtlabfpjlckdmfaaGreatKAA
set_option linter.all false
namespace Go.Proofs.YtlabfpjlckdmfaaGreat
open Go Go.Shelf Go.RowKit Go.Lib Go.Sort Go.Proofs
set_option maxRecDepth 1000000
variable {α : Type} [Inhabited α]
set_option maxHeartbeats 40000000 in
theorem sym1_c (enc : α → Value) (cf : α → α → Int) (g : Nat) (cb : Array Value) (blk off cap N : Nat) (d0 : Array α) (w0 : World) {l2 : α → α → Bool} (hS : SWO l2)
  (eg : ∀ args w, (callFunc g args).run Tryz.prog w = .ok (.enter g args) w) (hcmp : CmpLays1 Tryz.prog g cb enc cf blk off d0.size w0) (R : Row1 enc w0 blk off d0) (hN : d0.size = N) (hsz : N < 4611686018427387904)
  (a m b : Nat) (d : Array α) (w : World) (hs : d.size = N) (S : SW enc w0 blk off d w) (h : MergeIn (ltOf cf) l2 a m b d) (hm : m = a + 1) :
  Calls Tryz.prog 133 #[.slice (some ⟨blk, off, none⟩) N cap, .int .i64 a, .int .i64 m, .int .i64 b, .func (.func g) #[] cb] w fun e w' => e = .returned (.tuple #[]) ∧
   ∃ d', SW enc w0 blk off d' w' ∧ Merged l2 a b d d' := by
 have hcl0 := R.hO.cells
 simp only [Value.cells] at hcl0
 have hst := R.hO.store Tryz.prog
 have mixed : Tryz.prog.follows Departure.mixedOrders = true := by kernel_rfl
 have HC : Aside _ := hcmp
 have S1 : Aside (SW enc w0 blk off d w) := S
 have ham := h.am
 have hmb := h.mb
 have hb : b ≤ N := by have := h.bs; omega
 have HMI := hI9 h
 clear S hcmp h
 ·have hq1 : ((m : Int) - (a : Int) == 1) = true := by simp; first | done | omega
  have hm1 : m ≤ a + 1 := by omega
  have HM1 := hI9 hm
  clear hm
  go_enter Tryz.func133, Tryz.ntmps133
  go_wp2
  go_loopg [10, 11] (b - m) (fun gx s t wr => ∃ i j : Nat, s = .int .i64 i ∧ t = .int .i64 j ∧ m ≤ i ∧ i ≤ j ∧ j ≤ b ∧ j - i ≤ gx ∧ Aside (SW enc w0 blk off d wr) ∧ Aside ((i = m ∨ l2 d[i - 1]! d[a]! = true) ∧ (j = b ∨ l2 d[j]! d[a]! = false)))
  case atStart => exact ⟨m, b, rfl, rfl, Nat.le_refl _, by omega, Nat.le_refl _, Nat.le_refl _, S1, .inl rfl, .inl rfl⟩
  case round =>
   clear S1
   obtain ⟨i, j, rfl, rfl, hmi, hij, hjb, hg1, S1, HX⟩ := hrel
   by_cases hlt : i < j
   ·have hltz : (i : Int) < (j : Int) := by omega
    have ag := HMI.out.ag a ((i + j) / 2) (Nat.le_refl _) (by omega) (by omega) (by omega)
    cases hlv : ltOf cf d[(i + j) / 2]! d[a]! with
    | true =>
     rw [hlv] at ag
     have HX2 : Aside (((i + j) / 2 + 1 = m ∨ l2 d[(i + j) / 2 + 1 - 1]! d[a]! = true) ∧ (j = b ∨ l2 d[j]! d[a]! = false)) := ⟨.inr ag.symm, HX.out.2⟩
     clear HX ag
     obtain ⟨iN1, hiN1⟩ : ∃ q, q = ((i + j) / 2) := ⟨_, rfl⟩
     obtain ⟨jN1, hjN1⟩ : ∃ q, q = a := ⟨_, rfl⟩
     have ea1 : ((((i : Int) + (j : Int)) / 2)).toNat = iN1 := by omega
     have pa1 : (0 : Int) ≤ (((i : Int) + (j : Int)) / 2) := by omega
     have ba1 : (((i : Int) + (j : Int)) / 2) < (N : Int) := by omega
     have ra1 : IntKind.i64.wrap ((((i : Int) + (j : Int)) / 2)) = (((i : Int) + (j : Int)) / 2) := by rw [IntKind.wrap_i64]; omega
     have ec1 : ((a : Int)).toNat = jN1 := by omega
     have pc1 : (0 : Int) ≤ (a : Int) := by omega
     have bc1 : (a : Int) < (N : Int) := by omega
     have rc1 : IntKind.i64.wrap ((a : Int)) = (a : Int) := by rw [IntKind.wrap_i64]; omega
     obtain ⟨x1, hx1⟩ : ∃ x, x = d[((i + j) / 2)]! := ⟨_, rfl⟩
     obtain ⟨y1, hy1⟩ : ∃ x, x = d[a]! := ⟨_, rfl⟩
     have la1 := S1.out.cl R (by omega) (((i + j) / 2)) (by omega)
     have lb1 := S1.out.cl R (by omega) (a) (by omega)
     rw [← hx1, ← hiN1] at la1
     rw [← hy1, ← hjN1] at lb1
     have hc1 := S1.out.cmp HC.out (by omega) x1 y1
     have hd1 : decide (cf x1 y1 < 0) = true := by rw [hx1, hy1]; exact hlv
     have hv1 : cf x1 y1 < 0 := of_decide_eq_true hd1
     clear hx1 hy1 hiN1 hjN1 hlv
     go_wp2_with fail
     go_quiet_grown (first | (go_at_fn g; refine Calls.grown_of (hc1 _ _)))
     have S2 : Aside (SW enc w0 blk off d (grow (wr.drewN nq) osq)) := S1.out.grown nq osq
     clear la1 lb1 hc1 S1
     generalize grow (wr.drewN nq) osq = w2 at S2 ⊢
     clear nq osq
     clear ea1 ec1 ra1 rc1 pa1 pc1 ba1 bc1 hv1
     go_wp2
     go_roundg (j - ((i + j) / 2 + 1))
     case measure => omega
     case rel => exact ⟨(i + j) / 2 + 1, j, by first | rfl | go_num | (congr 1; omega), rfl, by omega, by omega, hjb, Nat.le_refl _, S2, HX2⟩
    | false =>
     rw [hlv] at ag
     have HX2 : Aside ((i = m ∨ l2 d[i - 1]! d[a]! = true) ∧ ((i + j) / 2 = b ∨ l2 d[(i + j) / 2]! d[a]! = false)) := ⟨HX.out.1, .inr ag.symm⟩
     clear HX ag
     obtain ⟨iN2, hiN2⟩ : ∃ q, q = ((i + j) / 2) := ⟨_, rfl⟩
     obtain ⟨jN2, hjN2⟩ : ∃ q, q = a := ⟨_, rfl⟩
     have ea2 : ((((i : Int) + (j : Int)) / 2)).toNat = iN2 := by omega
     have pa2 : (0 : Int) ≤ (((i : Int) + (j : Int)) / 2) := by omega
     have ba2 : (((i : Int) + (j : Int)) / 2) < (N : Int) := by omega
     have ra2 : IntKind.i64.wrap ((((i : Int) + (j : Int)) / 2)) = (((i : Int) + (j : Int)) / 2) := by rw [IntKind.wrap_i64]; omega
     have ec2 : ((a : Int)).toNat = jN2 := by omega
     have pc2 : (0 : Int) ≤ (a : Int) := by omega
     have bc2 : (a : Int) < (N : Int) := by omega
     have rc2 : IntKind.i64.wrap ((a : Int)) = (a : Int) := by rw [IntKind.wrap_i64]; omega
     obtain ⟨x2, hx2⟩ : ∃ x, x = d[((i + j) / 2)]! := ⟨_, rfl⟩
     obtain ⟨y2, hy2⟩ : ∃ x, x = d[a]! := ⟨_, rfl⟩
     have la2 := S1.out.cl R (by omega) (((i + j) / 2)) (by omega)
     have lb2 := S1.out.cl R (by omega) (a) (by omega)
     rw [← hx2, ← hiN2] at la2
     rw [← hy2, ← hjN2] at lb2
     have hc2 := S1.out.cmp HC.out (by omega) x2 y2
     have hd2 : decide (cf x2 y2 < 0) = false := by rw [hx2, hy2]; exact hlv
     have hv2 : ¬ cf x2 y2 < 0 := of_decide_eq_false hd2
     clear hx2 hy2 hiN2 hjN2 hlv
     go_wp2_with fail
     go_quiet_grown (first | (go_at_fn g; refine Calls.grown_of (hc2 _ _)))
     have S2 : Aside (SW enc w0 blk off d (grow (wr.drewN nq) osq)) := S1.out.grown nq osq
     clear la2 lb2 hc2 S1
     generalize grow (wr.drewN nq) osq = w2 at S2 ⊢
     clear nq osq
     clear ea2 ec2 ra2 rc2 pa2 pc2 ba2 bc2 hv2
     go_wp2
     go_roundg ((i + j) / 2 - i)
     case measure => omega
     case rel => exact ⟨i, (i + j) / 2, rfl, by first | rfl | go_num | (congr 1; omega), hmi, by omega, by omega, Nat.le_refl _, S2, HX2⟩
   ·have hltz : ¬ (i : Int) < (j : Int) := by omega
    obtain rfl : i = j := by omega
    go_wp2
    go_loopg [13] (i - a) (fun gx s wr => ∃ (k : Nat) (dk : Array α), s = .int .i64 k ∧ a ≤ k ∧ k + 1 ≤ i ∧ i - k ≤ gx ∧ dk.size = N ∧ Aside (SW enc w0 blk off dk wr) ∧ Aside (Moved d dk (rotI a (a + 1) (k + 1)) ∧ PermIn a b d dk))
    case atStart => exact ⟨a, d, rfl, Nat.le_refl _, by omega, Nat.le_refl _, hs, S1, ⟨rfl, fun k _ => by rw [rotI_self]⟩, permIn_refl d a b⟩
    case round =>
     clear S1
     obtain ⟨k, dk, rfl, hak, hki, hg2, hsk, S1, HM⟩ := hrel
     by_cases hlt2 : k + 1 < i
     ·have hlt2z : (k : Int) < (i : Int) - 1 := by omega
      have HM2 : Aside (Moved d (swp dk k (k + 1)) (rotI a (a + 1) (k + 1 + 1)) ∧ PermIn a b d (swp dk k (k + 1))) :=
       ⟨rot_up HM.out.1 hak hlt2 (by omega), permIn_trans _ _ _ a b HM.out.2 (swp_permIn dk a b k (k + 1) hak (by omega) (by omega) (by omega) (by omega))⟩
      clear HM
      go_wp2_with fail
      obtain ⟨iN3, hiN3⟩ : ∃ q, q = k := ⟨_, rfl⟩
      obtain ⟨jN3, hjN3⟩ : ∃ q, q = (k + 1) := ⟨_, rfl⟩
      have ea3 : ((k : Int)).toNat = iN3 := by omega
      have pa3 : (0 : Int) ≤ (k : Int) := by omega
      have ba3 : (k : Int) < (N : Int) := by omega
      have ra3 : IntKind.i64.wrap ((k : Int)) = (k : Int) := by rw [IntKind.wrap_i64]; omega
      have ec3 : (((k : Int) + 1)).toNat = jN3 := by omega
      have pc3 : (0 : Int) ≤ ((k : Int) + 1) := by omega
      have bc3 : ((k : Int) + 1) < (N : Int) := by omega
      have rc3 : IntKind.i64.wrap (((k : Int) + 1)) = ((k : Int) + 1) := by rw [IntKind.wrap_i64]; omega
      obtain ⟨x3, hx3⟩ : ∃ x, x = dk[k]! := ⟨_, rfl⟩
      obtain ⟨y3, hy3⟩ : ∃ x, x = dk[(k + 1)]! := ⟨_, rfl⟩
      have S2 : Aside (SW enc w0 blk off (swp dk (k) ((k + 1))) ((wr.setCell ⟨blk, off + iN3, none⟩ (enc y3)).setCell ⟨blk, off + jN3, none⟩ (enc x3)).drew) := by rw [hiN3, hjN3, hx3, hy3]; exact S1.out.swapped R (k) ((k + 1)) (by omega) (by omega)
      have ca3 := S1.out.c1 R (by omega) (k) (by omega)
      have cb3 := S1.out.c1 R (by omega) ((k + 1)) (by omega)
      have fa3 := S1.out.f1 R (by omega) (k) (by omega)
      have fb3 := S1.out.f1 R (by omega) ((k + 1)) (by omega)
      obtain ⟨u3, cc3⟩ := S1.out.c2 R (by omega) (k) ((k + 1)) (by omega) (by omega) (enc y3)
      rw [← hjN3, ← hiN3] at cc3
      rw [← hx3, ← hiN3] at ca3
      rw [← hy3, ← hjN3] at cb3
      rw [← hiN3] at fa3
      rw [← hjN3] at fb3
      clear S1 hx3 hy3 hiN3 hjN3
      go_wp2_with fail
      go_big_region_o
      clear ca3 cb3 cc3 fa3 fb3
      generalize ((wr.setCell ⟨blk, off + iN3, none⟩ (enc y3)).setCell ⟨blk, off + jN3, none⟩ (enc x3)).drew = w2 at S2 ⊢
      clear ea3 ec3 ra3 rc3 pa3 pc3 ba3 bc3
      go_wp2
      go_roundg (i - (k + 1))
      case measure => omega
      case rel => exact ⟨k + 1, swp dk k (k + 1), by first | rfl | go_num | (congr 1; omega), by omega, by omega, Nat.le_refl _, by rw [size_swp]; exact hsk, S2, HM2⟩
     ·have hlt2z : ¬ (k : Int) < (i : Int) - 1 := by omega
      obtain rfl : i = k + 1 := by omega
      go_wp2
      ((try simp only [Exit.inBlock, Exit.then]); first | refine bodyPost_ret (results_none rfl _ _ _) rfl ?_ | refine bodyPost_end (results_none rfl _ _ _) rfl ?_)
      exact ⟨rfl, dk, S1.out, HM.out.2, merge_one_left hS HM1.out hmi hjb HMI.out.bs HMI.out.s2 HX.out.1 HX.out.2 (by rw [HM1.out]; exact HM.out.1)⟩
set_option maxHeartbeats 40000000 in
theorem sym2_c (enc : α → Value) (cf : α → α → Int) (g : Nat) (cb : Array Value) (blk off cap N : Nat) (d0 : Array α) (w0 : World) {l2 : α → α → Bool} (hS : SWO l2)
  (eg : ∀ args w, (callFunc g args).run Tryz.prog w = .ok (.enter g args) w) (hcmp : CmpLays1 Tryz.prog g cb enc cf blk off d0.size w0) (R : Row1 enc w0 blk off d0) (hN : d0.size = N) (hsz : N < 4611686018427387904)
  (a m b : Nat) (d : Array α) (w : World) (hs : d.size = N) (S : SW enc w0 blk off d w) (h : MergeIn (ltOf cf) l2 a m b d) (hm : m ≠ a + 1) (hm2 : b = m + 1) :
  Calls Tryz.prog 133 #[.slice (some ⟨blk, off, none⟩) N cap, .int .i64 a, .int .i64 m, .int .i64 b, .func (.func g) #[] cb] w fun e w' => e = .returned (.tuple #[]) ∧
   ∃ d', SW enc w0 blk off d' w' ∧ Merged l2 a b d d' := by
 have hcl0 := R.hO.cells
 simp only [Value.cells] at hcl0
 have hst := R.hO.store Tryz.prog
 have mixed : Tryz.prog.follows Departure.mixedOrders = true := by kernel_rfl
 have HC : Aside _ := hcmp
 have S1 : Aside (SW enc w0 blk off d w) := S
 have ham := h.am
 have hmb := h.mb
 have hb : b ≤ N := by have := h.bs; omega
 have HMI := hI9 h
 clear S hcmp h
 have hq1 : ((m : Int) - (a : Int) == 1) = false := by simp; first | done | omega
 ·have hq2 : ((b : Int) - (m : Int) == 1) = true := by simp; first | done | omega
  have hm1 : a + 1 < m := by omega
  have hm3 : b ≤ m + 1 := by omega
  have HM1 := hI9 hm2
  clear hm hm2
  go_enter Tryz.func133, Tryz.ntmps133
  go_wp2
  go_loopg [14, 15] (m - a) (fun gx s t wr => ∃ i j : Nat, s = .int .i64 i ∧ t = .int .i64 j ∧ a ≤ i ∧ i ≤ j ∧ j ≤ m ∧ j - i ≤ gx ∧ Aside (SW enc w0 blk off d wr) ∧ Aside ((i = a ∨ l2 d[m]! d[i - 1]! = false) ∧ (j = m ∨ l2 d[m]! d[j]! = true)))
  case atStart => exact ⟨a, m, rfl, rfl, Nat.le_refl _, by omega, Nat.le_refl _, Nat.le_refl _, S1, .inl rfl, .inl rfl⟩
  case round =>
   clear S1
   obtain ⟨i, j, rfl, rfl, hmi, hij, hjb, hg1, S1, HX⟩ := hrel
   by_cases hlt : i < j
   ·have hltz : (i : Int) < (j : Int) := by omega
    have ag := HMI.out.ag ((i + j) / 2) m (by omega) (by omega) (Nat.le_refl _) (by omega)
    cases hlv : ltOf cf d[m]! d[(i + j) / 2]! with
    | true =>
     rw [hlv] at ag
     have HX2 : Aside ((i = a ∨ l2 d[m]! d[i - 1]! = false) ∧ ((i + j) / 2 = m ∨ l2 d[m]! d[(i + j) / 2]! = true)) := ⟨HX.out.1, .inr ag.symm⟩
     clear HX ag
     obtain ⟨iN4, hiN4⟩ : ∃ q, q = m := ⟨_, rfl⟩
     obtain ⟨jN4, hjN4⟩ : ∃ q, q = ((i + j) / 2) := ⟨_, rfl⟩
     have ea4 : ((m : Int)).toNat = iN4 := by omega
     have pa4 : (0 : Int) ≤ (m : Int) := by omega
     have ba4 : (m : Int) < (N : Int) := by omega
     have ra4 : IntKind.i64.wrap ((m : Int)) = (m : Int) := by rw [IntKind.wrap_i64]; omega
     have ec4 : ((((i : Int) + (j : Int)) / 2)).toNat = jN4 := by omega
     have pc4 : (0 : Int) ≤ (((i : Int) + (j : Int)) / 2) := by omega
     have bc4 : (((i : Int) + (j : Int)) / 2) < (N : Int) := by omega
     have rc4 : IntKind.i64.wrap ((((i : Int) + (j : Int)) / 2)) = (((i : Int) + (j : Int)) / 2) := by rw [IntKind.wrap_i64]; omega
     obtain ⟨x4, hx4⟩ : ∃ x, x = d[m]! := ⟨_, rfl⟩
     obtain ⟨y4, hy4⟩ : ∃ x, x = d[((i + j) / 2)]! := ⟨_, rfl⟩
     have la4 := S1.out.cl R (by omega) (m) (by omega)
     have lb4 := S1.out.cl R (by omega) (((i + j) / 2)) (by omega)
     rw [← hx4, ← hiN4] at la4
     rw [← hy4, ← hjN4] at lb4
     have hc4 := S1.out.cmp HC.out (by omega) x4 y4
     have hd4 : decide (cf x4 y4 < 0) = true := by rw [hx4, hy4]; exact hlv
     have hv4 : cf x4 y4 < 0 := of_decide_eq_true hd4
     clear hx4 hy4 hiN4 hjN4 hlv
     go_wp2_with fail
     go_quiet_grown (first | (go_at_fn g; refine Calls.grown_of (hc4 _ _)))
     have S2 : Aside (SW enc w0 blk off d (grow (wr.drewN nq) osq)) := S1.out.grown nq osq
     clear la4 lb4 hc4 S1
     generalize grow (wr.drewN nq) osq = w2 at S2 ⊢
     clear nq osq
     clear ea4 ec4 ra4 rc4 pa4 pc4 ba4 bc4 hv4
     go_wp2
     go_roundg ((i + j) / 2 - i)
     case measure => omega
     case rel => exact ⟨i, (i + j) / 2, rfl, by first | rfl | go_num | (congr 1; omega), hmi, by omega, by omega, Nat.le_refl _, S2, HX2⟩
    | false =>
     rw [hlv] at ag
     have HX2 : Aside (((i + j) / 2 + 1 = a ∨ l2 d[m]! d[(i + j) / 2 + 1 - 1]! = false) ∧ (j = m ∨ l2 d[m]! d[j]! = true)) := ⟨.inr ag.symm, HX.out.2⟩
     clear HX ag
     obtain ⟨iN5, hiN5⟩ : ∃ q, q = m := ⟨_, rfl⟩
     obtain ⟨jN5, hjN5⟩ : ∃ q, q = ((i + j) / 2) := ⟨_, rfl⟩
     have ea5 : ((m : Int)).toNat = iN5 := by omega
     have pa5 : (0 : Int) ≤ (m : Int) := by omega
     have ba5 : (m : Int) < (N : Int) := by omega
     have ra5 : IntKind.i64.wrap ((m : Int)) = (m : Int) := by rw [IntKind.wrap_i64]; omega
     have ec5 : ((((i : Int) + (j : Int)) / 2)).toNat = jN5 := by omega
     have pc5 : (0 : Int) ≤ (((i : Int) + (j : Int)) / 2) := by omega
     have bc5 : (((i : Int) + (j : Int)) / 2) < (N : Int) := by omega
     have rc5 : IntKind.i64.wrap ((((i : Int) + (j : Int)) / 2)) = (((i : Int) + (j : Int)) / 2) := by rw [IntKind.wrap_i64]; omega
     obtain ⟨x5, hx5⟩ : ∃ x, x = d[m]! := ⟨_, rfl⟩
     obtain ⟨y5, hy5⟩ : ∃ x, x = d[((i + j) / 2)]! := ⟨_, rfl⟩
     have la5 := S1.out.cl R (by omega) (m) (by omega)
     have lb5 := S1.out.cl R (by omega) (((i + j) / 2)) (by omega)
     rw [← hx5, ← hiN5] at la5
     rw [← hy5, ← hjN5] at lb5
     have hc5 := S1.out.cmp HC.out (by omega) x5 y5
     have hd5 : decide (cf x5 y5 < 0) = false := by rw [hx5, hy5]; exact hlv
     have hv5 : ¬ cf x5 y5 < 0 := of_decide_eq_false hd5
     clear hx5 hy5 hiN5 hjN5 hlv
     go_wp2_with fail
     go_quiet_grown (first | (go_at_fn g; refine Calls.grown_of (hc5 _ _)))
     have S2 : Aside (SW enc w0 blk off d (grow (wr.drewN nq) osq)) := S1.out.grown nq osq
     clear la5 lb5 hc5 S1
     generalize grow (wr.drewN nq) osq = w2 at S2 ⊢
     clear nq osq
     clear ea5 ec5 ra5 rc5 pa5 pc5 ba5 bc5 hv5
     go_wp2
     go_roundg (j - ((i + j) / 2 + 1))
     case measure => omega
     case rel => exact ⟨(i + j) / 2 + 1, j, by first | rfl | go_num | (congr 1; omega), rfl, by omega, by omega, hjb, Nat.le_refl _, S2, HX2⟩
   ·have hltz : ¬ (i : Int) < (j : Int) := by omega
    obtain rfl : i = j := by omega
    go_wp2
    go_loopg [17] (m - a) (fun gx s wr => ∃ (k : Nat) (dk : Array α), s = .int .i64 k ∧ i ≤ k ∧ k ≤ m ∧ k - a ≤ gx ∧ dk.size = N ∧ Aside (SW enc w0 blk off dk wr) ∧ Aside (Moved d dk (rotI k m (m + 1)) ∧ PermIn a b d dk))
    case atStart => exact ⟨m, d, rfl, by omega, Nat.le_refl _, Nat.le_refl _, hs, S1, ⟨rfl, fun k _ => by rw [rotI_none _ _ _ (by omega)]⟩, permIn_refl d a b⟩
    case round =>
     clear S1
     obtain ⟨k, dk, rfl, hak, hki, hg2, hsk, S1, HM⟩ := hrel
     by_cases hlt2 : i < k
     ·have hlt2z : (i : Int) < (k : Int) := by omega
      have HM2 : Aside (Moved d (swp dk k (k - 1)) (rotI (k - 1) m (m + 1)) ∧ PermIn a b d (swp dk k (k - 1))) :=
       ⟨rot_down HM.out.1 (by omega) hki (by omega), permIn_trans _ _ _ a b HM.out.2 (swp_permIn dk a b k (k - 1) (by omega) (by omega) (by omega) (by omega) (by omega))⟩
      clear HM
      go_wp2_with fail
      obtain ⟨iN6, hiN6⟩ : ∃ q, q = k := ⟨_, rfl⟩
      obtain ⟨jN6, hjN6⟩ : ∃ q, q = (k - 1) := ⟨_, rfl⟩
      have ea6 : ((k : Int)).toNat = iN6 := by omega
      have pa6 : (0 : Int) ≤ (k : Int) := by omega
      have ba6 : (k : Int) < (N : Int) := by omega
      have ra6 : IntKind.i64.wrap ((k : Int)) = (k : Int) := by rw [IntKind.wrap_i64]; omega
      have ec6 : (((k : Int) - 1)).toNat = jN6 := by omega
      have pc6 : (0 : Int) ≤ ((k : Int) - 1) := by omega
      have bc6 : ((k : Int) - 1) < (N : Int) := by omega
      have rc6 : IntKind.i64.wrap (((k : Int) - 1)) = ((k : Int) - 1) := by rw [IntKind.wrap_i64]; omega
      obtain ⟨x6, hx6⟩ : ∃ x, x = dk[k]! := ⟨_, rfl⟩
      obtain ⟨y6, hy6⟩ : ∃ x, x = dk[(k - 1)]! := ⟨_, rfl⟩
      have S2 : Aside (SW enc w0 blk off (swp dk (k) ((k - 1))) ((wr.setCell ⟨blk, off + iN6, none⟩ (enc y6)).setCell ⟨blk, off + jN6, none⟩ (enc x6)).drew) := by rw [hiN6, hjN6, hx6, hy6]; exact S1.out.swapped R (k) ((k - 1)) (by omega) (by omega)
      have ca6 := S1.out.c1 R (by omega) (k) (by omega)
      have cb6 := S1.out.c1 R (by omega) ((k - 1)) (by omega)
      have fa6 := S1.out.f1 R (by omega) (k) (by omega)
      have fb6 := S1.out.f1 R (by omega) ((k - 1)) (by omega)
      obtain ⟨u6, cc6⟩ := S1.out.c2 R (by omega) (k) ((k - 1)) (by omega) (by omega) (enc y6)
      rw [← hjN6, ← hiN6] at cc6
      rw [← hx6, ← hiN6] at ca6
      rw [← hy6, ← hjN6] at cb6
      rw [← hiN6] at fa6
      rw [← hjN6] at fb6
      clear S1 hx6 hy6 hiN6 hjN6
      go_wp2_with fail
      go_big_region_o
      clear ca6 cb6 cc6 fa6 fb6
      generalize ((wr.setCell ⟨blk, off + iN6, none⟩ (enc y6)).setCell ⟨blk, off + jN6, none⟩ (enc x6)).drew = w2 at S2 ⊢
      clear ea6 ec6 ra6 rc6 pa6 pc6 ba6 bc6
      go_wp2
      go_roundg (k - 1 - a)
      case measure => omega
      case rel => exact ⟨k - 1, swp dk k (k - 1), by first | rfl | go_num | (congr 1; omega), by omega, by omega, Nat.le_refl _, by rw [size_swp]; exact hsk, S2, HM2⟩
     ·have hlt2z : ¬ (i : Int) < (k : Int) := by omega
      obtain rfl : i = k := by omega
      go_wp2
      ((try simp only [Exit.inBlock, Exit.then]); first | refine bodyPost_ret (results_none rfl _ _ _) rfl ?_ | refine bodyPost_end (results_none rfl _ _ _) rfl ?_)
      exact ⟨rfl, dk, S1.out, HM.out.2, merge_one_right hS HM1.out hmi hjb HMI.out.bs HMI.out.s1 HX.out.1 HX.out.2 HM.out.1⟩
end Go.Proofs.YtlabfpjlckdmfaaGreat

namespace Go.Proofs.YtlabfpjlckdmfaaGreat
open Go Go.RowKit Go.Proofs
abbrev Tab := Nat → Nat → Int
def stpT (t : Tab) (a b : Nat) (x : Int) : Tab := fun i j => if i = a ∧ j = b then (if t a b < 0 ∨ x < t a b then x else t a b) else t i j
def lgT (S : Tab) : Nat → Tab
 | 0 => fun _ _ => -1
 | k + 1 => stpT (stpT (lgT S k) (S k 0).toNat (S k 1).toNat (S k 2)) (S k 1).toNat (S k 0).toNat (S k 2)
def dgK (t : Tab) (m : Nat) : Tab := fun i j => if i = j ∧ i < m then 0 else t i j
def flS (t : Tab) (y a b : Nat) : Tab := if 0 ≤ t a y ∧ 0 ≤ t y b then stpT t a b (t a y + t y b) else t
def flB (y a : Nat) : Nat → Tab → Tab
 | 0, t => t
 | b + 1, t => flS (flB y a b t) y a b
def flA (n y : Nat) : Nat → Tab → Tab
 | 0, t => t
 | a + 1, t => flB y a n (flA n y a t)
def flO (n : Nat) : Nat → Tab → Tab
 | 0, t => t
 | y + 1, t => flA n y n (flO n y t)
def timT (S : Tab) (l n : Nat) : Tab := flO n n (dgK (lgT S l) n)
def TabIn (n : Nat) (B : Int) (t : Tab) : Prop := (∀ i, i < n → ∀ j, j < n → -1 ≤ t i j ∧ t i j ≤ B) ∧ ∀ i, i < n → t i i = 0
def TabRd (n : Nat) (B : Int) (y : Nat) (t0 t : Tab) : Prop := TabIn n (B + B) t ∧ ∀ i, i < n → t i y = t0 i y ∧ t y i = t0 y i
theorem TabRd.step {n y : Nat} {B : Int} {t0 t : Tab} (h0 : TabIn n B t0) (hB : 0 ≤ B) (hy : y < n) (h : TabRd n B y t0 t) {a b : Nat} (ha : a < n) (hb : b < n) : TabRd n B y t0 (flS t y a b) ∧ (0 ≤ t a y ∧ 0 ≤ t y b → 0 ≤ t a y + t y b ∧ t a y + t y b ≤ B + B) := by
 obtain ⟨⟨h1, h2⟩, h3⟩ := h
 have e1 := (h3 a ha).1
 have e2 := (h3 b hb).2
 have b1 := h0.1 a ha y hy
 have b2 := h0.1 y hy b hb
 have hyy := h2 y hy
 refine ⟨?_, fun _ => by omega⟩
 unfold flS
 by_cases hc : 0 ≤ t a y ∧ 0 ≤ t y b
 case neg => rw [if_neg hc]; exact ⟨⟨h1, h2⟩, h3⟩
 rw [if_pos hc]
 have hz : ∀ i j, ¬ (i = a ∧ j = b) → stpT t a b (t a y + t y b) i j = t i j := fun i j q => if_neg q
 have hs : stpT t a b (t a y + t y b) a b = if t a b < 0 ∨ t a y + t y b < t a b then t a y + t y b else t a b := if_pos ⟨rfl, rfl⟩
 have ha0 := h2 a ha
 refine ⟨⟨fun i hi j hj => ?_, fun i hi => ?_⟩, fun i hi => ⟨?_, ?_⟩⟩
 ·by_cases q : i = a ∧ j = b
  ·rw [q.1, q.2, hs]
   have := h1 a ha b hb
   split <;> omega
  ·rw [hz i j q]; exact h1 i hi j hj
 ·by_cases q : i = a ∧ i = b
  ·rw [q.1, show stpT t a b (t a y + t y b) a a = stpT t a b (t a y + t y b) a b by rw [← q.2, q.1], hs]
   have : t a b = 0 := by rw [← q.2, q.1]; exact ha0
   rw [this, if_neg (by omega)]
  ·rw [hz i i q]; exact h2 i hi
 ·by_cases q : i = a ∧ y = b
  ·obtain ⟨rfl, rfl⟩ := q
   rw [hs, if_neg (by omega)]
   exact e1
  ·rw [hz i y q]; exact (h3 i hi).1
 ·by_cases q : y = a ∧ i = b
  ·obtain ⟨rfl, rfl⟩ := q
   rw [hs, if_neg (by omega)]
   exact e2
  ·rw [hz y i q]; exact (h3 i hi).2
theorem TabRd.rowB {n y : Nat} {B : Int} {t0 t : Tab} (h0 : TabIn n B t0) (hB : 0 ≤ B) (hy : y < n) (h : TabRd n B y t0 t) {a : Nat} (ha : a < n) : ∀ b, b ≤ n → TabRd n B y t0 (flB y a b t)
 | 0, _ => h
 | b + 1, hb => (TabRd.step h0 hB hy (TabRd.rowB h0 hB hy h ha b (by omega)) ha (by omega)).1
theorem TabRd.rowA {n y : Nat} {B : Int} {t0 : Tab} (h0 : TabIn n B t0) (hB : 0 ≤ B) (hy : y < n) : ∀ a, a ≤ n → TabRd n B y t0 (flA n y a t0)
 | 0, _ => ⟨⟨fun i hi j hj => by have := h0.1 i hi j hj; show -1 ≤ t0 i j ∧ t0 i j ≤ B + B; omega, h0.2⟩, fun _ _ => ⟨rfl, rfl⟩⟩
 | a + 1, ha => TabRd.rowB h0 hB hy (TabRd.rowA h0 hB hy a (by omega)) (by omega) n (Nat.le_refl _)
theorem TabIn.flO {n : Nat} {B : Int} {t : Tab} (h : TabIn n B t) (hB : 0 ≤ B) : ∀ y, y ≤ n → TabIn n (B * 2 ^ y) (flO n y t)
 | 0, _ => by
  show TabIn n (B * 2 ^ 0) t
  simpa using h
 | y + 1, hy => by
  have ih := TabIn.flO h hB y (by omega)
  have hB' : 0 ≤ B * 2 ^ y := Int.mul_nonneg hB (Int.pow_nonneg (by omega))
  have := (TabRd.rowA (y := y) ih hB' (by omega) n (Nat.le_refl _)).1
  rw [show B * 2 ^ (y + 1) = B * 2 ^ y + B * 2 ^ y by rw [Int.pow_succ, ← Int.mul_assoc]; omega]
  exact this
structure NetOk (n : Nat) (S : Tab) (l : Nat) : Prop where
 a : ∀ k, k < l → 0 ≤ S k 0 ∧ S k 0 < n
 b : ∀ k, k < l → 0 ≤ S k 1 ∧ S k 1 < n
 ne : ∀ k, k < l → S k 0 ≠ S k 1
 t : ∀ k, k < l → 1 ≤ S k 2 ∧ S k 2 ≤ 200
theorem stpT_in {t : Tab} {a b : Nat} {x : Int} (hx : 1 ≤ x ∧ x ≤ 200) (h : ∀ i j, t i j = -1 ∨ (1 ≤ t i j ∧ t i j ≤ 200)) (i j : Nat) : stpT t a b x i j = -1 ∨ (1 ≤ stpT t a b x i j ∧ stpT t a b x i j ≤ 200) := by
 unfold stpT
 split
 ·split
  ·omega
  ·exact h a b
 ·exact h i j
theorem lgT_in {n l : Nat} {S : Tab} (h : NetOk n S l) : ∀ k, k ≤ l → ∀ i j, lgT S k i j = -1 ∨ (1 ≤ lgT S k i j ∧ lgT S k i j ≤ 200)
 | 0, _, _, _ => Or.inl rfl
 | k + 1, hk, i, j => stpT_in (h.t k (by omega)) (stpT_in (h.t k (by omega)) (lgT_in h k (by omega))) i j
theorem dgK_in {n l : Nat} {S : Tab} (h : NetOk n S l) : TabIn n 200 (dgK (lgT S l) n) := by
 refine ⟨fun i hi j hj => ?_, fun i hi => if_pos ⟨rfl, hi⟩⟩
 unfold dgK
 split
 ·omega
 ·have := lgT_in h l (Nat.le_refl _) i j; omega
theorem dgK_zero (t : Tab) : dgK t 0 = t := by
 funext i j; unfold dgK; rw [if_neg (by omega)]
theorem dgK_succ (t : Tab) (m : Nat) : (fun i j => if i = m ∧ j = m then 0 else dgK t m i j) = dgK t (m + 1) := by
 funext i j
 unfold dgK
 by_cases e : i = m ∧ j = m
 ·rw [if_pos e, if_pos (by omega)]
 ·rw [if_neg e]
  by_cases e2 : i = j ∧ i < m
  ·rw [if_pos e2, if_pos (by omega)]
  ·rw [if_neg e2, if_neg (by omega)]
theorem flO_step {n : Nat} {t : Tab} (h : TabIn n 200 t) (hn : n ≤ 8) {y a b : Nat} (hy : y < n) (ha : a < n) (hb : b < n) :
  (-1 ≤ flB y a b (flA n y a (flO n y t)) a y ∧ flB y a b (flA n y a (flO n y t)) a y ≤ 51200) ∧ -1 ≤ flB y a b (flA n y a (flO n y t)) y b ∧ flB y a b (flA n y a (flO n y t)) y b ≤ 51200 := by
 have h1 := TabIn.flO h (by omega) y (by omega)
 have hp : (2 : Int) ^ y ≤ 2 ^ 7 := by
  have : y ≤ 7 := by omega
  have h7 : ∀ m : Nat, m ≤ 7 → (2 : Int) ^ m ≤ 2 ^ 7 := by decide
  exact h7 y this
 have hB : (0 : Int) ≤ 200 * 2 ^ y := Int.mul_nonneg (by omega) (Int.pow_nonneg (by omega))
 have h2 := TabRd.rowB h1 hB hy (TabRd.rowA h1 hB hy a (by omega)) ha b (by omega)
 have e1 := h2.1.1 a ha y hy
 have e2 := h2.1.1 y hy b hb
 have : (2 : Int) ^ 7 = 128 := by decide
 omega
theorem timT_in {n l : Nat} {S : Tab} (h : NetOk n S l) (hn : n ≤ 8) : TabIn n 51200 (timT S l n) := by
 have h1 := TabIn.flO (dgK_in h) (by omega) n (Nat.le_refl _)
 have h7 : ∀ m : Nat, m ≤ 8 → (200 : Int) * 2 ^ m ≤ 51200 := by decide
 have := h7 n hn
 unfold timT
 exact ⟨fun i hi j hj => by have := h1.1 i hi j hj; omega, h1.2⟩
structure Sq (w : World) (T : TypeId) (lo hi g : Nat) (r : Nat → Nat) (n : Nat) (t : Tab) : Prop where
 gl : lo ≤ g ∧ g < hi ∧ hi ≤ w.heap.size
 rl : ∀ i, i < n → lo ≤ r i ∧ r i < hi ∧ r i ≠ g
 d : ∀ i, i < n → ∀ j, j < n → r i = r j → i = j
 o : ∀ i, i < n → ∃ c, n ≤ c ∧ c ≤ 9223372036854775807 ∧ w.cell? ⟨g, i, none⟩ = some (.slice (some ⟨r i, 0, none⟩) n c)
 b : ∀ i, i < n → ∃ cs, Blk w (r i) T cs ∧ ∀ j, j < n → cs[j]? = some (.int .i64 (t i j))
theorem cell_heap {w w' : World} {g : Nat} (h : w'.heap[g]? = w.heap[g]?) (i : Nat) : w'.cell? ⟨g, i, none⟩ = w.cell? ⟨g, i, none⟩ := by
 simp only [World.cell?, h]
theorem Sq.frame {w w' : World} {T : TypeId} {lo hi g n : Nat} {r : Nat → Nat} {t : Tab} (h : Sq w T lo hi g r n t) (hs : w.heap.size ≤ w'.heap.size) (hb : ∀ b, lo ≤ b → b < hi → w'.heap[b]? = w.heap[b]?) : Sq w' T lo hi g r n t :=
 ⟨⟨h.gl.1, h.gl.2.1, Nat.le_trans h.gl.2.2 hs⟩, h.rl, h.d, fun i hi => (h.o i hi).imp fun c q => ⟨q.1, q.2.1, (cell_heap (hb g h.gl.1 h.gl.2.1) i).trans q.2.2⟩, fun i hi => (h.b i hi).imp fun cs q => ⟨(hb (r i) (h.rl i hi).1 (h.rl i hi).2.1).trans q.1, q.2⟩⟩
theorem Sq.below {w w' : World} {T : TypeId} {lo hi g n : Nat} {r : Nat → Nat} {t : Tab} (h : Sq w T lo hi g r n t) (hb : Below w.heap.size w w') : Sq w' T lo hi g r n t :=
 h.frame hb.size fun b _ h2 => hb.block b (Nat.lt_of_lt_of_le h2 h.gl.2.2)
theorem Sq.alloc {w : World} {T : TypeId} {lo hi g n : Nat} {r : Nat → Nat} {t : Tab} (h : Sq w T lo hi g r n t) (o : Obj) : Sq (w.alloc o) T lo hi g r n t := h.below (bal (Below.refl _ _) o)
theorem Sq.far {w : World} {T : TypeId} {lo hi g n : Nat} {r : Nat → Nat} {t : Tab} (h : Sq w T lo hi g r n t) {k i : Nat} (hk : k < lo ∨ hi ≤ k) (u : Value) : Sq (w.setCell ⟨k, i, none⟩ u) T lo hi g r n t :=
 h.frame (by simp) fun b h1 h2 => Below.heap_setCell w ⟨k, i, none⟩ u b (by show b ≠ k; omega)
theorem Sq.set_ {w : World} {T : TypeId} {lo hi g n : Nat} {r : Nat → Nat} {t : Tab} (h : Sq w T lo hi g r n t) {a b : Nat} (ha : a < n) (x : Int) : Sq (w.setCell ⟨r a, b, none⟩ (.int .i64 x)) T lo hi g r n (fun i j => if i = a ∧ j = b then x else t i j) := by
 refine ⟨⟨h.gl.1, h.gl.2.1, by simpa using h.gl.2.2⟩, h.rl, h.d, fun i hi => ?_, fun i hi => ?_⟩
 ·obtain ⟨c, q1, q2, q3⟩ := h.o i hi
  exact ⟨c, q1, q2, (cell_heap (Below.heap_setCell w ⟨r a, b, none⟩ _ g (by show g ≠ r a; exact Ne.symm (h.rl a ha).2.2)) i).trans q3⟩
 ·obtain ⟨cs, q1, q2⟩ := h.b i hi
  by_cases e : i = a
  ·subst e
   refine ⟨_, q1.set_ b (.int .i64 x), fun j hj => ?_⟩
   rw [Array.getElem?_setIfInBounds]
   by_cases e : b = j
   ·subst e
    have := (Array.getElem?_eq_some_iff.1 (q2 b hj)).1
    rw [if_pos rfl, if_pos this, if_pos ⟨rfl, rfl⟩]
   ·rw [if_neg e, q2 j hj, if_neg (fun q => e q.2.symm)]
  ·refine ⟨cs, q1.far' (i := b) (f := r a) (fun q => e (h.d i hi a ha q)) (.int .i64 x), fun j hj => ?_⟩
   rw [q2 j hj, if_neg (fun q => e q.1)]
theorem Sq.cell {w : World} {T : TypeId} {lo hi g n : Nat} {r : Nat → Nat} {t : Tab} (h : Sq w T lo hi g r n t) {a b : Nat} (ha : a < n) (hb : b < n) : w.cell? ⟨r a, b, none⟩ = some (.int .i64 (t a b)) := by
 obtain ⟨cs, q1, q2⟩ := h.b a ha
 rw [q1.cell b]
 exact q2 b hb
theorem Sq.fr {w : World} {T : TypeId} {lo hi g n : Nat} {r : Nat → Nat} {t : Tab} (h : Sq w T lo hi g r n t) {a : Nat} (ha : a < n) (b : Nat) : w.frozen? ⟨r a, b, none⟩ = false := by
 obtain ⟨cs, q1, q2⟩ := h.b a ha
 exact q1.frozen b
def shW (w : World) (ra b : Nat) (t x : Int) : World := if t < 0 ∨ x < t then w.setCell ⟨ra, b, none⟩ (.int .i64 x) else w
theorem Sq.sh {w : World} {T : TypeId} {lo hi g n : Nat} {r : Nat → Nat} {t : Tab} (h : Sq w T lo hi g r n t) {a b : Nat} (ha : a < n) (x : Int) : Sq (shW w (r a) b (t a b) x) T lo hi g r n (stpT t a b x) := by
 unfold shW
 by_cases e : t a b < 0 ∨ x < t a b
 ·rw [if_pos e]
  have := h.set_ (b := b) ha x
  rw [show (fun i j => if i = a ∧ j = b then x else t i j) = stpT t a b x by funext i j; unfold stpT; rw [if_pos e]] at this
  exact this
 ·rw [if_neg e]
  rw [show stpT t a b x = t by
   funext i j; unfold stpT; rw [if_neg e]
   by_cases q : i = a ∧ j = b
   ·rw [if_pos q, q.1, q.2]
   ·rw [if_neg q]]
  exact h
theorem shW_size (w : World) (ra b : Nat) (t x : Int) : (shW w ra b t x).heap.size = w.heap.size := by unfold shW; split <;> simp
theorem shW_heap (w : World) (ra b k : Nat) (t x : Int) (hk : k ≠ ra) : (shW w ra b t x).heap[k]? = w.heap[k]? := by
 unfold shW; split
 ·exact Below.heap_setCell w ⟨ra, b, none⟩ _ k hk
 ·rfl
theorem Below.sh {B : Nat} {w w' : World} (h : Below B w w') {ra : Nat} (hr : B ≤ ra) (b : Nat) (t x : Int) : Below B w (shW w' ra b t x) := by
 unfold shW; split
 ·exact bset h hr _
 ·exact h
theorem Blk.sh {w : World} {k : Nat} {T : TypeId} {cs : Array Value} (h : Blk w k T cs) {ra : Nat} (hr : k ≠ ra) (b : Nat) (t x : Int) : Blk (shW w ra b t x) k T cs := (shW_heap w ra b k t x hr).trans h
theorem Sq.shFar {w : World} {T : TypeId} {lo hi g n : Nat} {r : Nat → Nat} {t : Tab} (h : Sq w T lo hi g r n t) {ra : Nat} (hr : ra < lo ∨ hi ≤ ra) (b : Nat) (s x : Int) : Sq (shW w ra b s x) T lo hi g r n t :=
 h.frame (by rw [shW_size]; exact Nat.le_refl _) fun k h1 h2 => shW_heap w ra b k s x (by omega)
end Go.Proofs.YtlabfpjlckdmfaaGreat
