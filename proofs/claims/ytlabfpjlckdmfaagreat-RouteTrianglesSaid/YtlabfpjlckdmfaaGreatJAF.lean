/- Texts joined: JAF. -/
import Derived.Test.YtlabfpjlckdmfaaGreatJAE
import Derived.Laws.CopyRow
import Derived.OwnWalk
import Derived.Test.YtlabfpjlckdmfaaGreatJAC
set_option linter.all false
namespace Go.Proofs.YtlabfpjlckdmfaaGreat
open Go Go.Shelf Go.RowKit Go.Lib Go.Sort Go.Proofs
set_option maxRecDepth 1000000
variable {α : Type} [Inhabited α]
set_option maxHeartbeats 40000000 in
theorem sym1_c (enc : α → Value) (cf : α → α → Int) (g : Nat) (cb : Array Value) (blk off cap N : Nat) (d0 : Array α) (w0 : World) {l2 : α → α → Bool} (hS : SWO l2)
  (eg : ∀ args w, (callFunc g args).run Tryz.prog w = .ok (.enter g args) w) (hcmp : CmpLays1 Tryz.prog g cb enc cf blk off d0.size w0) (R : Row1 enc w0 blk off d0) (hN : d0.size = N) (hsz : N < 4611686018427387904)
  (a m b : Nat) (d : Array α) (w : World) (hs : d.size = N) (S : SW enc w0 blk off d w) (h : MergeIn (ltOf cf) l2 a m b d) (hm : m = a + 1) :
  Calls Tryz.prog 133 #[.slice (some ⟨blk, off, none⟩) N cap, .int .i64 a, .int .i64 m, .int .i64 b, .func (.func g) #[] cb] w fun e w' => e = .returned (.tuple #[]) ∧
   ∃ d', SW enc w0 blk off d' w' ∧ Merged l2 a b d d' := by
 have hcl0 := R.hO.cells
 simp only [Value.cells] at hcl0
 have hst := R.hO.store Tryz.prog
 have mixed : Tryz.prog.follows Departure.mixedOrders = true := by kernel_rfl
 have HC : Aside _ := hcmp
 have S1 : Aside (SW enc w0 blk off d w) := S
 have ham := h.am
 have hmb := h.mb
 have hb : b ≤ N := by have := h.bs; omega
 have HMI := hI9 h
 clear S hcmp h
 ·have hq1 : ((m : Int) - (a : Int) == 1) = true := by simp; first | done | omega
  have hm1 : m ≤ a + 1 := by omega
  have HM1 := hI9 hm
  clear hm
  go_enter Tryz.func133, Tryz.ntmps133
  go_wp2
  go_loopg [10, 11] (b - m) (fun gx s t wr => ∃ i j : Nat, s = .int .i64 i ∧ t = .int .i64 j ∧ m ≤ i ∧ i ≤ j ∧ j ≤ b ∧ j - i ≤ gx ∧ Aside (SW enc w0 blk off d wr) ∧ Aside ((i = m ∨ l2 d[i - 1]! d[a]! = true) ∧ (j = b ∨ l2 d[j]! d[a]! = false)))
  case atStart => exact ⟨m, b, rfl, rfl, Nat.le_refl _, by omega, Nat.le_refl _, Nat.le_refl _, S1, .inl rfl, .inl rfl⟩
  case round =>
   clear S1
   obtain ⟨i, j, rfl, rfl, hmi, hij, hjb, hg1, S1, HX⟩ := hrel
   by_cases hlt : i < j
   ·have hltz : (i : Int) < (j : Int) := by omega
    have ag := HMI.out.ag a ((i + j) / 2) (Nat.le_refl _) (by omega) (by omega) (by omega)
    cases hlv : ltOf cf d[(i + j) / 2]! d[a]! with
    | true =>
     rw [hlv] at ag
     have HX2 : Aside (((i + j) / 2 + 1 = m ∨ l2 d[(i + j) / 2 + 1 - 1]! d[a]! = true) ∧ (j = b ∨ l2 d[j]! d[a]! = false)) := ⟨.inr ag.symm, HX.out.2⟩
     clear HX ag
     obtain ⟨iN1, hiN1⟩ : ∃ q, q = ((i + j) / 2) := ⟨_, rfl⟩
     obtain ⟨jN1, hjN1⟩ : ∃ q, q = a := ⟨_, rfl⟩
     have ea1 : ((((i : Int) + (j : Int)) / 2)).toNat = iN1 := by omega
     have pa1 : (0 : Int) ≤ (((i : Int) + (j : Int)) / 2) := by omega
     have ba1 : (((i : Int) + (j : Int)) / 2) < (N : Int) := by omega
     have ra1 : IntKind.i64.wrap ((((i : Int) + (j : Int)) / 2)) = (((i : Int) + (j : Int)) / 2) := by rw [IntKind.wrap_i64]; omega
     have ec1 : ((a : Int)).toNat = jN1 := by omega
     have pc1 : (0 : Int) ≤ (a : Int) := by omega
     have bc1 : (a : Int) < (N : Int) := by omega
     have rc1 : IntKind.i64.wrap ((a : Int)) = (a : Int) := by rw [IntKind.wrap_i64]; omega
     obtain ⟨x1, hx1⟩ : ∃ x, x = d[((i + j) / 2)]! := ⟨_, rfl⟩
     obtain ⟨y1, hy1⟩ : ∃ x, x = d[a]! := ⟨_, rfl⟩
     have la1 := S1.out.cl R (by omega) (((i + j) / 2)) (by omega)
     have lb1 := S1.out.cl R (by omega) (a) (by omega)
     rw [← hx1, ← hiN1] at la1
     rw [← hy1, ← hjN1] at lb1
     have hc1 := S1.out.cmp HC.out (by omega) x1 y1
     have hd1 : decide (cf x1 y1 < 0) = true := by rw [hx1, hy1]; exact hlv
     have hv1 : cf x1 y1 < 0 := of_decide_eq_true hd1
     clear hx1 hy1 hiN1 hjN1 hlv
     go_wp2_with fail
     go_quiet_grown (first | (go_at_fn g; refine Calls.grown_of (hc1 _ _)))
     have S2 : Aside (SW enc w0 blk off d (grow (wr.drewN nq) osq)) := S1.out.grown nq osq
     clear la1 lb1 hc1 S1
     generalize grow (wr.drewN nq) osq = w2 at S2 ⊢
     clear nq osq
     clear ea1 ec1 ra1 rc1 pa1 pc1 ba1 bc1 hv1
     go_wp2
     go_roundg (j - ((i + j) / 2 + 1))
     case measure => omega
     case rel => exact ⟨(i + j) / 2 + 1, j, by first | rfl | go_num | (congr 1; omega), rfl, by omega, by omega, hjb, Nat.le_refl _, S2, HX2⟩
    | false =>
     rw [hlv] at ag
     have HX2 : Aside ((i = m ∨ l2 d[i - 1]! d[a]! = true) ∧ ((i + j) / 2 = b ∨ l2 d[(i + j) / 2]! d[a]! = false)) := ⟨HX.out.1, .inr ag.symm⟩
     clear HX ag
     obtain ⟨iN2, hiN2⟩ : ∃ q, q = ((i + j) / 2) := ⟨_, rfl⟩
     obtain ⟨jN2, hjN2⟩ : ∃ q, q = a := ⟨_, rfl⟩
     have ea2 : ((((i : Int) + (j : Int)) / 2)).toNat = iN2 := by omega
     have pa2 : (0 : Int) ≤ (((i : Int) + (j : Int)) / 2) := by omega
     have ba2 : (((i : Int) + (j : Int)) / 2) < (N : Int) := by omega
     have ra2 : IntKind.i64.wrap ((((i : Int) + (j : Int)) / 2)) = (((i : Int) + (j : Int)) / 2) := by rw [IntKind.wrap_i64]; omega
     have ec2 : ((a : Int)).toNat = jN2 := by omega
     have pc2 : (0 : Int) ≤ (a : Int) := by omega
     have bc2 : (a : Int) < (N : Int) := by omega
     have rc2 : IntKind.i64.wrap ((a : Int)) = (a : Int) := by rw [IntKind.wrap_i64]; omega
     obtain ⟨x2, hx2⟩ : ∃ x, x = d[((i + j) / 2)]! := ⟨_, rfl⟩
     obtain ⟨y2, hy2⟩ : ∃ x, x = d[a]! := ⟨_, rfl⟩
     have la2 := S1.out.cl R (by omega) (((i + j) / 2)) (by omega)
     have lb2 := S1.out.cl R (by omega) (a) (by omega)
     rw [← hx2, ← hiN2] at la2
     rw [← hy2, ← hjN2] at lb2
     have hc2 := S1.out.cmp HC.out (by omega) x2 y2
     have hd2 : decide (cf x2 y2 < 0) = false := by rw [hx2, hy2]; exact hlv
     have hv2 : ¬ cf x2 y2 < 0 := of_decide_eq_false hd2
     clear hx2 hy2 hiN2 hjN2 hlv
     go_wp2_with fail
     go_quiet_grown (first | (go_at_fn g; refine Calls.grown_of (hc2 _ _)))
     have S2 : Aside (SW enc w0 blk off d (grow (wr.drewN nq) osq)) := S1.out.grown nq osq
     clear la2 lb2 hc2 S1
     generalize grow (wr.drewN nq) osq = w2 at S2 ⊢
     clear nq osq
     clear ea2 ec2 ra2 rc2 pa2 pc2 ba2 bc2 hv2
     go_wp2
     go_roundg ((i + j) / 2 - i)
     case measure => omega
     case rel => exact ⟨i, (i + j) / 2, rfl, by first | rfl | go_num | (congr 1; omega), hmi, by omega, by omega, Nat.le_refl _, S2, HX2⟩
   ·have hltz : ¬ (i : Int) < (j : Int) := by omega
    obtain rfl : i = j := by omega
    go_wp2
    go_loopg [13] (i - a) (fun gx s wr => ∃ (k : Nat) (dk : Array α), s = .int .i64 k ∧ a ≤ k ∧ k + 1 ≤ i ∧ i - k ≤ gx ∧ dk.size = N ∧ Aside (SW enc w0 blk off dk wr) ∧ Aside (Moved d dk (rotI a (a + 1) (k + 1)) ∧ PermIn a b d dk))
    case atStart => exact ⟨a, d, rfl, Nat.le_refl _, by omega, Nat.le_refl _, hs, S1, ⟨rfl, fun k _ => by rw [rotI_self]⟩, permIn_refl d a b⟩
    case round =>
     clear S1
     obtain ⟨k, dk, rfl, hak, hki, hg2, hsk, S1, HM⟩ := hrel
     by_cases hlt2 : k + 1 < i
     ·have hlt2z : (k : Int) < (i : Int) - 1 := by omega
      have HM2 : Aside (Moved d (swp dk k (k + 1)) (rotI a (a + 1) (k + 1 + 1)) ∧ PermIn a b d (swp dk k (k + 1))) :=
       ⟨rot_up HM.out.1 hak hlt2 (by omega), permIn_trans _ _ _ a b HM.out.2 (swp_permIn dk a b k (k + 1) hak (by omega) (by omega) (by omega) (by omega))⟩
      clear HM
      go_wp2_with fail
      obtain ⟨iN3, hiN3⟩ : ∃ q, q = k := ⟨_, rfl⟩
      obtain ⟨jN3, hjN3⟩ : ∃ q, q = (k + 1) := ⟨_, rfl⟩
      have ea3 : ((k : Int)).toNat = iN3 := by omega
      have pa3 : (0 : Int) ≤ (k : Int) := by omega
      have ba3 : (k : Int) < (N : Int) := by omega
      have ra3 : IntKind.i64.wrap ((k : Int)) = (k : Int) := by rw [IntKind.wrap_i64]; omega
      have ec3 : (((k : Int) + 1)).toNat = jN3 := by omega
      have pc3 : (0 : Int) ≤ ((k : Int) + 1) := by omega
      have bc3 : ((k : Int) + 1) < (N : Int) := by omega
      have rc3 : IntKind.i64.wrap (((k : Int) + 1)) = ((k : Int) + 1) := by rw [IntKind.wrap_i64]; omega
      obtain ⟨x3, hx3⟩ : ∃ x, x = dk[k]! := ⟨_, rfl⟩
      obtain ⟨y3, hy3⟩ : ∃ x, x = dk[(k + 1)]! := ⟨_, rfl⟩
      have S2 : Aside (SW enc w0 blk off (swp dk (k) ((k + 1))) ((wr.setCell ⟨blk, off + iN3, none⟩ (enc y3)).setCell ⟨blk, off + jN3, none⟩ (enc x3)).drew) := by rw [hiN3, hjN3, hx3, hy3]; exact S1.out.swapped R (k) ((k + 1)) (by omega) (by omega)
      have ca3 := S1.out.c1 R (by omega) (k) (by omega)
      have cb3 := S1.out.c1 R (by omega) ((k + 1)) (by omega)
      have fa3 := S1.out.f1 R (by omega) (k) (by omega)
      have fb3 := S1.out.f1 R (by omega) ((k + 1)) (by omega)
      obtain ⟨u3, cc3⟩ := S1.out.c2 R (by omega) (k) ((k + 1)) (by omega) (by omega) (enc y3)
      rw [← hjN3, ← hiN3] at cc3
      rw [← hx3, ← hiN3] at ca3
      rw [← hy3, ← hjN3] at cb3
      rw [← hiN3] at fa3
      rw [← hjN3] at fb3
      clear S1 hx3 hy3 hiN3 hjN3
      go_wp2_with fail
      go_big_region_o
      clear ca3 cb3 cc3 fa3 fb3
      generalize ((wr.setCell ⟨blk, off + iN3, none⟩ (enc y3)).setCell ⟨blk, off + jN3, none⟩ (enc x3)).drew = w2 at S2 ⊢
      clear ea3 ec3 ra3 rc3 pa3 pc3 ba3 bc3
      go_wp2
      go_roundg (i - (k + 1))
      case measure => omega
      case rel => exact ⟨k + 1, swp dk k (k + 1), by first | rfl | go_num | (congr 1; omega), by omega, by omega, Nat.le_refl _, by rw [size_swp]; exact hsk, S2, HM2⟩
     ·have hlt2z : ¬ (k : Int) < (i : Int) - 1 := by omega
      obtain rfl : i = k + 1 := by omega
      go_wp2
      ((try simp only [Exit.inBlock, Exit.then]); first | refine bodyPost_ret (results_none rfl _ _ _) rfl ?_ | refine bodyPost_end (results_none rfl _ _ _) rfl ?_)
      exact ⟨rfl, dk, S1.out, HM.out.2, merge_one_left hS HM1.out hmi hjb HMI.out.bs HMI.out.s2 HX.out.1 HX.out.2 (by rw [HM1.out]; exact HM.out.1)⟩
set_option maxHeartbeats 40000000 in
theorem sym2_c (enc : α → Value) (cf : α → α → Int) (g : Nat) (cb : Array Value) (blk off cap N : Nat) (d0 : Array α) (w0 : World) {l2 : α → α → Bool} (hS : SWO l2)
  (eg : ∀ args w, (callFunc g args).run Tryz.prog w = .ok (.enter g args) w) (hcmp : CmpLays1 Tryz.prog g cb enc cf blk off d0.size w0) (R : Row1 enc w0 blk off d0) (hN : d0.size = N) (hsz : N < 4611686018427387904)
  (a m b : Nat) (d : Array α) (w : World) (hs : d.size = N) (S : SW enc w0 blk off d w) (h : MergeIn (ltOf cf) l2 a m b d) (hm : m ≠ a + 1) (hm2 : b = m + 1) :
  Calls Tryz.prog 133 #[.slice (some ⟨blk, off, none⟩) N cap, .int .i64 a, .int .i64 m, .int .i64 b, .func (.func g) #[] cb] w fun e w' => e = .returned (.tuple #[]) ∧
   ∃ d', SW enc w0 blk off d' w' ∧ Merged l2 a b d d' := by
 have hcl0 := R.hO.cells
 simp only [Value.cells] at hcl0
 have hst := R.hO.store Tryz.prog
 have mixed : Tryz.prog.follows Departure.mixedOrders = true := by kernel_rfl
 have HC : Aside _ := hcmp
 have S1 : Aside (SW enc w0 blk off d w) := S
 have ham := h.am
 have hmb := h.mb
 have hb : b ≤ N := by have := h.bs; omega
 have HMI := hI9 h
 clear S hcmp h
 have hq1 : ((m : Int) - (a : Int) == 1) = false := by simp; first | done | omega
 ·have hq2 : ((b : Int) - (m : Int) == 1) = true := by simp; first | done | omega
  have hm1 : a + 1 < m := by omega
  have hm3 : b ≤ m + 1 := by omega
  have HM1 := hI9 hm2
  clear hm hm2
  go_enter Tryz.func133, Tryz.ntmps133
  go_wp2
  go_loopg [14, 15] (m - a) (fun gx s t wr => ∃ i j : Nat, s = .int .i64 i ∧ t = .int .i64 j ∧ a ≤ i ∧ i ≤ j ∧ j ≤ m ∧ j - i ≤ gx ∧ Aside (SW enc w0 blk off d wr) ∧ Aside ((i = a ∨ l2 d[m]! d[i - 1]! = false) ∧ (j = m ∨ l2 d[m]! d[j]! = true)))
  case atStart => exact ⟨a, m, rfl, rfl, Nat.le_refl _, by omega, Nat.le_refl _, Nat.le_refl _, S1, .inl rfl, .inl rfl⟩
  case round =>
   clear S1
   obtain ⟨i, j, rfl, rfl, hmi, hij, hjb, hg1, S1, HX⟩ := hrel
   by_cases hlt : i < j
   ·have hltz : (i : Int) < (j : Int) := by omega
    have ag := HMI.out.ag ((i + j) / 2) m (by omega) (by omega) (Nat.le_refl _) (by omega)
    cases hlv : ltOf cf d[m]! d[(i + j) / 2]! with
    | true =>
     rw [hlv] at ag
     have HX2 : Aside ((i = a ∨ l2 d[m]! d[i - 1]! = false) ∧ ((i + j) / 2 = m ∨ l2 d[m]! d[(i + j) / 2]! = true)) := ⟨HX.out.1, .inr ag.symm⟩
     clear HX ag
     obtain ⟨iN4, hiN4⟩ : ∃ q, q = m := ⟨_, rfl⟩
     obtain ⟨jN4, hjN4⟩ : ∃ q, q = ((i + j) / 2) := ⟨_, rfl⟩
     have ea4 : ((m : Int)).toNat = iN4 := by omega
     have pa4 : (0 : Int) ≤ (m : Int) := by omega
     have ba4 : (m : Int) < (N : Int) := by omega
     have ra4 : IntKind.i64.wrap ((m : Int)) = (m : Int) := by rw [IntKind.wrap_i64]; omega
     have ec4 : ((((i : Int) + (j : Int)) / 2)).toNat = jN4 := by omega
     have pc4 : (0 : Int) ≤ (((i : Int) + (j : Int)) / 2) := by omega
     have bc4 : (((i : Int) + (j : Int)) / 2) < (N : Int) := by omega
     have rc4 : IntKind.i64.wrap ((((i : Int) + (j : Int)) / 2)) = (((i : Int) + (j : Int)) / 2) := by rw [IntKind.wrap_i64]; omega
     obtain ⟨x4, hx4⟩ : ∃ x, x = d[m]! := ⟨_, rfl⟩
     obtain ⟨y4, hy4⟩ : ∃ x, x = d[((i + j) / 2)]! := ⟨_, rfl⟩
     have la4 := S1.out.cl R (by omega) (m) (by omega)
     have lb4 := S1.out.cl R (by omega) (((i + j) / 2)) (by omega)
     rw [← hx4, ← hiN4] at la4
     rw [← hy4, ← hjN4] at lb4
     have hc4 := S1.out.cmp HC.out (by omega) x4 y4
     have hd4 : decide (cf x4 y4 < 0) = true := by rw [hx4, hy4]; exact hlv
     have hv4 : cf x4 y4 < 0 := of_decide_eq_true hd4
     clear hx4 hy4 hiN4 hjN4 hlv
     go_wp2_with fail
     go_quiet_grown (first | (go_at_fn g; refine Calls.grown_of (hc4 _ _)))
     have S2 : Aside (SW enc w0 blk off d (grow (wr.drewN nq) osq)) := S1.out.grown nq osq
     clear la4 lb4 hc4 S1
     generalize grow (wr.drewN nq) osq = w2 at S2 ⊢
     clear nq osq
     clear ea4 ec4 ra4 rc4 pa4 pc4 ba4 bc4 hv4
     go_wp2
     go_roundg ((i + j) / 2 - i)
     case measure => omega
     case rel => exact ⟨i, (i + j) / 2, rfl, by first | rfl | go_num | (congr 1; omega), hmi, by omega, by omega, Nat.le_refl _, S2, HX2⟩
    | false =>
     rw [hlv] at ag
     have HX2 : Aside (((i + j) / 2 + 1 = a ∨ l2 d[m]! d[(i + j) / 2 + 1 - 1]! = false) ∧ (j = m ∨ l2 d[m]! d[j]! = true)) := ⟨.inr ag.symm, HX.out.2⟩
     clear HX ag
     obtain ⟨iN5, hiN5⟩ : ∃ q, q = m := ⟨_, rfl⟩
     obtain ⟨jN5, hjN5⟩ : ∃ q, q = ((i + j) / 2) := ⟨_, rfl⟩
     have ea5 : ((m : Int)).toNat = iN5 := by omega
     have pa5 : (0 : Int) ≤ (m : Int) := by omega
     have ba5 : (m : Int) < (N : Int) := by omega
     have ra5 : IntKind.i64.wrap ((m : Int)) = (m : Int) := by rw [IntKind.wrap_i64]; omega
     have ec5 : ((((i : Int) + (j : Int)) / 2)).toNat = jN5 := by omega
     have pc5 : (0 : Int) ≤ (((i : Int) + (j : Int)) / 2) := by omega
     have bc5 : (((i : Int) + (j : Int)) / 2) < (N : Int) := by omega
     have rc5 : IntKind.i64.wrap ((((i : Int) + (j : Int)) / 2)) = (((i : Int) + (j : Int)) / 2) := by rw [IntKind.wrap_i64]; omega
     obtain ⟨x5, hx5⟩ : ∃ x, x = d[m]! := ⟨_, rfl⟩
     obtain ⟨y5, hy5⟩ : ∃ x, x = d[((i + j) / 2)]! := ⟨_, rfl⟩
     have la5 := S1.out.cl R (by omega) (m) (by omega)
     have lb5 := S1.out.cl R (by omega) (((i + j) / 2)) (by omega)
     rw [← hx5, ← hiN5] at la5
     rw [← hy5, ← hjN5] at lb5
     have hc5 := S1.out.cmp HC.out (by omega) x5 y5
     have hd5 : decide (cf x5 y5 < 0) = false := by rw [hx5, hy5]; exact hlv
     have hv5 : ¬ cf x5 y5 < 0 := of_decide_eq_false hd5
     clear hx5 hy5 hiN5 hjN5 hlv
     go_wp2_with fail
     go_quiet_grown (first | (go_at_fn g; refine Calls.grown_of (hc5 _ _)))
     have S2 : Aside (SW enc w0 blk off d (grow (wr.drewN nq) osq)) := S1.out.grown nq osq
     clear la5 lb5 hc5 S1
     generalize grow (wr.drewN nq) osq = w2 at S2 ⊢
     clear nq osq
     clear ea5 ec5 ra5 rc5 pa5 pc5 ba5 bc5 hv5
     go_wp2
     go_roundg (j - ((i + j) / 2 + 1))
     case measure => omega
     case rel => exact ⟨(i + j) / 2 + 1, j, by first | rfl | go_num | (congr 1; omega), rfl, by omega, by omega, hjb, Nat.le_refl _, S2, HX2⟩
   ·have hltz : ¬ (i : Int) < (j : Int) := by omega
    obtain rfl : i = j := by omega
    go_wp2
    go_loopg [17] (m - a) (fun gx s wr => ∃ (k : Nat) (dk : Array α), s = .int .i64 k ∧ i ≤ k ∧ k ≤ m ∧ k - a ≤ gx ∧ dk.size = N ∧ Aside (SW enc w0 blk off dk wr) ∧ Aside (Moved d dk (rotI k m (m + 1)) ∧ PermIn a b d dk))
    case atStart => exact ⟨m, d, rfl, by omega, Nat.le_refl _, Nat.le_refl _, hs, S1, ⟨rfl, fun k _ => by rw [rotI_none _ _ _ (by omega)]⟩, permIn_refl d a b⟩
    case round =>
     clear S1
     obtain ⟨k, dk, rfl, hak, hki, hg2, hsk, S1, HM⟩ := hrel
     by_cases hlt2 : i < k
     ·have hlt2z : (i : Int) < (k : Int) := by omega
      have HM2 : Aside (Moved d (swp dk k (k - 1)) (rotI (k - 1) m (m + 1)) ∧ PermIn a b d (swp dk k (k - 1))) :=
       ⟨rot_down HM.out.1 (by omega) hki (by omega), permIn_trans _ _ _ a b HM.out.2 (swp_permIn dk a b k (k - 1) (by omega) (by omega) (by omega) (by omega) (by omega))⟩
      clear HM
      go_wp2_with fail
      obtain ⟨iN6, hiN6⟩ : ∃ q, q = k := ⟨_, rfl⟩
      obtain ⟨jN6, hjN6⟩ : ∃ q, q = (k - 1) := ⟨_, rfl⟩
      have ea6 : ((k : Int)).toNat = iN6 := by omega
      have pa6 : (0 : Int) ≤ (k : Int) := by omega
      have ba6 : (k : Int) < (N : Int) := by omega
      have ra6 : IntKind.i64.wrap ((k : Int)) = (k : Int) := by rw [IntKind.wrap_i64]; omega
      have ec6 : (((k : Int) - 1)).toNat = jN6 := by omega
      have pc6 : (0 : Int) ≤ ((k : Int) - 1) := by omega
      have bc6 : ((k : Int) - 1) < (N : Int) := by omega
      have rc6 : IntKind.i64.wrap (((k : Int) - 1)) = ((k : Int) - 1) := by rw [IntKind.wrap_i64]; omega
      obtain ⟨x6, hx6⟩ : ∃ x, x = dk[k]! := ⟨_, rfl⟩
      obtain ⟨y6, hy6⟩ : ∃ x, x = dk[(k - 1)]! := ⟨_, rfl⟩
      have S2 : Aside (SW enc w0 blk off (swp dk (k) ((k - 1))) ((wr.setCell ⟨blk, off + iN6, none⟩ (enc y6)).setCell ⟨blk, off + jN6, none⟩ (enc x6)).drew) := by rw [hiN6, hjN6, hx6, hy6]; exact S1.out.swapped R (k) ((k - 1)) (by omega) (by omega)
      have ca6 := S1.out.c1 R (by omega) (k) (by omega)
      have cb6 := S1.out.c1 R (by omega) ((k - 1)) (by omega)
      have fa6 := S1.out.f1 R (by omega) (k) (by omega)
      have fb6 := S1.out.f1 R (by omega) ((k - 1)) (by omega)
      obtain ⟨u6, cc6⟩ := S1.out.c2 R (by omega) (k) ((k - 1)) (by omega) (by omega) (enc y6)
      rw [← hjN6, ← hiN6] at cc6
      rw [← hx6, ← hiN6] at ca6
      rw [← hy6, ← hjN6] at cb6
      rw [← hiN6] at fa6
      rw [← hjN6] at fb6
      clear S1 hx6 hy6 hiN6 hjN6
      go_wp2_with fail
      go_big_region_o
      clear ca6 cb6 cc6 fa6 fb6
      generalize ((wr.setCell ⟨blk, off + iN6, none⟩ (enc y6)).setCell ⟨blk, off + jN6, none⟩ (enc x6)).drew = w2 at S2 ⊢
      clear ea6 ec6 ra6 rc6 pa6 pc6 ba6 bc6
      go_wp2
      go_roundg (k - 1 - a)
      case measure => omega
      case rel => exact ⟨k - 1, swp dk k (k - 1), by first | rfl | go_num | (congr 1; omega), by omega, by omega, Nat.le_refl _, by rw [size_swp]; exact hsk, S2, HM2⟩
     ·have hlt2z : ¬ (i : Int) < (k : Int) := by omega
      obtain rfl : i = k := by omega
      go_wp2
      ((try simp only [Exit.inBlock, Exit.then]); first | refine bodyPost_ret (results_none rfl _ _ _) rfl ?_ | refine bodyPost_end (results_none rfl _ _ _) rfl ?_)
      exact ⟨rfl, dk, S1.out, HM.out.2, merge_one_right hS HM1.out hmi hjb HMI.out.bs HMI.out.s1 HX.out.1 HX.out.2 HM.out.1⟩
end Go.Proofs.YtlabfpjlckdmfaaGreat

namespace Go.Proofs.YtlabfpjlckdmfaaGreat
open Go Go.RowKit Go.Proofs
set_option maxRecDepth 100000
set_option maxHeartbeats 8000000
theorem mul64_c (n : Nat) (h1 : 1 ≤ n) (h2 : n ≤ 8) (w : World) :
  Calls Tryz.prog 113 #[.int .u64 1, .int .u64 n] w fun e w' => e = .returned (.tuple #[.int .u64 0, .int .u64 n]) ∧ w' = w := by
 obtain rfl | rfl | rfl | rfl | rfl | rfl | rfl | rfl : n = 1 ∨ n = 2 ∨ n = 3 ∨ n = 4 ∨ n = 5 ∨ n = 6 ∨ n = 7 ∨ n = 8 := by omega
 all_goals
  go_enter Tryz.func113, Tryz.ntmps113
  go_wp2_with (fail)
  go_ret2
  exact ⟨by kernel_rfl, rfl⟩
theorem mul_c (n : Nat) (h1 : 1 ≤ n) (h2 : n ≤ 8) (w : World) :
  Calls Tryz.prog 100 #[.int .u64 1, .int .u64 n] w fun e w' => e = .returned (.tuple #[.int .u64 0, .int .u64 n]) ∧ w' = w := by
 go_enter Tryz.func100, Tryz.ntmps100
 go_wp2_with (first | (refine (mul64_c n h1 h2 _).mono ?_; rintro e w1 ⟨rfl, rfl⟩))
 go_ret2
 exact ⟨rfl, rfl⟩
theorem Tryz.inUx : Tryz.prog.underlying 35 = some (.slice 3) := by kernel_rfl
theorem Tryz.inIx : (Tryz.prog.info? 3).map (fun i => (i.zero, i.size, i.bytes)) = some (some (.int .i64 0), 1, 8) := by kernel_rfl
theorem blk_of_owns {w : World} {base g n : Nat} {T : TypeId} {xs : List Value} (h : w.ownsRow base T 1 (.slice (some ⟨g, 0, none⟩) n n) n xs) : Blk w g T xs.toArray := by
 obtain ⟨h0, h⟩ := h
 rcases h with ⟨h, -⟩ | ⟨g', cap, cur, hv, h1, h2, h3, h4, h5, h6⟩
 ·cases h
 ·simp only [Value.slice.injEq, Option.some.injEq, Addr.mk.injEq, and_true] at hv
  obtain ⟨rfl, -, rfl⟩ := hv
  have : cur = xs.toArray := by
   rw [← h6, List.take_of_length_le (by simp [h5])]
  rw [← this]
  exact h2
theorem wpl_mki {ops : Array Oper} {rest : List Oper} {o : Oper} {a : Act} {w : World} {Q : Exit → Act → World → Prop} (hgd : o.guard = none) (l c : Operand) (n : Nat) (hn : n ≤ 1000) (ho : o.op = .makeSlice 35 l c) (hl : a.eval l = .int .i64 n) (hc : a.eval c = .int .i64 n)
  (h : ∀ w', Below w.heap.size w w' → w.heap.size < w'.heap.size → Blk w' w.heap.size 3 (List.replicate n (Value.int .i64 0)).toArray → wpList Tryz.prog ops Q rest (a.put o.dst (.slice (some ⟨w.heap.size, 0, none⟩) n n)) w') : wpList Tryz.prog ops Q (o :: rest) a w := by
 have hI := Tryz.inIx
 cases hi : Tryz.prog.info? 3 with
 | none => rw [hi] at hI; cases hI
 | some i =>
  rw [hi] at hI
  simp only [Option.map_some, Option.some.injEq, Prod.mk.injEq] at hI
  obtain ⟨i1, i2, i3⟩ := hI
  refine wpList_make_full w hgd l c 35 ho w.heap.size 3 i (.int .i64 0) 1 Tryz.inUx hi i1 i2 .i64 .i64 n n n hl hc rfl rfl (by rw [i3]; omega) (by unfold maxLen; omega) (Nat.le_refl _) (fun w' h1 h2 => ?_)
  have e : (madeCells (Value.cells (.int .i64 0)) (n * 1)).toList = List.replicate n (Value.int .i64 0) := by
   unfold madeCells
   rw [Array.toList_map, Array.toList_range, Nat.mul_one]
   apply List.ext_getElem?
   intro t
   rw [List.getElem?_map, List.getElem?_replicate]
   by_cases ht : t < n
   ·rw [List.getElem?_range ht, if_pos ht]
    show some ((#[Value.int .i64 0])[t % 1]!) = _
    rw [Nat.mod_one]
    rfl
   ·rw [if_neg ht, List.getElem?_eq_none (by simpa using ht)]; rfl
  rw [e] at h1
  have hb := blk_of_owns h1
  exact h w' (below_of_none h2) hb.lt hb
theorem wpl_copyI {ops : Array Oper} {rest : List Oper} {o : Oper} {a : Act} {w : World} {Q : Exit → Act → World → Prop} (hgd : o.guard = none) (d s : Operand) (ho : o.op = .call { callee := .builtin .copy, args := #[d, s], argTypes := #[35, 35] })
  (g off dl dc : Nat) (hd : a.eval d = .slice (some ⟨g, off, none⟩) dl dc) (p q0 sl sc : Nat) (hs : a.eval s = .slice (some ⟨p, q0, none⟩) sl sc) (cur : Array Value) (hg : Blk w g 3 cur)
  (cs : List Value) (hn : cs.length = Nat.min sl dl) (hsrc : ∀ j v, cs[j]? = some v → w.cell? ⟨p, q0 + j, none⟩ = some v) (hfit : off + cs.length ≤ cur.size) (h1 : ∀ v ∈ cs, v.oneCell' = true)
  (h : ∀ w', Hid (w' = w.setRow g (cur.toList.take off ++ cs ++ cur.toList.drop (off + cs.length)).toArray) → wpList Tryz.prog ops Q rest (a.put o.dst (goInt cs.length)) w') : wpList Tryz.prog ops Q (o :: rest) a w := by
 refine wpList_plain hgd fun K' hK' => ?_
 have hI := Tryz.inIx
 have hrun := run_copy_row (P := Tryz.prog) w 35 35 o.type 3 g off dl dc ⟨p, q0, none⟩ sl sc cur 3 cs Tryz.inUx (by
  cases hi : Tryz.prog.info? 3 with
  | none => rw [hi] at hI; cases hI
  | some i => rw [hi] at hI; simp only [Option.map_some, Option.some.injEq, Prod.mk.injEq] at hI ⊢; exact hI.2.1) hg hn (fun j v q => by
   have hadd : (⟨p, q0, none⟩ : Addr).add j = ⟨p, q0 + j, none⟩ := by unfold Addr.add; split <;> simp_all
   rw [hadd]; exact hsrc j v q) hfit h1
 unfold Oper.wp
 simp [execOp, ho, resolve, invoke, builtin, hd, hs, hrun, Result.andThen]
 refine hK' _ _ (h _ ?_)
 rw [List.append_assoc]
 exact hI9 rfl
def repL (n k : Nat) (x : Int) : List Value := List.replicate k (.int .i64 x) ++ List.replicate (n - k) (.int .i64 0)
theorem repL_copy (n k m : Nat) (x : Int) (h : k + m ≤ n) (hk : m ≤ k) : (repL n k x).take k ++ List.replicate m (.int .i64 x) ++ (repL n k x).drop (k + m) = repL n (k + m) x := by
 unfold repL
 rw [List.take_left' (by simp), List.append_assoc]
 rw [← List.replicate_append_replicate, List.append_assoc]
 congr 2
 rw [List.drop_append, List.length_replicate, show k + m - k = m by omega, List.drop_eq_nil_of_le (by simp), List.nil_append, List.drop_replicate]
 congr 1
 omega
theorem mulZ_c (n : Nat) (h1 : 1 ≤ n) (h2 : n ≤ 8) (w : World) :
  Calls Tryz.prog 100 #[.int .u64 1, .int .u64 (n : Int)] w fun e w' => e = .returned (.tuple #[.int .u64 0, .int .u64 (n : Int)]) ∧ w' = w := mul_c n h1 h2 w
theorem below_row' {B g : Nat} {w0 w : World} (hb : Below B w0 w) (hBg : B ≤ g) (cs : Array Value) : Below B w0 (w.setRow g cs) :=
 ⟨hb.os, hb.tape, hb.output, by rw [show (w.setRow g cs).heap.size = w.heap.size by simp [World.setRow]]; exact hb.size, fun k hk => (setRow_other w g k cs (by omega)).trans (hb.block k hk)⟩
theorem yields_mv {P : Program} {ops : Array Oper} {o : Oper} {a : Act} (hg : o.guard = none) (x : Operand) (ho : o.op = .move x) (v : Value) (hx : a.eval x = v) : Yields P ops o v a := by
 refine .inl ⟨by simp [Region.wanted, hg], fun w => ?_⟩
 simp only [execOp, ho, hx]
 simp [Sem.run_pure]
def rpR (g n m : Nat) : Nat → Value → World → Prop
 | 0, v, _ => v = .int .i64 (m : Int)
 | 1, v, _ => v = .slice (some ⟨g, 0, none⟩) n n
 | 2, v, _ => v = .int .i64 (m : Int)
 | 3, v, _ => v = .slice (some ⟨g, m, none⟩) (n - m) (n - m)
 | 4, v, _ => v = .slice (some ⟨g, 0, none⟩) n n
 | 5, v, _ => v = .int .i64 (m : Int)
 | 6, v, _ => v = .slice (some ⟨g, 0, none⟩) m n
 | _, _, _ => True
theorem rpR_below {g n m : Nat} (k : Nat) (v : Value) (w w' : World) (hb : Below w.heap.size w w') (h : rpR g n m k v w) : rpR g n m k v w' := by
 unfold rpR at *
 split at h <;> first | exact h
theorem rep_c (x : Int) (n gx : Nat) (w : World) (h : Blk w gx 3 #[.int .i64 x]) (h1 : 1 ≤ n) (h2 : n ≤ 8) :
  Calls Tryz.prog 82 #[.slice (some ⟨gx, 0, none⟩) 1 1, .int .i64 n] w fun e w' => ∃ g, e = .returned (.slice (some ⟨g, 0, none⟩) n n) ∧ Below w.heap.size w w' ∧ w.heap.size ≤ g ∧ Blk w' g 3 (List.replicate n (.int .i64 x)).toArray := by
 have hn0 : ¬ (n : Int) < 0 := by omega
 have hw1 : IntKind.u64.wrap (n : Int) = (n : Int) := by unfold IntKind.wrap; simp [IntKind.bits, IntKind.signed]; omega
 have HX := hI9 h
 clear h
 go_enter Tryz.func82, Tryz.ntmps82
 go_wp2_with (first | (refine (mulZ_c n h1 h2 _).mono ?_; rintro e w_0 ⟨rfl, rfl⟩) | (refine wpl_mki rfl _ _ n (by omega) rfl rfl rfl ?_))
 intro w2 hb2 hs2 hB2
 have HX2 := hI9 (HX.out.below hb2)
 have HB := hI9 hb2
 obtain ⟨gN, hg⟩ : ∃ q, w_0.heap.size = q := ⟨_, rfl⟩
 have HLE := hI9 hg
 rw [hg] at hs2 hB2 ⊢
 have HBN := hI9 (show Below gN w_0 w2 from hg ▸ hb2)
 have hgx : gx < gN := by have := HX.out.lt; omega
 have HG := hI9 (show Blk w2 gN 3 (repL n 0 x).toArray from by simpa [repL] using hB2)
 clear hB2 hb2 hw1 hn0 hg
 go_wp2_with (refine wpl_copyI rfl _ _ rfl gN 0 n n rfl gx 0 1 1 rfl _ HG.out [.int .i64 x] ?c1 ?c2 ?c3 ?c4 ?_)
 case c1 => show 1 = min 1 n; omega
 case c2 =>
  intro j v hj
  rcases j with _ | j
  ·simp only [List.getElem?_cons_zero, Option.some.injEq] at hj
   subst hj
   exact HX2.out.cell 0
  ·simp at hj
 case c3 => simp [repL]; omega
 case c4 =>
  intro v hv
  rw [List.mem_singleton.1 hv]; rfl
 intro w3 hw3
 have HG1 := hI9 (show Blk w3 gN 3 (repL n 1 x).toArray from by
  rw [hw3.out]
  refine Eq.trans (setRow_heap w2 gN _ _ _ _ HG.out) ?_
  congr 2
  simp [repL])
 have HB1 := hI9 (show Below gN w_0 w3 from by rw [hw3.out]; exact below_row' HBN.out (Nat.le_refl _) _)
 clear hw3
 clear HX2 HB HBN HG hs2
 go_wp2_with (fail)
 go_loopg [8] n (fun gy v wr => ∃ k : Nat, v = .int .i64 k ∧ 1 ≤ k ∧ k ≤ n ∧ n - k ≤ gy ∧ Hid (Below gN w_0 wr) ∧ Hid (Blk wr gN 3 (repL n k x).toArray))
 case atStart => exact ⟨1, rfl, by omega, by omega, by omega, HB1, HG1⟩
 case round =>
  clear HB1 HG1
  obtain ⟨k, rfl, k1, k2, hgy, HB1, HG1⟩ := hrel
  by_cases hlt : k < n
  ·have hltz : (k : Int) < (n : Int) := by omega
   go_wp2_with (fail)
   refine wp_region_specL 7 [0] (rpR gN n k) (fun i => false) (by kernel_rfl) (by kernel_rfl) (by decide) rpR_below ?hop1 ?htail1
   case hop1 =>
    simp only [List.take_succ_cons, List.take_zero, allOps]
    refine ⟨?_, ?_, ?_, ?_, ?_, ?_, ?_, trivial⟩
    all_goals intro u A w1 hA hb hd
    all_goals simp only [putAll, dstOf, gtA, gtS, gtZ, Option.bind_some, Option.bind, Act.put, List.setIfInBounds_toArray, List.set_cons_succ, List.set_cons_zero] at hA; subst hA
    all_goals have HB1 := hI9 hb
    ·clear hb hd
     refine OpOk.late rfl ?_
     (refine ⟨_, yields_mv rfl _ rfl _ rfl, ?_⟩; rfl)
    ·refine OpOk.now rfl ?_
     clear hb hd
     go_wp2
     exact ⟨_, rfl, Below.refl _ _, rfl, fun h => absurd h (by decide)⟩
    ·refine OpOk.now rfl ?_
     clear hb hd
     go_wp2
     exact ⟨_, rfl, Below.refl _ _, rfl, fun h => absurd h (by decide)⟩
    ·refine OpOk.now rfl ?_
     have d1 : u 1 = _ := hd 1 (by omega) (by kernel_rfl)
     have d2 : u 2 = _ := hd 2 (by omega) (by kernel_rfl)
     clear hb hd
     rw [d1, d2]
     clear d1 d2
     go_wp2
     exact ⟨_, rfl, Below.refl _ _, rfl, fun h => absurd h (by decide)⟩
    ·refine OpOk.now rfl ?_
     clear hb hd
     go_wp2
     exact ⟨_, rfl, Below.refl _ _, rfl, fun h => absurd h (by decide)⟩
    ·refine OpOk.now rfl ?_
     clear hb hd
     go_wp2
     exact ⟨_, rfl, Below.refl _ _, rfl, fun h => absurd h (by decide)⟩
    ·refine OpOk.now rfl ?_
     have d4 : u 4 = _ := hd 4 (by omega) (by kernel_rfl)
     have d5 : u 5 = _ := hd 5 (by omega) (by kernel_rfl)
     clear hb hd
     rw [d4, d5]
     clear d4 d5
     go_wp2
     exact ⟨_, rfl, Below.refl _ _, rfl, fun h => absurd h (by decide)⟩
   case htail1 =>
    intro u A w1 hA hb hd hf
    simp only [putAll, dstOf, gtA, gtS, gtZ, Option.bind_some, Option.bind, Act.put, List.setIfInBounds_toArray, List.set_cons_succ, List.set_cons_zero] at hA; subst hA
    have e0 : u 0 = _ := hd 0 (by omega)
    have e1 : u 1 = _ := hd 1 (by omega)
    have e2 : u 2 = _ := hd 2 (by omega)
    have e3 : u 3 = _ := hd 3 (by omega)
    have e4 : u 4 = _ := hd 4 (by omega)
    have e5 : u 5 = _ := hd 5 (by omega)
    have e6 : u 6 = _ := hd 6 (by omega)
    first | rw [e0, e1, e2, e3, e4, e5, e6] | simp only [e0, e1, e2, e3, e4, e5, e6]
    clear e0 e1 e2 e3 e4 e5 e6
    clear hd hf
    have HG2 := hI9 (HG1.out.below hb)
    have hlt2 := HG1.out.lt
    have HB2 := hI9 (HB1.out.trans (hb.mono (Nat.le_of_lt hlt2)))
    clear HB1 HG1
    refine wpl_copyI rfl _ _ rfl gN k (n - k) (n - k) rfl gN 0 k n rfl _ HG2.out (List.replicate (min k (n - k)) (.int .i64 x)) ?d1 ?d2 ?d3 ?d4 ?_
    case d1 => simp
    case d2 =>
     intro j v hj
     rw [List.getElem?_replicate] at hj
     split at hj
     ·rename_i hjk
      simp only [Option.some.injEq] at hj
      subst hj
      have := HG2.out.cell (0 + j)
      rw [this]
      simp only [repL, List.getElem?_toArray, Nat.zero_add]
      rw [List.getElem?_append_left (by simp; omega), List.getElem?_replicate, if_pos (by omega)]
     ·cases hj
    case d3 => simp [repL]; omega
    case d4 =>
     intro v hv
     rw [List.eq_of_mem_replicate hv]; rfl
    intro w3 hw3
    have HG3 := hI9 (show Blk w3 gN 3 (repL n (k + min k (n - k)) x).toArray from by
     rw [hw3.out]
     refine Eq.trans (setRow_heap w1 gN _ _ _ _ HG2.out) ?_
     rw [List.length_replicate, repL_copy n k _ x (by omega) (by omega)])
    have HB3 := hI9 (show Below gN w_0 w3 from by rw [hw3.out]; exact below_row' HB2.out (Nat.le_refl _) _)
    clear hw3 HG2 HB2
    have hk3 : (k : Int) + ((List.replicate (min k (n - k)) (Value.int .i64 x)).length : Int) = ((k + min k (n - k) : Nat) : Int) := by simp
    go_wp2_with (fail)
    dsimp only [NoPanic]
    go_wp2_with (fail)
    go_roundg (n - (k + min k (n - k)))
    case measure => omega
    case rel => exact ⟨k + min k (n - k), by first | rfl | go_num | (congr 1; simp; omega), by omega, by omega, Nat.le_refl _, HB3, HG3⟩
  ·obtain rfl : n = k := by omega
   go_wp2_with (fail)
   go_ret
   exact ⟨_, rfl, by rw [HLE.out]; exact HB1.out, by rw [HLE.out]; exact Nat.le_refl _, by simpa [repL] using HG1.out⟩
end Go.Proofs.YtlabfpjlckdmfaaGreat
