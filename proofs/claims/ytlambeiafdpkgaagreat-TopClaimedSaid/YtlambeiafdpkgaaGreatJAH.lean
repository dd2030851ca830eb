/- Texts joined: JAH. -/
import Derived.Test.YtlambeiafdpkgaaGreatProg
import Derived.Test.YtlambeiafdpkgaaGreatJAG
import Derived.Shelf.SlSortCmp.Insertion1
set_option linter.all false
namespace Go.Proofs.YtlambeiafdpkgaaGreat
open Go Go.Shelf Go.RowKit Go.Lib Go.Sort Go.Proofs
set_option maxRecDepth 1000000
variable {α : Type} [Inhabited α]
set_option maxHeartbeats 8000000 in
theorem swapRange_c (enc : α → Value) (g : Nat) (cb : Array Value) (blk off cap a b n : Nat) (d0 d : Array α) (w0 w : World)
  (R : Row1 enc w0 blk off d0) (hs : d0.size = d.size) (S : SW enc w0 blk off d w) (hab : a + n ≤ b) (hb : b + n ≤ d.size) (hsz : d.size < 4611686018427387904) :
  Calls Tryz.prog 202 #[.slice (some ⟨blk, off, none⟩) d.size cap, .int .i64 a, .int .i64 b, .int .i64 n, .func (.func g) #[] cb] w fun e w' => e = .returned (.tuple #[]) ∧
   ∃ d', SW enc w0 blk off d' w' ∧ Moved d d' (swrI a b n) ∧ ∀ lo hi, lo ≤ a → b + n ≤ hi → hi ≤ d.size → PermIn lo hi d d' := by
 have hcl0 := R.hO.cells
 simp only [Value.cells] at hcl0
 have hst := R.hO.store Tryz.prog
 have mixed : Tryz.prog.follows Departure.mixedOrders = true := by kernel_rfl
 have S0 : Aside (SW enc w0 blk off d w) := S
 clear S
 go_enter Tryz.func202, Tryz.ntmps202
 go_wp2
 go_loopg [10] n (fun gx s wr => ∃ (i : Nat) (dk : Array α), s = .int .i64 i ∧ i ≤ n ∧ n - i ≤ gx ∧ dk.size = d.size ∧ Aside (SW enc w0 blk off dk wr) ∧ Aside (Moved d dk (swrI a b i) ∧ ∀ lo hi, lo ≤ a → b + n ≤ hi → hi ≤ d.size → PermIn lo hi d dk))
 case atStart => exact ⟨0, d, by first | rfl | go_num, Nat.zero_le _, by omega, rfl, S0, ⟨⟨rfl, fun k _ => by rw [swrI_zero]⟩, fun lo hi _ _ _ => permIn_refl d lo hi⟩⟩
 case round =>
  clear S0
  obtain ⟨i, dk, rfl, hin, hg1, hsk, S1, HM⟩ := hrel
  by_cases hlt : i < n
  ·have hltz : (i : Int) < (n : Int) := by omega
   have HM2 : Aside (Moved d (swp dk (a + i) (b + i)) (swrI a b (i + 1)) ∧ ∀ lo hi, lo ≤ a → b + n ≤ hi → hi ≤ d.size → PermIn lo hi d (swp dk (a + i) (b + i))) :=
    ⟨swrI_step HM.out.1 hlt hab hb, fun lo hi h1 h2 h3 => permIn_trans _ _ _ lo hi (HM.out.2 lo hi h1 h2 h3) (swp_permIn dk lo hi (a + i) (b + i) (by omega) (by omega) (by omega) (by omega) (by rw [hsk]; exact h3))⟩
   clear HM
   go_wp2_with fail
   obtain ⟨iN1, hiN1⟩ : ∃ q, q = (a + i) := ⟨_, rfl⟩
   obtain ⟨jN1, hjN1⟩ : ∃ q, q = (b + i) := ⟨_, rfl⟩
   have ea1 : (((a : Int) + (i : Int))).toNat = iN1 := by omega
   have pa1 : (0 : Int) ≤ ((a : Int) + (i : Int)) := by omega
   have ba1 : ((a : Int) + (i : Int)) < (d.size : Int) := by omega
   have ra1 : IntKind.i64.wrap (((a : Int) + (i : Int))) = ((a : Int) + (i : Int)) := by rw [IntKind.wrap_i64]; omega
   have ec1 : (((b : Int) + (i : Int))).toNat = jN1 := by omega
   have pc1 : (0 : Int) ≤ ((b : Int) + (i : Int)) := by omega
   have bc1 : ((b : Int) + (i : Int)) < (d.size : Int) := by omega
   have rc1 : IntKind.i64.wrap (((b : Int) + (i : Int))) = ((b : Int) + (i : Int)) := by rw [IntKind.wrap_i64]; omega
   obtain ⟨x1, hx1⟩ : ∃ x, x = dk[(a + i)]! := ⟨_, rfl⟩
   obtain ⟨y1, hy1⟩ : ∃ x, x = dk[(b + i)]! := ⟨_, rfl⟩
   have S2 : Aside (SW enc w0 blk off (swp dk ((a + i)) ((b + i))) ((wr.setCell ⟨blk, off + iN1, none⟩ (enc y1)).setCell ⟨blk, off + jN1, none⟩ (enc x1)).drew) := by rw [hiN1, hjN1, hx1, hy1]; exact S1.out.swapped R ((a + i)) ((b + i)) (by omega) (by omega)
   have ca1 := S1.out.c1 R (by omega) ((a + i)) (by omega)
   have cb1 := S1.out.c1 R (by omega) ((b + i)) (by omega)
   have fa1 := S1.out.f1 R (by omega) ((a + i)) (by omega)
   have fb1 := S1.out.f1 R (by omega) ((b + i)) (by omega)
   obtain ⟨u1, cc1⟩ := S1.out.c2 R (by omega) ((a + i)) ((b + i)) (by omega) (by omega) (enc y1)
   rw [← hjN1, ← hiN1] at cc1
   rw [← hx1, ← hiN1] at ca1
   rw [← hy1, ← hjN1] at cb1
   rw [← hiN1] at fa1
   rw [← hjN1] at fb1
   clear S1 hx1 hy1 hiN1 hjN1
   go_wp2_with fail
   go_big_region_o
   clear ca1 cb1 cc1 fa1 fb1
   generalize ((wr.setCell ⟨blk, off + iN1, none⟩ (enc y1)).setCell ⟨blk, off + jN1, none⟩ (enc x1)).drew = w2 at S2 ⊢
   clear ea1 ec1 ra1 rc1 pa1 pc1 ba1 bc1
   go_wp2
   go_roundg (n - (i + 1))
   case measure => omega
   case rel => exact ⟨i + 1, swp dk (a + i) (b + i), by first | rfl | go_num | (congr 1; omega), by omega, Nat.le_refl _, by rw [size_swp]; exact hsk, S2, HM2⟩
  ·have hltz : ¬ (i : Int) < (n : Int) := by omega
   have e : i = n := by omega
   subst e
   go_wp2
   go_end0
   exact ⟨rfl, dk, S1.out, HM.out.1, HM.out.2⟩
set_option maxHeartbeats 8000000 in
theorem rotate_c (enc : α → Value) (g : Nat) (cb : Array Value) (blk off cap a m b : Nat) (d0 d : Array α) (w0 w : World)
  (R : Row1 enc w0 blk off d0) (hs : d0.size = d.size) (S : SW enc w0 blk off d w) (ham : a < m) (hmb : m < b) (hb : b ≤ d.size) (hsz : d.size < 4611686018427387904) :
  Calls Tryz.prog 193 #[.slice (some ⟨blk, off, none⟩) d.size cap, .int .i64 a, .int .i64 m, .int .i64 b, .func (.func g) #[] cb] w fun e w' => e = .returned (.tuple #[]) ∧
   ∃ d', SW enc w0 blk off d' w' ∧ Moved d d' (rotI a m b) ∧ PermIn a b d d' := by
 have S0 : Aside (SW enc w0 blk off d w) := S
 clear S
 go_enter Tryz.func193, Tryz.ntmps193
 go_wp2
 go_loopg [10, 11] (b - a) (fun gx s t wr => ∃ (i j : Nat) (dk : Array α) (f : Nat → Nat), s = .int .i64 i ∧ t = .int .i64 j ∧ 0 < i ∧ 0 < j ∧ i ≤ m - a ∧ j ≤ b - m ∧ i + j ≤ gx ∧ dk.size = d.size ∧ Aside (SW enc w0 blk off dk wr) ∧
  Aside (Moved d dk f ∧ (∀ k, f (rotI (m - i) m (m + j) k) = rotI a m b k) ∧ PermIn a b d dk))
 case atStart => exact ⟨m - a, b - m, d, id, by first | rfl | go_num | (congr 1; omega), by first | rfl | go_num | (congr 1; omega), by omega, by omega, Nat.le_refl _, Nat.le_refl _, by omega, rfl, S0, Moved.refl d, fun k => by rw [show m - (m - a) = a by omega, show m + (b - m) = b by omega]; rfl, permIn_refl d a b⟩
 case round =>
  clear S0
  obtain ⟨i, j, dk, f, rfl, rfl, hi0, hj0, him, hjb, hg1, hsk, S1, HM⟩ := hrel
  by_cases heq : i = j
  ·subst heq
   have hc := fun w1 (h : SW enc w0 blk off dk w1) => swapRange_c enc g cb blk off cap (m - i) m i d0 dk w0 w1 R (by omega) h (by omega) (by omega) (by omega)
   rw [hsk] at hc
   have HC := hI9 hc
   clear hc
   have e1 : ((m : Int) - (i : Int)) = ((m - i : Nat) : Int) := by omega
   go_wp2_with (go_at_call 202; refine (HC.out _ S1.out).mono ?_; rintro e w2 ⟨rfl, d2, S2, M2, P2⟩)
   go_end0
   refine ⟨rfl, d2, S2, ?_, permIn_trans _ _ _ a b HM.out.2.2 (P2 a b (by omega) (by omega) (by omega))⟩
   refine (moved_swr HM.out.1 (by omega) (by omega) M2).congr fun k => ?_
   rw [rot_eq (by omega), HM.out.2.1]
  ·have hne : ((i : Int) != (j : Int)) = true := by simp; omega
   by_cases hgt : j < i
   ·have hgz : (j : Int) < (i : Int) := by omega
    have hc := fun w1 (h : SW enc w0 blk off dk w1) => swapRange_c enc g cb blk off cap (m - i) m j d0 dk w0 w1 R (by omega) h (by omega) (by omega) (by omega)
    rw [hsk] at hc
    have HC := hI9 hc
    clear hc
    have e1 : ((m : Int) - (i : Int)) = ((m - i : Nat) : Int) := by omega
    go_wp2_with (go_at_call 202; refine (HC.out _ S1.out).mono ?_; rintro e w2 ⟨rfl, d2, S2, M2, P2⟩)
    go_roundg (i - j + j)
    case measure => omega
    case rel =>
     refine ⟨i - j, j, d2, fun k => f (swrI (m - i) m j k), by first | rfl | go_num | (congr 1; omega), rfl, by omega, hj0, by omega, hjb, Nat.le_refl _, M2.1.trans hsk, S2, moved_swr HM.out.1 (by omega) (by omega) M2, fun k => ?_, permIn_trans _ _ _ a b HM.out.2.2 (P2 a b (by omega) (by omega) (by omega))⟩
     show f (swrI _ _ _ _) = _
     rw [rot_gt (by omega) hgt, HM.out.2.1]
   ·have hgz : ¬ (j : Int) < (i : Int) := by omega
    have hc := fun w1 (h : SW enc w0 blk off dk w1) => swapRange_c enc g cb blk off cap (m - i) (m + j - i) i d0 dk w0 w1 R (by omega) h (by omega) (by omega) (by omega)
    rw [hsk] at hc
    have HC := hI9 hc
    clear hc
    have e1 : ((m : Int) - (i : Int)) = ((m - i : Nat) : Int) := by omega
    have e2 : ((m : Int) + (j : Int) - (i : Int)) = ((m + j - i : Nat) : Int) := by omega
    go_wp2_with (go_at_call 202; refine (HC.out _ S1.out).mono ?_; rintro e w2 ⟨rfl, d2, S2, M2, P2⟩)
    go_roundg (i + (j - i))
    case measure => omega
    case rel =>
     refine ⟨i, j - i, d2, fun k => f (swrI (m - i) (m + j - i) i k), rfl, by first | rfl | go_num | (congr 1; omega), hi0, by omega, him, by omega, Nat.le_refl _, M2.1.trans hsk, S2, moved_swr HM.out.1 (by omega) (by omega) M2, fun k => ?_, permIn_trans _ _ _ a b HM.out.2.2 (P2 a b (by omega) (by omega) (by omega))⟩
     show f (swrI _ _ _ _) = _
     rw [rot_lt (by omega) (by omega), HM.out.2.1]
end Go.Proofs.YtlambeiafdpkgaaGreat

namespace Go.Proofs.YtlambeiafdpkgaaGreat
open Go Go.Shelf Go.RowKit Go.Lib Go.Sort Go.Proofs
set_option maxRecDepth 1000000
variable {α : Type} [Inhabited α]
set_option maxHeartbeats 40000000 in
theorem sym1_c (enc : α → Value) (cf : α → α → Int) (g : Nat) (cb : Array Value) (blk off cap N : Nat) (d0 : Array α) (w0 : World) {l2 : α → α → Bool} (hS : SWO l2)
  (eg : ∀ args w, (callFunc g args).run Tryz.prog w = .ok (.enter g args) w) (hcmp : CmpLays1 Tryz.prog g cb enc cf blk off d0.size w0) (R : Row1 enc w0 blk off d0) (hN : d0.size = N) (hsz : N < 4611686018427387904)
  (a m b : Nat) (d : Array α) (w : World) (hs : d.size = N) (S : SW enc w0 blk off d w) (h : MergeIn (ltOf cf) l2 a m b d) (hm : m = a + 1) :
  Calls Tryz.prog 177 #[.slice (some ⟨blk, off, none⟩) N cap, .int .i64 a, .int .i64 m, .int .i64 b, .func (.func g) #[] cb] w fun e w' => e = .returned (.tuple #[]) ∧
   ∃ d', SW enc w0 blk off d' w' ∧ Merged l2 a b d d' := by
 have hcl0 := R.hO.cells
 simp only [Value.cells] at hcl0
 have hst := R.hO.store Tryz.prog
 have mixed : Tryz.prog.follows Departure.mixedOrders = true := by kernel_rfl
 have HC : Aside _ := hcmp
 have S1 : Aside (SW enc w0 blk off d w) := S
 have ham := h.am
 have hmb := h.mb
 have hb : b ≤ N := by have := h.bs; omega
 have HMI := hI9 h
 clear S hcmp h
 ·have hq1 : ((m : Int) - (a : Int) == 1) = true := by simp; first | done | omega
  have hm1 : m ≤ a + 1 := by omega
  have HM1 := hI9 hm
  clear hm
  go_enter Tryz.func177, Tryz.ntmps177
  go_wp2
  go_loopg [10, 11] (b - m) (fun gx s t wr => ∃ i j : Nat, s = .int .i64 i ∧ t = .int .i64 j ∧ m ≤ i ∧ i ≤ j ∧ j ≤ b ∧ j - i ≤ gx ∧ Aside (SW enc w0 blk off d wr) ∧ Aside ((i = m ∨ l2 d[i - 1]! d[a]! = true) ∧ (j = b ∨ l2 d[j]! d[a]! = false)))
  case atStart => exact ⟨m, b, rfl, rfl, Nat.le_refl _, by omega, Nat.le_refl _, Nat.le_refl _, S1, .inl rfl, .inl rfl⟩
  case round =>
   clear S1
   obtain ⟨i, j, rfl, rfl, hmi, hij, hjb, hg1, S1, HX⟩ := hrel
   by_cases hlt : i < j
   ·have hltz : (i : Int) < (j : Int) := by omega
    have ag := HMI.out.ag a ((i + j) / 2) (Nat.le_refl _) (by omega) (by omega) (by omega)
    cases hlv : ltOf cf d[(i + j) / 2]! d[a]! with
    | true =>
     rw [hlv] at ag
     have HX2 : Aside (((i + j) / 2 + 1 = m ∨ l2 d[(i + j) / 2 + 1 - 1]! d[a]! = true) ∧ (j = b ∨ l2 d[j]! d[a]! = false)) := ⟨.inr ag.symm, HX.out.2⟩
     clear HX ag
     obtain ⟨iN1, hiN1⟩ : ∃ q, q = ((i + j) / 2) := ⟨_, rfl⟩
     obtain ⟨jN1, hjN1⟩ : ∃ q, q = a := ⟨_, rfl⟩
     have ea1 : ((((i : Int) + (j : Int)) / 2)).toNat = iN1 := by omega
     have pa1 : (0 : Int) ≤ (((i : Int) + (j : Int)) / 2) := by omega
     have ba1 : (((i : Int) + (j : Int)) / 2) < (N : Int) := by omega
     have ra1 : IntKind.i64.wrap ((((i : Int) + (j : Int)) / 2)) = (((i : Int) + (j : Int)) / 2) := by rw [IntKind.wrap_i64]; omega
     have ec1 : ((a : Int)).toNat = jN1 := by omega
     have pc1 : (0 : Int) ≤ (a : Int) := by omega
     have bc1 : (a : Int) < (N : Int) := by omega
     have rc1 : IntKind.i64.wrap ((a : Int)) = (a : Int) := by rw [IntKind.wrap_i64]; omega
     obtain ⟨x1, hx1⟩ : ∃ x, x = d[((i + j) / 2)]! := ⟨_, rfl⟩
     obtain ⟨y1, hy1⟩ : ∃ x, x = d[a]! := ⟨_, rfl⟩
     have la1 := S1.out.cl R (by omega) (((i + j) / 2)) (by omega)
     have lb1 := S1.out.cl R (by omega) (a) (by omega)
     rw [← hx1, ← hiN1] at la1
     rw [← hy1, ← hjN1] at lb1
     have hc1 := S1.out.cmp HC.out (by omega) x1 y1
     have hd1 : decide (cf x1 y1 < 0) = true := by rw [hx1, hy1]; exact hlv
     have hv1 : cf x1 y1 < 0 := of_decide_eq_true hd1
     clear hx1 hy1 hiN1 hjN1 hlv
     go_wp2_with fail
     go_quiet_grown (first | (go_at_fn g; refine Calls.grown_of (hc1 _ _)))
     have S2 : Aside (SW enc w0 blk off d (grow (wr.drewN nq) osq)) := S1.out.grown nq osq
     clear la1 lb1 hc1 S1
     generalize grow (wr.drewN nq) osq = w2 at S2 ⊢
     clear nq osq
     clear ea1 ec1 ra1 rc1 pa1 pc1 ba1 bc1 hv1
     go_wp2
     go_roundg (j - ((i + j) / 2 + 1))
     case measure => omega
     case rel => exact ⟨(i + j) / 2 + 1, j, by first | rfl | go_num | (congr 1; omega), rfl, by omega, by omega, hjb, Nat.le_refl _, S2, HX2⟩
    | false =>
     rw [hlv] at ag
     have HX2 : Aside ((i = m ∨ l2 d[i - 1]! d[a]! = true) ∧ ((i + j) / 2 = b ∨ l2 d[(i + j) / 2]! d[a]! = false)) := ⟨HX.out.1, .inr ag.symm⟩
     clear HX ag
     obtain ⟨iN2, hiN2⟩ : ∃ q, q = ((i + j) / 2) := ⟨_, rfl⟩
     obtain ⟨jN2, hjN2⟩ : ∃ q, q = a := ⟨_, rfl⟩
     have ea2 : ((((i : Int) + (j : Int)) / 2)).toNat = iN2 := by omega
     have pa2 : (0 : Int) ≤ (((i : Int) + (j : Int)) / 2) := by omega
     have ba2 : (((i : Int) + (j : Int)) / 2) < (N : Int) := by omega
     have ra2 : IntKind.i64.wrap ((((i : Int) + (j : Int)) / 2)) = (((i : Int) + (j : Int)) / 2) := by rw [IntKind.wrap_i64]; omega
     have ec2 : ((a : Int)).toNat = jN2 := by omega
     have pc2 : (0 : Int) ≤ (a : Int) := by omega
     have bc2 : (a : Int) < (N : Int) := by omega
     have rc2 : IntKind.i64.wrap ((a : Int)) = (a : Int) := by rw [IntKind.wrap_i64]; omega
     obtain ⟨x2, hx2⟩ : ∃ x, x = d[((i + j) / 2)]! := ⟨_, rfl⟩
     obtain ⟨y2, hy2⟩ : ∃ x, x = d[a]! := ⟨_, rfl⟩
     have la2 := S1.out.cl R (by omega) (((i + j) / 2)) (by omega)
     have lb2 := S1.out.cl R (by omega) (a) (by omega)
     rw [← hx2, ← hiN2] at la2
     rw [← hy2, ← hjN2] at lb2
     have hc2 := S1.out.cmp HC.out (by omega) x2 y2
     have hd2 : decide (cf x2 y2 < 0) = false := by rw [hx2, hy2]; exact hlv
     have hv2 : ¬ cf x2 y2 < 0 := of_decide_eq_false hd2
     clear hx2 hy2 hiN2 hjN2 hlv
     go_wp2_with fail
     go_quiet_grown (first | (go_at_fn g; refine Calls.grown_of (hc2 _ _)))
     have S2 : Aside (SW enc w0 blk off d (grow (wr.drewN nq) osq)) := S1.out.grown nq osq
     clear la2 lb2 hc2 S1
     generalize grow (wr.drewN nq) osq = w2 at S2 ⊢
     clear nq osq
     clear ea2 ec2 ra2 rc2 pa2 pc2 ba2 bc2 hv2
     go_wp2
     go_roundg ((i + j) / 2 - i)
     case measure => omega
     case rel => exact ⟨i, (i + j) / 2, rfl, by first | rfl | go_num | (congr 1; omega), hmi, by omega, by omega, Nat.le_refl _, S2, HX2⟩
   ·have hltz : ¬ (i : Int) < (j : Int) := by omega
    obtain rfl : i = j := by omega
    go_wp2
    go_loopg [13] (i - a) (fun gx s wr => ∃ (k : Nat) (dk : Array α), s = .int .i64 k ∧ a ≤ k ∧ k + 1 ≤ i ∧ i - k ≤ gx ∧ dk.size = N ∧ Aside (SW enc w0 blk off dk wr) ∧ Aside (Moved d dk (rotI a (a + 1) (k + 1)) ∧ PermIn a b d dk))
    case atStart => exact ⟨a, d, rfl, Nat.le_refl _, by omega, Nat.le_refl _, hs, S1, ⟨rfl, fun k _ => by rw [rotI_self]⟩, permIn_refl d a b⟩
    case round =>
     clear S1
     obtain ⟨k, dk, rfl, hak, hki, hg2, hsk, S1, HM⟩ := hrel
     by_cases hlt2 : k + 1 < i
     ·have hlt2z : (k : Int) < (i : Int) - 1 := by omega
      have HM2 : Aside (Moved d (swp dk k (k + 1)) (rotI a (a + 1) (k + 1 + 1)) ∧ PermIn a b d (swp dk k (k + 1))) :=
       ⟨rot_up HM.out.1 hak hlt2 (by omega), permIn_trans _ _ _ a b HM.out.2 (swp_permIn dk a b k (k + 1) hak (by omega) (by omega) (by omega) (by omega))⟩
      clear HM
      go_wp2_with fail
      obtain ⟨iN3, hiN3⟩ : ∃ q, q = k := ⟨_, rfl⟩
      obtain ⟨jN3, hjN3⟩ : ∃ q, q = (k + 1) := ⟨_, rfl⟩
      have ea3 : ((k : Int)).toNat = iN3 := by omega
      have pa3 : (0 : Int) ≤ (k : Int) := by omega
      have ba3 : (k : Int) < (N : Int) := by omega
      have ra3 : IntKind.i64.wrap ((k : Int)) = (k : Int) := by rw [IntKind.wrap_i64]; omega
      have ec3 : (((k : Int) + 1)).toNat = jN3 := by omega
      have pc3 : (0 : Int) ≤ ((k : Int) + 1) := by omega
      have bc3 : ((k : Int) + 1) < (N : Int) := by omega
      have rc3 : IntKind.i64.wrap (((k : Int) + 1)) = ((k : Int) + 1) := by rw [IntKind.wrap_i64]; omega
      obtain ⟨x3, hx3⟩ : ∃ x, x = dk[k]! := ⟨_, rfl⟩
      obtain ⟨y3, hy3⟩ : ∃ x, x = dk[(k + 1)]! := ⟨_, rfl⟩
      have S2 : Aside (SW enc w0 blk off (swp dk (k) ((k + 1))) ((wr.setCell ⟨blk, off + iN3, none⟩ (enc y3)).setCell ⟨blk, off + jN3, none⟩ (enc x3)).drew) := by rw [hiN3, hjN3, hx3, hy3]; exact S1.out.swapped R (k) ((k + 1)) (by omega) (by omega)
      have ca3 := S1.out.c1 R (by omega) (k) (by omega)
      have cb3 := S1.out.c1 R (by omega) ((k + 1)) (by omega)
      have fa3 := S1.out.f1 R (by omega) (k) (by omega)
      have fb3 := S1.out.f1 R (by omega) ((k + 1)) (by omega)
      obtain ⟨u3, cc3⟩ := S1.out.c2 R (by omega) (k) ((k + 1)) (by omega) (by omega) (enc y3)
      rw [← hjN3, ← hiN3] at cc3
      rw [← hx3, ← hiN3] at ca3
      rw [← hy3, ← hjN3] at cb3
      rw [← hiN3] at fa3
      rw [← hjN3] at fb3
      clear S1 hx3 hy3 hiN3 hjN3
      go_wp2_with fail
      go_big_region_o
      clear ca3 cb3 cc3 fa3 fb3
      generalize ((wr.setCell ⟨blk, off + iN3, none⟩ (enc y3)).setCell ⟨blk, off + jN3, none⟩ (enc x3)).drew = w2 at S2 ⊢
      clear ea3 ec3 ra3 rc3 pa3 pc3 ba3 bc3
      go_wp2
      go_roundg (i - (k + 1))
      case measure => omega
      case rel => exact ⟨k + 1, swp dk k (k + 1), by first | rfl | go_num | (congr 1; omega), by omega, by omega, Nat.le_refl _, by rw [size_swp]; exact hsk, S2, HM2⟩
     ·have hlt2z : ¬ (k : Int) < (i : Int) - 1 := by omega
      obtain rfl : i = k + 1 := by omega
      go_wp2
      ((try simp only [Exit.inBlock, Exit.then]); first | refine bodyPost_ret (results_none rfl _ _ _) rfl ?_ | refine bodyPost_end (results_none rfl _ _ _) rfl ?_)
      exact ⟨rfl, dk, S1.out, HM.out.2, merge_one_left hS HM1.out hmi hjb HMI.out.bs HMI.out.s2 HX.out.1 HX.out.2 (by rw [HM1.out]; exact HM.out.1)⟩
set_option maxHeartbeats 40000000 in
theorem sym2_c (enc : α → Value) (cf : α → α → Int) (g : Nat) (cb : Array Value) (blk off cap N : Nat) (d0 : Array α) (w0 : World) {l2 : α → α → Bool} (hS : SWO l2)
  (eg : ∀ args w, (callFunc g args).run Tryz.prog w = .ok (.enter g args) w) (hcmp : CmpLays1 Tryz.prog g cb enc cf blk off d0.size w0) (R : Row1 enc w0 blk off d0) (hN : d0.size = N) (hsz : N < 4611686018427387904)
  (a m b : Nat) (d : Array α) (w : World) (hs : d.size = N) (S : SW enc w0 blk off d w) (h : MergeIn (ltOf cf) l2 a m b d) (hm : m ≠ a + 1) (hm2 : b = m + 1) :
  Calls Tryz.prog 177 #[.slice (some ⟨blk, off, none⟩) N cap, .int .i64 a, .int .i64 m, .int .i64 b, .func (.func g) #[] cb] w fun e w' => e = .returned (.tuple #[]) ∧
   ∃ d', SW enc w0 blk off d' w' ∧ Merged l2 a b d d' := by
 have hcl0 := R.hO.cells
 simp only [Value.cells] at hcl0
 have hst := R.hO.store Tryz.prog
 have mixed : Tryz.prog.follows Departure.mixedOrders = true := by kernel_rfl
 have HC : Aside _ := hcmp
 have S1 : Aside (SW enc w0 blk off d w) := S
 have ham := h.am
 have hmb := h.mb
 have hb : b ≤ N := by have := h.bs; omega
 have HMI := hI9 h
 clear S hcmp h
 have hq1 : ((m : Int) - (a : Int) == 1) = false := by simp; first | done | omega
 ·have hq2 : ((b : Int) - (m : Int) == 1) = true := by simp; first | done | omega
  have hm1 : a + 1 < m := by omega
  have hm3 : b ≤ m + 1 := by omega
  have HM1 := hI9 hm2
  clear hm hm2
  go_enter Tryz.func177, Tryz.ntmps177
  go_wp2
  go_loopg [14, 15] (m - a) (fun gx s t wr => ∃ i j : Nat, s = .int .i64 i ∧ t = .int .i64 j ∧ a ≤ i ∧ i ≤ j ∧ j ≤ m ∧ j - i ≤ gx ∧ Aside (SW enc w0 blk off d wr) ∧ Aside ((i = a ∨ l2 d[m]! d[i - 1]! = false) ∧ (j = m ∨ l2 d[m]! d[j]! = true)))
  case atStart => exact ⟨a, m, rfl, rfl, Nat.le_refl _, by omega, Nat.le_refl _, Nat.le_refl _, S1, .inl rfl, .inl rfl⟩
  case round =>
   clear S1
   obtain ⟨i, j, rfl, rfl, hmi, hij, hjb, hg1, S1, HX⟩ := hrel
   by_cases hlt : i < j
   ·have hltz : (i : Int) < (j : Int) := by omega
    have ag := HMI.out.ag ((i + j) / 2) m (by omega) (by omega) (Nat.le_refl _) (by omega)
    cases hlv : ltOf cf d[m]! d[(i + j) / 2]! with
    | true =>
     rw [hlv] at ag
     have HX2 : Aside ((i = a ∨ l2 d[m]! d[i - 1]! = false) ∧ ((i + j) / 2 = m ∨ l2 d[m]! d[(i + j) / 2]! = true)) := ⟨HX.out.1, .inr ag.symm⟩
     clear HX ag
     obtain ⟨iN4, hiN4⟩ : ∃ q, q = m := ⟨_, rfl⟩
     obtain ⟨jN4, hjN4⟩ : ∃ q, q = ((i + j) / 2) := ⟨_, rfl⟩
     have ea4 : ((m : Int)).toNat = iN4 := by omega
     have pa4 : (0 : Int) ≤ (m : Int) := by omega
     have ba4 : (m : Int) < (N : Int) := by omega
     have ra4 : IntKind.i64.wrap ((m : Int)) = (m : Int) := by rw [IntKind.wrap_i64]; omega
     have ec4 : ((((i : Int) + (j : Int)) / 2)).toNat = jN4 := by omega
     have pc4 : (0 : Int) ≤ (((i : Int) + (j : Int)) / 2) := by omega
     have bc4 : (((i : Int) + (j : Int)) / 2) < (N : Int) := by omega
     have rc4 : IntKind.i64.wrap ((((i : Int) + (j : Int)) / 2)) = (((i : Int) + (j : Int)) / 2) := by rw [IntKind.wrap_i64]; omega
     obtain ⟨x4, hx4⟩ : ∃ x, x = d[m]! := ⟨_, rfl⟩
     obtain ⟨y4, hy4⟩ : ∃ x, x = d[((i + j) / 2)]! := ⟨_, rfl⟩
     have la4 := S1.out.cl R (by omega) (m) (by omega)
     have lb4 := S1.out.cl R (by omega) (((i + j) / 2)) (by omega)
     rw [← hx4, ← hiN4] at la4
     rw [← hy4, ← hjN4] at lb4
     have hc4 := S1.out.cmp HC.out (by omega) x4 y4
     have hd4 : decide (cf x4 y4 < 0) = true := by rw [hx4, hy4]; exact hlv
     have hv4 : cf x4 y4 < 0 := of_decide_eq_true hd4
     clear hx4 hy4 hiN4 hjN4 hlv
     go_wp2_with fail
     go_quiet_grown (first | (go_at_fn g; refine Calls.grown_of (hc4 _ _)))
     have S2 : Aside (SW enc w0 blk off d (grow (wr.drewN nq) osq)) := S1.out.grown nq osq
     clear la4 lb4 hc4 S1
     generalize grow (wr.drewN nq) osq = w2 at S2 ⊢
     clear nq osq
     clear ea4 ec4 ra4 rc4 pa4 pc4 ba4 bc4 hv4
     go_wp2
     go_roundg ((i + j) / 2 - i)
     case measure => omega
     case rel => exact ⟨i, (i + j) / 2, rfl, by first | rfl | go_num | (congr 1; omega), hmi, by omega, by omega, Nat.le_refl _, S2, HX2⟩
    | false =>
     rw [hlv] at ag
     have HX2 : Aside (((i + j) / 2 + 1 = a ∨ l2 d[m]! d[(i + j) / 2 + 1 - 1]! = false) ∧ (j = m ∨ l2 d[m]! d[j]! = true)) := ⟨.inr ag.symm, HX.out.2⟩
     clear HX ag
     obtain ⟨iN5, hiN5⟩ : ∃ q, q = m := ⟨_, rfl⟩
     obtain ⟨jN5, hjN5⟩ : ∃ q, q = ((i + j) / 2) := ⟨_, rfl⟩
     have ea5 : ((m : Int)).toNat = iN5 := by omega
     have pa5 : (0 : Int) ≤ (m : Int) := by omega
     have ba5 : (m : Int) < (N : Int) := by omega
     have ra5 : IntKind.i64.wrap ((m : Int)) = (m : Int) := by rw [IntKind.wrap_i64]; omega
     have ec5 : ((((i : Int) + (j : Int)) / 2)).toNat = jN5 := by omega
     have pc5 : (0 : Int) ≤ (((i : Int) + (j : Int)) / 2) := by omega
     have bc5 : (((i : Int) + (j : Int)) / 2) < (N : Int) := by omega
     have rc5 : IntKind.i64.wrap ((((i : Int) + (j : Int)) / 2)) = (((i : Int) + (j : Int)) / 2) := by rw [IntKind.wrap_i64]; omega
     obtain ⟨x5, hx5⟩ : ∃ x, x = d[m]! := ⟨_, rfl⟩
     obtain ⟨y5, hy5⟩ : ∃ x, x = d[((i + j) / 2)]! := ⟨_, rfl⟩
     have la5 := S1.out.cl R (by omega) (m) (by omega)
     have lb5 := S1.out.cl R (by omega) (((i + j) / 2)) (by omega)
     rw [← hx5, ← hiN5] at la5
     rw [← hy5, ← hjN5] at lb5
     have hc5 := S1.out.cmp HC.out (by omega) x5 y5
     have hd5 : decide (cf x5 y5 < 0) = false := by rw [hx5, hy5]; exact hlv
     have hv5 : ¬ cf x5 y5 < 0 := of_decide_eq_false hd5
     clear hx5 hy5 hiN5 hjN5 hlv
     go_wp2_with fail
     go_quiet_grown (first | (go_at_fn g; refine Calls.grown_of (hc5 _ _)))
     have S2 : Aside (SW enc w0 blk off d (grow (wr.drewN nq) osq)) := S1.out.grown nq osq
     clear la5 lb5 hc5 S1
     generalize grow (wr.drewN nq) osq = w2 at S2 ⊢
     clear nq osq
     clear ea5 ec5 ra5 rc5 pa5 pc5 ba5 bc5 hv5
     go_wp2
     go_roundg (j - ((i + j) / 2 + 1))
     case measure => omega
     case rel => exact ⟨(i + j) / 2 + 1, j, by first | rfl | go_num | (congr 1; omega), rfl, by omega, by omega, hjb, Nat.le_refl _, S2, HX2⟩
   ·have hltz : ¬ (i : Int) < (j : Int) := by omega
    obtain rfl : i = j := by omega
    go_wp2
    go_loopg [17] (m - a) (fun gx s wr => ∃ (k : Nat) (dk : Array α), s = .int .i64 k ∧ i ≤ k ∧ k ≤ m ∧ k - a ≤ gx ∧ dk.size = N ∧ Aside (SW enc w0 blk off dk wr) ∧ Aside (Moved d dk (rotI k m (m + 1)) ∧ PermIn a b d dk))
    case atStart => exact ⟨m, d, rfl, by omega, Nat.le_refl _, Nat.le_refl _, hs, S1, ⟨rfl, fun k _ => by rw [rotI_none _ _ _ (by omega)]⟩, permIn_refl d a b⟩
    case round =>
     clear S1
     obtain ⟨k, dk, rfl, hak, hki, hg2, hsk, S1, HM⟩ := hrel
     by_cases hlt2 : i < k
     ·have hlt2z : (i : Int) < (k : Int) := by omega
      have HM2 : Aside (Moved d (swp dk k (k - 1)) (rotI (k - 1) m (m + 1)) ∧ PermIn a b d (swp dk k (k - 1))) :=
       ⟨rot_down HM.out.1 (by omega) hki (by omega), permIn_trans _ _ _ a b HM.out.2 (swp_permIn dk a b k (k - 1) (by omega) (by omega) (by omega) (by omega) (by omega))⟩
      clear HM
      go_wp2_with fail
      obtain ⟨iN6, hiN6⟩ : ∃ q, q = k := ⟨_, rfl⟩
      obtain ⟨jN6, hjN6⟩ : ∃ q, q = (k - 1) := ⟨_, rfl⟩
      have ea6 : ((k : Int)).toNat = iN6 := by omega
      have pa6 : (0 : Int) ≤ (k : Int) := by omega
      have ba6 : (k : Int) < (N : Int) := by omega
      have ra6 : IntKind.i64.wrap ((k : Int)) = (k : Int) := by rw [IntKind.wrap_i64]; omega
      have ec6 : (((k : Int) - 1)).toNat = jN6 := by omega
      have pc6 : (0 : Int) ≤ ((k : Int) - 1) := by omega
      have bc6 : ((k : Int) - 1) < (N : Int) := by omega
      have rc6 : IntKind.i64.wrap (((k : Int) - 1)) = ((k : Int) - 1) := by rw [IntKind.wrap_i64]; omega
      obtain ⟨x6, hx6⟩ : ∃ x, x = dk[k]! := ⟨_, rfl⟩
      obtain ⟨y6, hy6⟩ : ∃ x, x = dk[(k - 1)]! := ⟨_, rfl⟩
      have S2 : Aside (SW enc w0 blk off (swp dk (k) ((k - 1))) ((wr.setCell ⟨blk, off + iN6, none⟩ (enc y6)).setCell ⟨blk, off + jN6, none⟩ (enc x6)).drew) := by rw [hiN6, hjN6, hx6, hy6]; exact S1.out.swapped R (k) ((k - 1)) (by omega) (by omega)
      have ca6 := S1.out.c1 R (by omega) (k) (by omega)
      have cb6 := S1.out.c1 R (by omega) ((k - 1)) (by omega)
      have fa6 := S1.out.f1 R (by omega) (k) (by omega)
      have fb6 := S1.out.f1 R (by omega) ((k - 1)) (by omega)
      obtain ⟨u6, cc6⟩ := S1.out.c2 R (by omega) (k) ((k - 1)) (by omega) (by omega) (enc y6)
      rw [← hjN6, ← hiN6] at cc6
      rw [← hx6, ← hiN6] at ca6
      rw [← hy6, ← hjN6] at cb6
      rw [← hiN6] at fa6
      rw [← hjN6] at fb6
      clear S1 hx6 hy6 hiN6 hjN6
      go_wp2_with fail
      go_big_region_o
      clear ca6 cb6 cc6 fa6 fb6
      generalize ((wr.setCell ⟨blk, off + iN6, none⟩ (enc y6)).setCell ⟨blk, off + jN6, none⟩ (enc x6)).drew = w2 at S2 ⊢
      clear ea6 ec6 ra6 rc6 pa6 pc6 ba6 bc6
      go_wp2
      go_roundg (k - 1 - a)
      case measure => omega
      case rel => exact ⟨k - 1, swp dk k (k - 1), by first | rfl | go_num | (congr 1; omega), by omega, by omega, Nat.le_refl _, by rw [size_swp]; exact hsk, S2, HM2⟩
     ·have hlt2z : ¬ (i : Int) < (k : Int) := by omega
      obtain rfl : i = k := by omega
      go_wp2
      ((try simp only [Exit.inBlock, Exit.then]); first | refine bodyPost_ret (results_none rfl _ _ _) rfl ?_ | refine bodyPost_end (results_none rfl _ _ _) rfl ?_)
      exact ⟨rfl, dk, S1.out, HM.out.2, merge_one_right hS HM1.out hmi hjb HMI.out.bs HMI.out.s1 HX.out.1 HX.out.2 HM.out.1⟩
end Go.Proofs.YtlambeiafdpkgaaGreat

namespace Go.Proofs.YtlambeiafdpkgaaGreat
open Go Go.RowKit Go.Proofs Go.ChangeShapes Go.WideShapes Go.ChangeAt Go.Deep
set_option maxRecDepth 100000
set_option maxHeartbeats 4000000
section
variable {H : Type} {enc : TypeId × Value → H} {W : World} {sp : Nat → Bool} {held : Bool}
theorem int_trod {fuel : Nat} {c : Value} {x : DataW H × List MemPlace} (h : DataW.trod enc Tryz.prog W 0 sp held fuel 3 [c] = some x) : ∃ n, c = .int .i64 n ∧ I64 n := by
 obtain ⟨n, e, -, w⟩ := DataW.trod_int Tryz.undInt h
 exact ⟨n, by simpa using e, wf_I64 w⟩
end
end Go.Proofs.YtlambeiafdpkgaaGreat
