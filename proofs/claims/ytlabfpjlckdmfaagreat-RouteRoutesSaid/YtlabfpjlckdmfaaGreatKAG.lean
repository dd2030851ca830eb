/- Texts joined: KAG. -/
import Derived.Test.YtlabfpjlckdmfaaGreatKZM
import Derived.Test.YtlabfpjlckdmfaaGreatKAD
import Derived.Test.YtlabfpjlckdmfaaGreatKAE
import Derived.Lib.OwnBridge
import Derived.RangeFuncNested
import Derived.RangeFuncRecord
import Derived.RangeFuncLeaves
set_option linter.all false
namespace Go.Proofs.YtlabfpjlckdmfaaGreat
open Go Go.Shelf Go.RowKit Go.Lib Go.Sort Go.Proofs
set_option maxRecDepth 1000000
variable {α : Type} [Inhabited α]
set_option maxHeartbeats 40000000 in
theorem insertion_c (enc : α → Value) (cf : α → α → Int) (g : Nat) (cb : Array Value) (blk off cap N : Nat) (d0 : Array α) (w0 : World)
  (eg : ∀ args w, (callFunc g args).run Tryz.prog w = .ok (.enter g args) w) (hcmp : CmpLays1 Tryz.prog g cb enc cf blk off d0.size w0) (R : Row1 enc w0 blk off d0) (hN : d0.size = N) (hsz : N < 4611686018427387904)
  (a b : Nat) (d : Array α) (w : World) (hs : d.size = N) (S : SW enc w0 blk off d w) (hab : a ≤ b) (hb : b ≤ N) :
  Calls Tryz.prog 132 #[.slice (some ⟨blk, off, none⟩) N cap, .int .i64 a, .int .i64 b, .func (.func g) #[] cb] w fun e w' => e = .returned (.tuple #[]) ∧
   SW enc w0 blk off (insertionSort (ltOf cf) d a b) w' := by
 have hcl0 := R.hO.cells
 simp only [Value.cells] at hcl0
 have hst := R.hO.store Tryz.prog
 have mixed : Tryz.prog.follows Departure.mixedOrders = true := by kernel_rfl
 have HC : Aside _ := hcmp
 have S1 : Aside (SW enc w0 blk off d w) := S
 clear S hcmp
 go_enter Tryz.func132, Tryz.ntmps132
 go_wp2
 go_loopg [8] (b - a) (fun gx vi wr => ∃ (i : Nat) (dk : Array α), vi = .int .i64 i ∧ a < i ∧ i ≤ b + 1 ∧ b + 1 - i ≤ gx + 1 ∧ dk.size = N ∧ Aside (SW enc w0 blk off dk wr) ∧ Hid (insOuter (ltOf cf) a b i dk = insOuter (ltOf cf) a b (a + 1) d))
 case atStart => exact ⟨a + 1, d, by first | rfl | go_num, by omega, by omega, by omega, hs, S1, rfl⟩
 case round =>
  clear S1
  obtain ⟨i, dk, rfl, hai, hib, hg1, hsk, S1, HO⟩ := hrel
  by_cases hlt : i < b
  ·have hltz : (i : Int) < (b : Int) := by omega
   go_wp2
   go_loopg [9] i (fun gy vj wr2 => ∃ (j : Nat) (dj : Array α), vj = .int .i64 j ∧ a ≤ j ∧ j ≤ i ∧ j ≤ gy ∧ dj.size = N ∧ Aside (SW enc w0 blk off dj wr2) ∧ Hid (insInner (ltOf cf) a j dj = insInner (ltOf cf) a i dk))
   case atStart => exact ⟨i, dk, rfl, by omega, Nat.le_refl _, Nat.le_refl _, hsk, S1, rfl⟩
   case round =>
    clear S1
    obtain ⟨j, dj, rfl, haj, hji, hg2, hsj, S1, HI⟩ := hrel
    have out : (j ≤ a ∨ (ltOf cf) dj[j]! dj[j - 1]! = false) → Hid (insOuter (ltOf cf) a b (i + 1) dj = insOuter (ltOf cf) a b (a + 1) d) := fun hq => by
     show _ = _
     rw [← HO.out, insOuter_go _ _ _ _ _ hlt, ← HI.out, insInner_stop _ _ _ _ hq]
    have OUT : Aside _ := out
    clear out
    by_cases hja : a < j
    ·obtain ⟨jp, rfl⟩ : ∃ q, j = q + 1 := ⟨j - 1, by omega⟩
     have hjaz : (a : Int) < (jp : Int) + 1 := by omega
     have hjz : decide ((jp : Int) + 1 > (a : Int)) = true := decide_eq_true hjaz
     cases hlv : ltOf cf dj[jp + 1]! dj[jp]! with
     | true =>
      have HI2 : Aside (Hid (insInner (ltOf cf) a jp (swp dj (jp + 1) jp) = insInner (ltOf cf) a i dk)) := (show Hid _ from by rw [← HI.out, insInner_go (ltOf cf) a (jp + 1) dj hja hlv]; exact rfl)
      clear HI OUT
      obtain ⟨iN1, hiN1⟩ : ∃ q, q = (jp + 1) := ⟨_, rfl⟩
      obtain ⟨jN1, hjN1⟩ : ∃ q, q = jp := ⟨_, rfl⟩
      have ea1 : (((jp : Int) + 1)).toNat = iN1 := by omega
      have pa1 : (0 : Int) ≤ ((jp : Int) + 1) := by omega
      have ba1 : ((jp : Int) + 1) < (N : Int) := by omega
      have ra1 : IntKind.i64.wrap (((jp : Int) + 1)) = ((jp : Int) + 1) := by rw [IntKind.wrap_i64]; omega
      have ec1 : ((jp : Int)).toNat = jN1 := by omega
      have pc1 : (0 : Int) ≤ (jp : Int) := by omega
      have bc1 : (jp : Int) < (N : Int) := by omega
      have rc1 : IntKind.i64.wrap ((jp : Int)) = (jp : Int) := by rw [IntKind.wrap_i64]; omega
      obtain ⟨x1, hx1⟩ : ∃ x, x = dj[(jp + 1)]! := ⟨_, rfl⟩
      obtain ⟨y1, hy1⟩ : ∃ x, x = dj[jp]! := ⟨_, rfl⟩
      have la1 := S1.out.cl R (by omega) ((jp + 1)) (by omega)
      have lb1 := S1.out.cl R (by omega) (jp) (by omega)
      rw [← hx1, ← hiN1] at la1
      rw [← hy1, ← hjN1] at lb1
      have hc1 := S1.out.cmp HC.out (by omega) x1 y1
      have hd1 : decide (cf x1 y1 < 0) = true := by rw [hx1, hy1]; exact hlv
      have hv1 : cf x1 y1 < 0 := of_decide_eq_true hd1
      clear hx1 hy1 hiN1 hjN1 hlv
      go_wp2_with fail
      go_quiet_grown (first | (go_at_fn g; refine Calls.grown_of (hc1 _ _)))
      have S2 : Aside (SW enc w0 blk off dj (grow (wr.drewN nq) osq)) := S1.out.grown nq osq
      clear la1 lb1 hc1 S1
      generalize grow (wr.drewN nq) osq = w2 at S2 ⊢
      clear nq osq
      clear ea1 ec1 ra1 rc1 pa1 pc1 ba1 bc1 hv1
      go_wp2_with fail
      obtain ⟨iN2, hiN2⟩ : ∃ q, q = (jp + 1) := ⟨_, rfl⟩
      obtain ⟨jN2, hjN2⟩ : ∃ q, q = jp := ⟨_, rfl⟩
      have ea2 : (((jp : Int) + 1)).toNat = iN2 := by omega
      have pa2 : (0 : Int) ≤ ((jp : Int) + 1) := by omega
      have ba2 : ((jp : Int) + 1) < (N : Int) := by omega
      have ra2 : IntKind.i64.wrap (((jp : Int) + 1)) = ((jp : Int) + 1) := by rw [IntKind.wrap_i64]; omega
      have ec2 : ((jp : Int)).toNat = jN2 := by omega
      have pc2 : (0 : Int) ≤ (jp : Int) := by omega
      have bc2 : (jp : Int) < (N : Int) := by omega
      have rc2 : IntKind.i64.wrap ((jp : Int)) = (jp : Int) := by rw [IntKind.wrap_i64]; omega
      obtain ⟨x2, hx2⟩ : ∃ x, x = dj[(jp + 1)]! := ⟨_, rfl⟩
      obtain ⟨y2, hy2⟩ : ∃ x, x = dj[jp]! := ⟨_, rfl⟩
      have S3 : Aside (SW enc w0 blk off (swp dj ((jp + 1)) (jp)) ((w2.setCell ⟨blk, off + iN2, none⟩ (enc y2)).setCell ⟨blk, off + jN2, none⟩ (enc x2)).drew) := by rw [hiN2, hjN2, hx2, hy2]; exact S2.out.swapped R ((jp + 1)) (jp) (by omega) (by omega)
      have ca2 := S2.out.c1 R (by omega) ((jp + 1)) (by omega)
      have cb2 := S2.out.c1 R (by omega) (jp) (by omega)
      have fa2 := S2.out.f1 R (by omega) ((jp + 1)) (by omega)
      have fb2 := S2.out.f1 R (by omega) (jp) (by omega)
      obtain ⟨u2, cc2⟩ := S2.out.c2 R (by omega) ((jp + 1)) (jp) (by omega) (by omega) (enc y2)
      first | rw [← hjN2, ← hiN2] at cc2 | rw [← hiN2, ← hjN2] at cc2
      rw [← hx2, ← hiN2] at ca2
      rw [← hy2, ← hjN2] at cb2
      rw [← hiN2] at fa2
      rw [← hjN2] at fb2
      clear S2 hx2 hy2 hiN2 hjN2
      go_wp2_with fail
      go_big_region_o
      clear ca2 cb2 cc2 fa2 fb2
      generalize ((w2.setCell ⟨blk, off + iN2, none⟩ (enc y2)).setCell ⟨blk, off + jN2, none⟩ (enc x2)).drew = w3 at S3 ⊢
      clear ea2 ec2 ra2 rc2 pa2 pc2 ba2 bc2
      go_wp2
      go_roundg jp
      case measure => omega
      case rel => exact ⟨jp, swp dj (jp + 1) jp, by first | rfl | go_num | (congr 1; omega), by omega, by omega, Nat.le_refl _, by rw [size_swp]; exact hsj, S3, HI2.out⟩
     | false =>
      have OUT2 := hI9 (OUT.out (.inr hlv))
      clear OUT HI
      obtain ⟨iN3, hiN3⟩ : ∃ q, q = (jp + 1) := ⟨_, rfl⟩
      obtain ⟨jN3, hjN3⟩ : ∃ q, q = jp := ⟨_, rfl⟩
      have ea3 : (((jp : Int) + 1)).toNat = iN3 := by omega
      have pa3 : (0 : Int) ≤ ((jp : Int) + 1) := by omega
      have ba3 : ((jp : Int) + 1) < (N : Int) := by omega
      have ra3 : IntKind.i64.wrap (((jp : Int) + 1)) = ((jp : Int) + 1) := by rw [IntKind.wrap_i64]; omega
      have ec3 : ((jp : Int)).toNat = jN3 := by omega
      have pc3 : (0 : Int) ≤ (jp : Int) := by omega
      have bc3 : (jp : Int) < (N : Int) := by omega
      have rc3 : IntKind.i64.wrap ((jp : Int)) = (jp : Int) := by rw [IntKind.wrap_i64]; omega
      obtain ⟨x3, hx3⟩ : ∃ x, x = dj[(jp + 1)]! := ⟨_, rfl⟩
      obtain ⟨y3, hy3⟩ : ∃ x, x = dj[jp]! := ⟨_, rfl⟩
      have la3 := S1.out.cl R (by omega) ((jp + 1)) (by omega)
      have lb3 := S1.out.cl R (by omega) (jp) (by omega)
      rw [← hx3, ← hiN3] at la3
      rw [← hy3, ← hjN3] at lb3
      have hc3 := S1.out.cmp HC.out (by omega) x3 y3
      have hd3 : decide (cf x3 y3 < 0) = false := by rw [hx3, hy3]; exact hlv
      have hv3 : ¬ cf x3 y3 < 0 := of_decide_eq_false hd3
      clear hx3 hy3 hiN3 hjN3 hlv
      go_wp2_with fail
      go_quiet_grown (first | (go_at_fn g; refine Calls.grown_of (hc3 _ _)))
      have S2 : Aside (SW enc w0 blk off dj (grow (wr.drewN nq) osq)) := S1.out.grown nq osq
      clear la3 lb3 hc3 S1
      generalize grow (wr.drewN nq) osq = w2 at S2 ⊢
      clear nq osq
      clear ea3 ec3 ra3 rc3 pa3 pc3 ba3 bc3 hv3
      go_wp2
      go_roundg (b - (i + 1))
      case measure => omega
      case rel => exact ⟨i + 1, dj, by first | rfl | go_num | (congr 1; omega), by omega, by omega, by omega, hsj, S2, OUT2.out⟩
    ·have hjaz : decide ((j : Int) > (a : Int)) = false := decide_eq_false (by omega)
     have hjaz2 : ¬ (a : Int) < (j : Int) := by omega
     have OUT2 := hI9 (OUT.out (.inl (by omega)))
     clear OUT HI
     go_wp2_with fail
     go_big_region_o
     have S2 : Aside (SW enc w0 blk off dj wr.drew) := S1.out.drew
     clear S1
     generalize wr.drew = w2 at S2 ⊢
     go_wp2
     go_roundg (b - (i + 1))
     case measure => omega
     case rel => exact ⟨i + 1, dj, by first | rfl | go_num | (congr 1; omega), by omega, by omega, by omega, hsj, S2, OUT2.out⟩
  ·have hltz : ¬ (i : Int) < (b : Int) := by omega
   go_wp2
   go_end0
   exact ⟨rfl, by unfold insertionSort; rw [← HO.out, insOuter_stop _ _ _ _ _ hlt]; exact S1.out⟩
theorem rank_in {a b : Nat} {d d' : Array α} {p : α → Prop} (hb : b ≤ d.size) (h : PermIn a b d d') (hp : ∀ i, a ≤ i → i < b → p d[i]!) (i : Nat) (h1 : a ≤ i) (h2 : i < b) : p d'[i]! := permIn_all d d' a b p hb h hp i h1 h2
theorem two_blocks {key rank : α → Int} {M N : Nat} {d : Array α} (hM : 0 < M) (hMN : M < N) (hs : d.size = N) (hr : ∀ i j, i < j → j < N → rank d[i]! < rank d[j]!) :
  MergeIn (fun x y => decide (key x < key y)) (keyLt key rank) 0 M N (insertionSort (fun x y => decide (key x < key y)) (insertionSort (fun x y => decide (key x < key y)) d 0 M) M N) ∧
   PermIn 0 N d (insertionSort (fun x y => decide (key x < key y)) (insertionSort (fun x y => decide (key x < key y)) d 0 M) M N) := by
 have hS := keyLt_swo key rank
 rw [stable_one (key := key) (rank := rank) (b := 0) (c := M) (D := d) (by omega) (fun i j _ h1 h2 => hr i j h1 (by omega))]
 obtain ⟨p1, s1⟩ := insertionSort_holds hS d 0 M (by omega) (by omega)
 generalize hd1 : insertionSort (keyLt key rank) d 0 M = d1 at p1 s1 ⊢
 have e1 : ∀ k, M ≤ k → d1[k]! = d[k]! := fun k hk => p1.2.1 k (.inr hk)
 have z1 : d1.size = N := by rw [p1.1, hs]
 rw [stable_one (key := key) (rank := rank) (b := M) (c := N) (D := d1) (by omega) (fun i j h0 h1 h2 => by rw [e1 i h0, e1 j (by omega)]; exact hr i j h1 h2)]
 obtain ⟨p2, s2⟩ := insertionSort_holds hS d1 M N (by omega) (by omega)
 generalize hd2 : insertionSort (keyLt key rank) d1 M N = d2 at p2 s2 ⊢
 have e2 : ∀ k, k < M → d2[k]! = d1[k]! := fun k hk => p2.2.1 k (.inl hk)
 refine ⟨⟨hM, hMN, by rw [p2.1, z1]; exact Nat.le_refl _, sorted_kept s1 p2 (.inr (Nat.le_refl _)), s2, fun i j _ h2 h3 h4 => ?_⟩, permIn_trans _ _ _ 0 N (permIn_up p1 (Nat.le_refl _) (by omega) (by omega)) (permIn_up p2 (by omega) (Nat.le_refl _) (by omega))⟩
 refine keyLt_eq ?_
 rw [e2 i h2]
 refine rank_in (p := fun y => rank d1[i]! < rank y) (by omega) p2 (fun k k1 k2 => ?_) j h3 h4
 rw [e1 k k1]
 exact rank_in (p := fun y => rank y < rank d[k]!) (by omega) p1 (fun q _ q2 => hr q k (by omega) k2) i (by omega) h2
theorem one_block {key rank : α → Int} {N : Nat} {d : Array α} (hs : d.size = N) (hr : ∀ i j, i < j → j < N → rank d[i]! < rank d[j]!) :
  PermIn 0 N d (insertionSort (fun x y => decide (key x < key y)) d 0 N) ∧ SortedIn (keyLt key rank) 0 N (insertionSort (fun x y => decide (key x < key y)) d 0 N) := by
 rw [stable_one (key := key) (rank := rank) (b := 0) (c := N) (D := d) (by omega) (fun i j _ h1 h2 => hr i j h1 h2)]
 exact insertionSort_holds (keyLt_swo key rank) d 0 N (by omega) (by omega)
theorem insertionSort_none (l : α → α → Bool) (d : Array α) (a : Nat) : insertionSort l d a a = d := by unfold insertionSort; rw [insOuter, if_neg (by omega)]
set_option maxHeartbeats 40000000 in
theorem stable_c (enc : α → Value) (cf : α → α → Int) (g : Nat) (cb : Array Value) (blk off cap N : Nat) (d : Array α) (w0 : World)
  (eg : ∀ args w, (callFunc g args).run Tryz.prog w = .ok (.enter g args) w) (hcmp : CmpLays1 Tryz.prog g cb enc cf blk off d.size w0) (R : Row1 enc w0 blk off d) (hN : d.size = N) (hsz : N < 4611686018427387904) (key rank : α → Int) (hcf : ∀ x y, ltOf cf x y = decide (key x < key y)) (hr : ∀ i j, i < j → j < N → rank d[i]! < rank d[j]!) (h40 : N ≤ 40) :
  Calls Tryz.prog 120 #[.slice (some ⟨blk, off, none⟩) N cap, .int .i64 N, .func (.func g) #[] cb] w0 fun e w' => e = .returned (.tuple #[]) ∧
   ∃ d', SW enc w0 blk off d' w' ∧ PermIn 0 N d d' ∧ SortedIn (keyLt key rank) 0 N d' := by
 have hl : ltOf cf = fun x y => decide (key x < key y) := funext fun x => funext fun y => hcf x y
 have S0 := hI9 (SW.start R.hH)
 have hi := fun (a b : Nat) (d1 : Array α) w1 => insertion_c enc cf g cb blk off cap N d w0 eg hcmp R hN hsz a b d1 w1
 rw [hl] at hi
 have HI := hI9 hi
 have hm := fun (a m b : Nat) (d1 : Array α) w1 => symMerge_c enc cf g cb blk off cap N d w0 (keyLt_swo key rank) eg hcmp R hN hsz (b - a) a m b d1 w1 (Nat.le_refl _)
 rw [hl] at hm
 have HM := hI9 hm
 have HR := hI9 hr
 have HN := hI9 hN
 clear hi hm hl hcf hcmp R hr hN
 by_cases c20 : N < 20
 ·have HF := hI9 (one_block (key := key) (rank := rank) HN.out HR.out)
  have hz1 : ¬ ((20 : Int) ≤ (N : Int)) := by omega
  have hz2 : ¬ ((20 : Int) < (N : Int)) := by omega
  go_enter Tryz.func120, Tryz.ntmps120
  go_wp2
  refine wp_loop_rounds 1 ?_
  rw [rounds_succ]
  go_wp2_with (go_at_call 132; refine (HI.out 0 N d _ HN.out S0.out (by omega) (Nat.le_refl _)).mono ?_; rintro _ w1 ⟨rfl, S1⟩)
  refine wp_loop_rounds 1 ?_
  rw [rounds_succ]
  go_wp2
  go_end0
  exact ⟨rfl, _, S1, HF.out.1, HF.out.2⟩
 by_cases e20 : N = 20
 ·subst e20
  have HF := hI9 (one_block (key := key) (rank := rank) HN.out HR.out)
  go_enter Tryz.func120, Tryz.ntmps120
  go_wp2
  refine wp_loop_rounds 2 ?_
  rw [rounds_succ]
  go_wp2_with (go_at_call 132; refine (HI.out 0 20 d _ HN.out S0.out (by omega) (Nat.le_refl _)).mono ?_; rintro _ w1 ⟨rfl, S1⟩)
  rw [rounds_succ]
  go_wp2_with (go_at_call 132; refine (HI.out 20 20 _ _ (by rw [HF.out.1.1, HN.out]) S1 (by omega) (Nat.le_refl _)).mono ?_; rintro _ w2 ⟨rfl, S2⟩)
  refine wp_loop_rounds 1 ?_
  rw [rounds_succ]
  go_wp2
  go_end0
  rw [insertionSort_none] at S2
  exact ⟨rfl, _, S2, HF.out.1, HF.out.2⟩
 have HF := hI9 (two_blocks (key := key) (rank := rank) (M := 20) (N := N) (by omega) (by omega) HN.out HR.out)
 have z1 : (insertionSort (fun x y => decide (key x < key y)) d 0 20).size = N := by
  rw [stable_one (key := key) (rank := rank) (b := 0) (c := 20) (D := d) (by have := HN.out; omega) (fun i j _ h1 h2 => HR.out i j h1 (by omega)), (insertionSort_holds (keyLt_swo key rank) d 0 20 (by omega) (by have := HN.out; omega)).1.1, HN.out]
 have Z1 := hI9 z1
 clear z1
 by_cases e40 : N = 40
 ·subst e40
  clear c20 e20
  go_enter Tryz.func120, Tryz.ntmps120
  go_wp2
  refine wp_loop_rounds 3 ?_
  rw [rounds_succ]
  go_wp2_with (go_at_call 132; refine (HI.out 0 20 d _ HN.out S0.out (by omega) (by omega)).mono ?_; rintro _ w1 ⟨rfl, S1⟩)
  rw [rounds_succ]
  go_wp2_with (go_at_call 132; refine (HI.out 20 40 _ _ Z1.out S1 (by omega) (Nat.le_refl _)).mono ?_; rintro _ w2 ⟨rfl, S2⟩)
  rw [rounds_succ]
  go_wp2_with (go_at_call 132; refine (HI.out 40 40 _ _ (by rw [HF.out.2.1, HN.out]) S2 (by omega) (Nat.le_refl _)).mono ?_; rintro _ w3 ⟨rfl, S3⟩)
  rw [insertionSort_none] at S3
  refine wp_loop_rounds 2 ?_
  rw [rounds_succ]
  go_wp2
  refine wp_loop_rounds 2 ?_
  rw [rounds_succ]
  go_wp2_with (go_at_call 133; refine (HM.out 0 20 40 _ _ (by rw [HF.out.2.1, HN.out]) S3 HF.out.1).mono ?_; rintro _ w4 ⟨rfl, d4, S4, G4⟩)
  rw [rounds_succ]
  go_wp2
  rw [rounds_succ]
  go_wp2
  go_end0
  exact ⟨rfl, _, S4, permIn_trans _ _ _ 0 40 HF.out.2 G4.p, G4.s⟩
 ·have hz1 : (20 : Int) ≤ (N : Int) := by omega
  have hz2 : ¬ ((40 : Int) ≤ (N : Int)) := by omega
  have hz3 : (20 : Int) < (N : Int) := by omega
  have hz4 : ¬ ((40 : Int) < (N : Int)) := by omega
  go_enter Tryz.func120, Tryz.ntmps120
  go_wp2
  refine wp_loop_rounds 2 ?_
  rw [rounds_succ]
  go_wp2_with (go_at_call 132; refine (HI.out 0 20 d _ HN.out S0.out (by omega) (by omega)).mono ?_; rintro _ w1 ⟨rfl, S1⟩)
  rw [rounds_succ]
  go_wp2_with (go_at_call 132; refine (HI.out 20 N _ _ Z1.out S1 (by omega) (Nat.le_refl _)).mono ?_; rintro _ w2 ⟨rfl, S2⟩)
  refine wp_loop_rounds 2 ?_
  rw [rounds_succ]
  go_wp2
  refine wp_loop_rounds 1 ?_
  rw [rounds_succ]
  go_wp2_with (go_at_call 133; refine (HM.out 0 20 N _ _ (by rw [HF.out.2.1, HN.out]) S2 HF.out.1).mono ?_; rintro _ w4 ⟨rfl, d4, S4, G4⟩)
  rw [rounds_succ]
  go_wp2
  go_end0
  exact ⟨rfl, _, S4, permIn_trans _ _ _ 0 N HF.out.2 G4.p, G4.s⟩
theorem sortStable_c (enc : α → Value) (cf : α → α → Int) (g : Nat) (cb : Array Value) (blk off cap N : Nat) (d : Array α) (w0 : World)
  (eg : ∀ args w, (callFunc g args).run Tryz.prog w = .ok (.enter g args) w) (hcmp : CmpLays1 Tryz.prog g cb enc cf blk off d.size w0) (R : Row1 enc w0 blk off d) (hN : d.size = N) (hsz : N < 4611686018427387904) (key rank : α → Int) (hcf : ∀ x y, ltOf cf x y = decide (key x < key y)) (hr : ∀ i j, i < j → j < N → rank d[i]! < rank d[j]!) (h40 : N ≤ 40) :
  Calls Tryz.prog 106 #[.slice (some ⟨blk, off, none⟩) N cap, .func (.func g) #[] cb] w0 fun e w' => e = .returned (.tuple #[]) ∧
   ∃ d', SW enc w0 blk off d' w' ∧ PermIn 0 N d d' ∧ SortedIn (keyLt key rank) 0 N d' := by
 have HS := hI9 (stable_c enc cf g cb blk off cap N d w0 eg hcmp R hN hsz key rank hcf hr h40)
 clear hcmp R hcf hr hN
 go_enter Tryz.func106, Tryz.ntmps106
 go_wp2_with (go_at_call 120; refine HS.out.mono ?_; rintro _ w1 ⟨rfl, d1, S1, p1, s1⟩)
 go_end0
 exact ⟨rfl, d1, S1, p1, s1⟩
end Go.Proofs.YtlabfpjlckdmfaaGreat

namespace Go.Proofs.YtlabfpjlckdmfaaGreat
open Go Go.Shelf Go.RowKit Go.Lib Go.Sort Go.Proofs
set_option maxRecDepth 100000
set_option maxHeartbeats 4000000
def cmpI (x y : Int) : Int := if x < y then -1 else if y < x then 1 else 0
theorem cnan_c (n : Int) (w : World) : Calls Tryz.prog 88 #[.int .i64 n] w fun e w' => e = .returned (.bool false) ∧ w = w' := by
 go_enter Tryz.func88, Tryz.ntmps88
 go_wp2
 go_ret
 exact ⟨by simp, rfl⟩
theorem cmpc_c (x y : Int) (w : World) : Calls Tryz.prog 64 #[.int .i64 x, .int .i64 y] w fun e w' => e = .returned (.int .i64 (cmpI x y)) ∧ w = w' := by
 unfold cmpI
 by_cases h : x < y
 ·rw [if_pos h]
  go_enter Tryz.func64, Tryz.ntmps64
  go_wp2_with (first | (go_at_call 88; (with_reducible refine (cnan_c _ _).mono ?_); rintro e w1 ⟨rfl, rfl⟩))
  go_ret
  exact ⟨rfl, rfl⟩
 ·rw [if_neg h]
  by_cases h2 : y < x
  ·rw [if_pos h2]
   go_enter Tryz.func64, Tryz.ntmps64
   go_wp2_with (first | (go_at_call 88; (with_reducible refine (cnan_c _ _).mono ?_); rintro e w1 ⟨rfl, rfl⟩))
   go_ret
   exact ⟨rfl, rfl⟩
  ·rw [if_neg h2]
   go_enter Tryz.func64, Tryz.ntmps64
   go_wp2_with (first | (go_at_call 88; (with_reducible refine (cnan_c _ _).mono ?_); rintro e w1 ⟨rfl, rfl⟩))
   go_ret
   exact ⟨rfl, rfl⟩
theorem may1_c (gm bf off n c x y : Nat) (kx ky : Int) (w : World) (hs : w.cell? ⟨gm, 12, none⟩ = some (.slice (some ⟨bf, off, none⟩) n c)) (hx : x < n) (hy : y < n) (hn : n ≤ 40)
  (h0 : w.cell? ⟨bf, off + x * 12 + 3, none⟩ = some (.int .i64 kx)) (h1 : w.cell? ⟨bf, off + y * 12 + 3, none⟩ = some (.int .i64 ky)) :
  Calls Tryz.prog 107 #[.int .i64 x, .int .i64 y, .pointer (some ⟨gm, 0, none⟩)] w fun e w' => e = .returned (.int .i64 (cmpI kx ky)) ∧ ∃ q, w' = w.drewN q := by
 have d0 : ∀ q, (w.drewN q).cell? ⟨gm, 12, none⟩ = some (.slice (some ⟨bf, off, none⟩) n c) := fun _ => hs
 have d1 : ∀ q, (w.drewN q).cell? ⟨bf, off + x * 12 + 3, none⟩ = some (.int .i64 kx) := fun _ => h0
 have d2 : ∀ q, (w.drewN q).cell? ⟨bf, off + y * 12 + 3, none⟩ = some (.int .i64 ky) := fun _ => h1
 have x1 : (x : Int) < (n : Int) := by omega
 have y1 : (y : Int) < (n : Int) := by omega
 clear hs h0 h1
 go_enter Tryz.func107, Tryz.ntmps107
 go_wp2_with (fail)
 (refine wp_region_drawnt 13 (by kernel_rfl) (by kernel_rfl) ?_; simp only [List.take_succ_cons, List.take_zero, List.drop_succ_cons, List.drop_zero]; (repeat (go_big_quiet_step ( (go_at_call 64; (with_reducible refine qsame (cmpc_c _ _ _)))))); refine wpQuiet_nil ?_; rintro _ ⟨nq, rfl⟩)
 go_wp2
 go_ret
 exact ⟨rfl, _, rfl⟩
theorem may2_c (gm bf off n c x y : Nat) (kx ky : Int) (w : World) (hs : w.cell? ⟨gm, 13, none⟩ = some (.slice (some ⟨bf, off, none⟩) n c)) (hx : x < n) (hy : y < n) (hn : n ≤ 40)
  (h0 : w.cell? ⟨bf, off + x * 7 + 1, none⟩ = some (.int .i64 kx)) (h1 : w.cell? ⟨bf, off + y * 7 + 1, none⟩ = some (.int .i64 ky)) :
  Calls Tryz.prog 109 #[.int .i64 x, .int .i64 y, .pointer (some ⟨gm, 0, none⟩)] w fun e w' => e = .returned (.int .i64 (cmpI kx ky)) ∧ ∃ q, w' = w.drewN q := by
 have d0 : ∀ q, (w.drewN q).cell? ⟨gm, 13, none⟩ = some (.slice (some ⟨bf, off, none⟩) n c) := fun _ => hs
 have d1 : ∀ q, (w.drewN q).cell? ⟨bf, off + x * 7 + 1, none⟩ = some (.int .i64 kx) := fun _ => h0
 have d2 : ∀ q, (w.drewN q).cell? ⟨bf, off + y * 7 + 1, none⟩ = some (.int .i64 ky) := fun _ => h1
 have x1 : (x : Int) < (n : Int) := by omega
 have y1 : (y : Int) < (n : Int) := by omega
 clear hs h0 h1
 go_enter Tryz.func109, Tryz.ntmps109
 go_wp2_with (fail)
 (refine wp_region_drawnt 13 (by kernel_rfl) (by kernel_rfl) ?_; simp only [List.take_succ_cons, List.take_zero, List.drop_succ_cons, List.drop_zero]; (repeat (go_big_quiet_step ( (go_at_call 64; (with_reducible refine qsame (cmpc_c _ _ _)))))); refine wpQuiet_nil ?_; rintro _ ⟨nq, rfl⟩)
 go_wp2
 go_ret
 exact ⟨rfl, _, rfl⟩
end Go.Proofs.YtlabfpjlckdmfaaGreat

namespace Go.Proofs.YtlabfpjlckdmfaaGreat
open Go Go.Shelf Go.RowKit Go.Lib Go.Sort Go.Proofs
set_option maxRecDepth 100000
set_option maxHeartbeats 4000000
def stab (key : Nat → Int) (xs : List Nat) : List Nat := xs.mergeSort (fun x y => !keyLt key (fun i => (i : Int)) y x)
def encN (i : Nat) : Value := .int .i64 (i : Int)
theorem sortNil_c (g : Nat) (cb : Array Value) (w : World) :
  Calls Tryz.prog 106 #[.slice none 0 0, .func (.func g) #[] cb] w fun e w' => e = .returned (.tuple #[]) ∧ w' = w := by
 have h1 : Calls Tryz.prog 132 #[.slice none 0 0, .int .i64 0, .int .i64 0, .func (.func g) #[] cb] w fun e w' => e = .returned (.tuple #[]) ∧ w' = w := by
  go_enter Tryz.func132, Tryz.ntmps132
  go_wp2
  refine wp_loop_rounds 1 ?_
  rw [rounds_succ]
  go_wp2
  go_end0
  exact ⟨rfl, rfl⟩
 have H1 := hI9 h1
 clear h1
 have h2 : Calls Tryz.prog 120 #[.slice none 0 0, .int .i64 0, .func (.func g) #[] cb] w fun e w' => e = .returned (.tuple #[]) ∧ w' = w := by
  go_enter Tryz.func120, Tryz.ntmps120
  go_wp2
  refine wp_loop_rounds 1 ?_
  rw [rounds_succ]
  go_wp2_with (go_at_call 132; refine H1.out.mono ?_; rintro _ w1 ⟨rfl, rfl⟩)
  refine wp_loop_rounds 1 ?_
  rw [rounds_succ]
  go_wp2
  go_end0
  exact ⟨rfl, rfl⟩
 have H2 := hI9 h2
 clear h2
 go_enter Tryz.func106, Tryz.ntmps106
 go_wp2_with (go_at_call 120; refine H2.out.mono ?_; rintro _ w1 ⟨rfl, rfl⟩)
 go_end0
 exact ⟨rfl, rfl⟩
theorem sw_grown {α : Type} [Inhabited α] {enc : α → Value} {w0 W : World} {blk off : Nat} {dk : Array α} (h : SW enc w0 blk off dk W) : w0.grownBy W (some blk) := by
 obtain ⟨m, os, rfl⟩ := h
 refine ⟨rfl, rfl, rfl, ?_, fun k hk hn => ?_⟩
 ·unfold sortWorld; rw [size_grow, size_putRow]; show w0.heap.size ≤ w0.heap.size + _; omega
 ·unfold sortWorld
  rw [heap_grow_old _ _ (by rw [size_putRow]; exact hk)]
  have hne : k ≠ blk := fun e => hn (by rw [e])
  show ((Sort.ahead w0 m).heap.modify blk _)[k]? = _
  rw [Array.getElem?_modify, if_neg (Ne.symm hne)]
  rfl
theorem sortW_cell {α : Type} [Inhabited α] {enc : α → Value} {w0 W : World} {blk off : Nat} {dk : Array α} (h : SW enc w0 blk off dk W) {a : Addr} {v : Value} (hc : w0.cell? a = some v) (hne : a.block ≠ blk) : W.cell? a = some v := by
 rw [← hc]
 exact World.cell?_of_block (w := w0) ((sw_grown h).block a.block (blk_lt hc) (fun e => hne (by simpa using e)))
theorem cmpI_lt (x y : Int) : decide (cmpI x y < 0) = decide (x < y) := by
 unfold cmpI
 by_cases h : x < y
 ·simp [h]
 ·by_cases h2 : y < x <;> simp [h, h2]
theorem stab_of {n : Nat} [Inhabited (Fin n)] (key : Nat → Int) {d d' : Array (Fin n)} (hp : PermIn 0 d.size d d') (hs : SortedIn (keyLt (fun i : Fin n => key i.val) (fun i => (i.val : Int))) 0 d.size d') :
  d'.toList.map (·.val) = stab key (d.toList.map (·.val)) := by
 have h := sorted_unique_holds (keyLt_swo _ _) (fun x y h1 h2 => by
  unfold keyLt at h1 h2
  simp only [Bool.or_eq_false_iff, Bool.and_eq_false_iff, decide_eq_false_iff_not] at h1 h2
  exact Fin.ext (by omega)) d d' hp hs
 rw [h]
 unfold stab
 exact List.map_mergeSort (fun a _ b _ => rfl)
theorem fins (n : Nat) : ∀ (xs : List Nat), (∀ x ∈ xs, x < n) → ∃ zs : List (Fin n), zs.map (·.val) = xs
 | [], _ => ⟨[], rfl⟩
 | x :: xs, h => by
  obtain ⟨zs, hz⟩ := fins n xs (fun y hy => h y (List.mem_cons_of_mem _ hy))
  exact ⟨⟨x, h x (by simp)⟩ :: zs, by simp [hz]⟩
def castI (i : Nat) : Int := (i : Int)
theorem sortRow_c {n : Nat} (key : Nat → Int) (g : Nat) (cb : Array Value) (eg : ∀ args w, (callFunc g args).run Tryz.prog w = .ok (.enter g args) w) (base : Nat) (v : Value) (xs : List Nat) (w : World)
  (hown : w.ownsRow base 3 1 v xs.length (xs.map encN)) (hnil : xs = [] → v = .slice none 0 0) (hv : v = .slice none 0 0 → xs = []) (hlt : ∀ x ∈ xs, x < n) (hn : n ≤ 1000000) (hinc : xs.Pairwise (· < ·)) (h40 : xs.length ≤ 40)
  (hcmp : ∀ (_ : Inhabited (Fin n)) blk, some blk = v.ownBlock → CmpLays1 Tryz.prog g cb (fun i : Fin n => encN i.val) (fun x y => cmpI (key x.val) (key y.val)) blk 0 xs.length w) :
  Calls Tryz.prog 106 #[v, .func (.func g) #[] cb] w fun e w' => e = .returned (.tuple #[]) ∧ Ints w' v ((stab key xs).map castI) ∧ w.grownBy w' v.ownBlock := by
 by_cases he : xs = []
 ·subst he
  obtain rfl := hnil rfl
  refine (sortNil_c g cb w).mono ?_
  rintro _ _ ⟨rfl, rfl⟩
  refine ⟨rfl, ?_, ⟨rfl, rfl, rfl, Nat.le_refl _, fun _ _ _ => rfl⟩⟩
  refine ⟨none, 0, ?_, ?_, by omega, fun x hx => ?_, fun h => ?_⟩
  ·simp [stab]
  ·simp [stab]
  ·simp [stab] at hx
  ·simp [stab] at h
 ·have hvne : v ≠ .slice none 0 0 := fun e => he (hv e)
  obtain ⟨x0, hx0⟩ : ∃ x, x ∈ xs := by
   cases xs with
   | nil => exact absurd rfl he
   | cons a l => exact ⟨a, by simp⟩
  letI inst : Inhabited (Fin n) := ⟨⟨x0, hlt x0 hx0⟩⟩
  obtain ⟨zs, hz⟩ := fins n xs hlt
  subst hz
  have hl : (zs.map (·.val)).length = zs.length := List.length_map _
  rw [List.map_map, hl] at hown
  rw [hl] at h40
  obtain ⟨b, cap, rfl, hb1, hb2, hb3, hb4, hb5, hH⟩ := holds_of_ownsRow (enc := fun i : Fin n => encN i.val) hown hvne
  have hsz : zs.toArray.size = zs.length := by simp
  have hc := hcmp inst b rfl
  rw [hl] at hc
  have hR : Row1 (fun i : Fin n => encN i.val) w b 0 zs.toArray := ⟨fun _ => rfl, hH, hb2⟩
  refine (sortStable_c (fun i : Fin n => encN i.val) (fun x y => cmpI (key x.val) (key y.val)) g cb b 0 cap zs.length zs.toArray w eg (by rw [hsz]; exact hc) hR hsz (by omega) (fun i => key i.val) (fun i => (i.val : Int)) (fun x y => cmpI_lt _ _) ?_ h40).mono ?_
  ·intro i j hij hj
   have hi2 : i < zs.length := by omega
   rw [List.pairwise_map] at hinc
   have := List.pairwise_iff_getElem.1 hinc i j hi2 hj hij
   simp only [List.getElem!_toArray, getElem!_pos, hi2, hj]
   omega
  ·rintro _ w' ⟨rfl, d', S', hp, hs⟩
   refine ⟨rfl, ?_, sw_grown S'⟩
   rw [← hsz] at hp hs
   have e := stab_of key hp hs
   rw [show zs.toArray.toList = zs from rfl] at e
   rw [← e]
   have hd : d'.size = zs.length := by rw [hp.1, hsz]
   have hH2 := S'.holds hb2 hH hp.1
   refine ⟨some ⟨b, 0, none⟩, cap, ?_, ?_, ?_, fun x hx => ?_, fun h => ⟨b, 0, rfl, S'.lt hb2, fun k hk => ?_⟩⟩
   ·simp [hd]
   ·simp [hd]; omega
   ·unfold maxLen at hb4; omega
   ·simp only [List.mem_map] at hx
    obtain ⟨a, ⟨c, -, rfl⟩, rfl⟩ := hx
    unfold I64 castI
    have := c.isLt
    omega
   ·simp only [List.length_map] at hk
    have hk2 : k < d'.size := by simpa using hk
    rw [(hH2 k hk2).1]
    unfold nth
    simp [encN, castI, hk2]
end Go.Proofs.YtlabfpjlckdmfaaGreat

namespace Go.Proofs.YtlabfpjlckdmfaaGreat
open Go Go.RowKit Go.Proofs
def recR (fn : FuncId) (tmps : Array Value) (ps : Array Tmp) (assign body : Code) (D : Nat) : Loop := { state := .ready, pending := none, fn, tmps, params := ps, assign, body, defers := D }
theorem wp_range {P : Program} {g : Operand} {ps : Array Tmp} {assign body : Code} {Q : Exit → Act → World → Prop} {a : Act} {w : World} {gf : Nat} {lb : Array Value}
  (hg : a.eval g = .func (.func gf) #[] lb) (eg : ∀ args w, (callFunc gf args).run P w = .ok (.enter gf args) w) (D : Nat) (hD : w.heap.size = D) (R : Loop → World → Prop)
  (hc : ∀ fn, Calls P gf (#[.func (.yield (D + 1)) #[] #[]] ++ lb) ((w.alloc (.deferred (some []))).alloc (.loop (recR fn a.tmps ps assign body D))) fun e w3 => (∃ v, e = .returned v) ∧ R (recR fn a.tmps ps assign body D) w3)
  (hd : ∀ fn w3, R (recR fn a.tmps ps assign body D) w3 → w3.heap[D + 1]? = some (.loop (recR fn a.tmps ps assign body D)) ∧
   Q .normal { a with defers := { target := .collected D, args := #[] } :: a.defers } (w3.putObj (D + 1) (.loop { recR fn a.tmps ps assign body D with state := .exhausted }))) :
  (Code.rangeFunc g ps assign body).wp P Q a w := by
 subst hD
 refine (wpIn_wide (n := 1)).1 (wpIn_rangeFunc fun fn _ => ?_)
 have hc1 := hc fn
 obtain ⟨W1, hW1⟩ : ∃ W1, W1 = (w.alloc (.deferred (some []))).alloc (.loop (recR fn a.tmps ps assign body w.heap.size)) := ⟨_, rfl⟩
 rw [← hW1] at hc1
 refine ⟨w.heap.size + 1, [{ target := .collected w.heap.size, args := #[] }], W1, { target := .fn (.func gf) lb, args := #[.func (.yield (w.heap.size + 1)) #[] #[]] }, W1, gf,
  #[.func (.yield (w.heap.size + 1)) #[] #[]] ++ lb, W1, ?_, ?_, fun _ _ => trivial, ?_, fun _ => Nat.le_refl _, ?_⟩
 ·rw [hW1]; exact run_enterLoop_outer _ _ _ _ _
 ·simp only [resolve, hg]
  simp [go_sem]
 ·simp [invoke, go_sem, eg]
 ·refine callsIn_wide.2 (hc1.mono ?_)
  rintro e w3 ⟨⟨v, rfl⟩, hr⟩
  obtain ⟨h1, h2⟩ := hd fn w3 hr
  exact ⟨none, _, run_endLoop h1 (by simp [recR]), h2⟩
theorem round_at {P : Program} {l : Nat} {fn : FuncId} {tmps : Array Value} {ps : Array Tmp} {assign body : Code} {D : Nat} {args : Array Value} {W : World} {R : Ending → World → Prop} (rb : Loop) (hrb : rb = { recR fn tmps ps assign body D with state := .busy })
  (h : W.heap[l]? = some (.loop (recR fn tmps ps assign body D))) (hs : args.size = ps.size)
  (hb : assign.wpIn (rnd l) 0 P (Exit.then (fun a₁ w₁ => w₁ = W ∧ body.wpIn (rnd l) 0 P (roundPost P l R) a₁ (W.putObj l (.loop rb))) (fun _ _ _ => False))
   { tmps := (ps.zip args).foldl (fun t (p, v) => t.setIfInBounds p v) tmps, defers := [] } W) :
  YieldAt Fence.wide 0 P l args W R := by
 subst hrb
 refine ⟨_, _, _, _, run_yield h hs, roundIn_of_wpIn trivial ?_⟩
 refine wpIn_mono hb fun e a1 w1 hq => ?_
 cases e with
 | normal =>
  obtain ⟨rfl, hq⟩ := hq
  exact ⟨_, run_beginRound h rfl, hq⟩
 | _ => exact hq.elim
theorem round_end {P : Program} {l : Nat} {r : Loop} {R : Ending → World → Prop} {a : Act} {w : World} (h : w.heap[l]? = some (.loop r)) (hR : R (.returned (.bool true)) (w.putObj l (.loop { r with state := .ready, pending := none }))) : roundPost P l R .normal a w :=
 ⟨_, _, run_endRound none h, hR⟩
theorem calls_of_wp_rng {P : Program} {f : FuncId} {fn : Func} {c : Code} {args : Array Value} {w : World} {R : Ending → World → Prop} (hf : P.funcs[f]? = some fn) (hb : fn.body = some c)
  (h : c.wp P (bodyPostM Fence.wide 1 P fn R) { tmps := args ++ Array.replicate (fn.ntmps - args.size) undef, defers := [] } w) : Calls P f args w R :=
 callsIn_wide.1 (callsIn_of_wp_marks (n := 1) hf hb trivial (wpIn_wide.2 h))
theorem rng_ret2 {P : Program} {fn : Func} {R : Ending → World → Prop} {a : Act} {w : World} {t u : Tmp} (h : fn.results = #[.tmp t, .tmp u]) (hd : a.defers = []) (hR : R (.returned (.tuple #[a.tmps.getD t undef, a.tmps.getD u undef])) w) : bodyPostM Fence.wide 1 P fn R .ret a w := by
 show LeavesInM Fence.wide 1 P fn a.tmps R a.defers .returning w
 rw [hd]
 exact ⟨_, results_tmp2 h _ _ _, hR⟩
theorem rng_ret2m {P : Program} {fn : Func} {R : Ending → World → Prop} {a : Act} {w : World} {t u : Tmp} {D : Nat} (h : fn.results = #[.tmp t, .tmp u]) (hd : a.defers = [{ target := .collected D, args := #[] }]) (hD : w.heap[D]? = some (.deferred (some [])))
  (hR : R (.returned (.tuple #[a.tmps.getD t undef, a.tmps.getD u undef])) (w.putObj D (.deferred none))) : bodyPostM Fence.wide 1 P fn R .ret a w := by
 show LeavesInM Fence.wide 1 P fn a.tmps R a.defers .returning w
 rw [hd]
 refine ⟨by simp, .inl ⟨_, _, rfl, run_takeDeferred hD, ?_⟩⟩
 exact ⟨_, results_tmp2 h _ _ _, hR⟩
end Go.Proofs.YtlabfpjlckdmfaaGreat
