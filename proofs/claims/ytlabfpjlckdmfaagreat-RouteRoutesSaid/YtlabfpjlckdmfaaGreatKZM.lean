/- Texts joined: KZM. -/
import Derived.Test.YtlabfpjlckdmfaaGreatKAF
set_option linter.all false
namespace Go.Proofs.YtlabfpjlckdmfaaGreat
open Go Go.Shelf Go.RowKit Go.Lib Go.Sort Go.Proofs
set_option maxRecDepth 1000000
variable {α : Type} [Inhabited α]
set_option maxHeartbeats 40000000 in
theorem sym3_c (enc : α → Value) (cf : α → α → Int) (g : Nat) (cb : Array Value) (blk off cap N : Nat) (d0 : Array α) (w0 : World) {l2 : α → α → Bool} (hS : SWO l2)
  (eg : ∀ args w, (callFunc g args).run Tryz.prog w = .ok (.enter g args) w) (hcmp : CmpLays1 Tryz.prog g cb enc cf blk off d0.size w0) (R : Row1 enc w0 blk off d0) (hN : d0.size = N) (hsz : N < 4611686018427387904)
  (a m b : Nat) (d : Array α) (w : World) (hs : d.size = N) (S : SW enc w0 blk off d w) (h : MergeIn (ltOf cf) l2 a m b d) (hm : m ≠ a + 1) (hm2 : b ≠ m + 1) (hmm : (a + b) / 2 < m) (fuel : Nat) (hf : b - a ≤ fuel + 1) (ih : ∀ (a m b : Nat) (d : Array α) (w : World), b - a ≤ fuel → d.size = N → SW enc w0 blk off d w → MergeIn (ltOf cf) l2 a m b d → Calls Tryz.prog 133 #[.slice (some ⟨blk, off, none⟩) N cap, .int .i64 a, .int .i64 m, .int .i64 b, .func (.func g) #[] cb] w fun e w' => e = .returned (.tuple #[]) ∧
   ∃ d', SW enc w0 blk off d' w' ∧ Merged l2 a b d d') :
  Calls Tryz.prog 133 #[.slice (some ⟨blk, off, none⟩) N cap, .int .i64 a, .int .i64 m, .int .i64 b, .func (.func g) #[] cb] w fun e w' => e = .returned (.tuple #[]) ∧
   ∃ d', SW enc w0 blk off d' w' ∧ Merged l2 a b d d' := by
 have hcl0 := R.hO.cells
 simp only [Value.cells] at hcl0
 have hst := R.hO.store Tryz.prog
 have mixed : Tryz.prog.follows Departure.mixedOrders = true := by kernel_rfl
 have HC : Aside _ := hcmp
 have S1 : Aside (SW enc w0 blk off d w) := S
 have ham := h.am
 have hmb := h.mb
 have hb : b ≤ N := by have := h.bs; omega
 have HMI := hI9 h
 clear S hcmp h
 have IH := hI9 ih
 clear ih
 have hq1 : ((m : Int) - (a : Int) == 1) = false := by simp; first | done | omega
 have hq2 : ((b : Int) - (m : Int) == 1) = false := by simp; first | done | omega
 obtain ⟨mid, hmid⟩ : ∃ q, q = (a + b) / 2 := ⟨_, rfl⟩
 have zmid : ((a : Int) + (b : Int)) / 2 = (mid : Int) := by omega
 have hmid1 : 2 * mid ≤ a + b := by omega
 have hmid2 : a + b ≤ 2 * mid + 1 := by omega
 have hm1 : a + 1 < m := by omega
 have hm3 : m + 1 < b := by omega
 have HMID := hI9 hmid
 clear hmid hm hm2
 have hmm : mid < m := by omega
 have hmz : (mid : Int) < (m : Int) := by omega
 go_enter Tryz.func133, Tryz.ntmps133
 go_wp2
 obtain ⟨lo, hlo⟩ : ∃ q, q = mid + m - b := ⟨_, rfl⟩
 obtain ⟨hi, hhi⟩ : ∃ q, q = mid := ⟨_, rfl⟩
 have hlo1 : lo ≤ mid + m - b := by omega
 have hlo2 : mid + m - b ≤ lo := by omega
 have hhi1 : hi ≤ mid := by omega
 have hhi2 : mid ≤ hi := by omega
 have HLO := hI9 hlo
 have HHI := hI9 hhi
 clear hlo hhi
 go_loopg [20, 21] (hi - lo) (fun gx x y wr => ∃ s r : Nat, x = .int .i64 s ∧ y = .int .i64 r ∧ lo ≤ s ∧ s ≤ r ∧ r ≤ hi ∧ r - s ≤ gx ∧ Aside (SW enc w0 blk off d wr) ∧ Aside ((s = lo ∨ l2 d[mid + m - s]! d[s - 1]! = false) ∧ (r = hi ∨ l2 d[mid + m - 1 - r]! d[r]! = true)))
 case atStart => exact ⟨lo, hi, by first | (rw [HLO.out]; done) | rfl | go_num | (congr 1; omega), by first | (rw [HHI.out]; done) | rfl | go_num | (congr 1; omega), Nat.le_refl _, by omega, Nat.le_refl _, Nat.le_refl _, S1, .inl rfl, .inl rfl⟩
 case round =>
  clear S1
  obtain ⟨s, r, rfl, rfl, hls, hsr, hrh, hg1, S1, HX⟩ := hrel
  by_cases hlt : s < r
  ·have hltz : (s : Int) < (r : Int) := by omega
   obtain ⟨c, hc⟩ : ∃ q, q = (s + r) / 2 := ⟨_, rfl⟩
   obtain ⟨pc, hpc⟩ : ∃ q, q = mid + m - 1 - c := ⟨_, rfl⟩
   have hc1 : s ≤ c := by omega
   have hc2 : c < r := by omega
   have zc : ((s : Int) + (r : Int)) / 2 = (c : Int) := by omega
   have zp : (mid : Int) + (m : Int) - 1 - (c : Int) = (pc : Int) := by omega
   have hp1 : pc + c + 1 ≤ mid + m := by omega
   have hp2 : mid + m ≤ pc + c + 1 := by omega
   have HPC := hI9 hpc
   clear hc hpc
   have ag := HMI.out.ag c pc (by omega) (by omega) (by omega) (by omega)
   cases hlv : ltOf cf d[pc]! d[c]! with
   | true =>
    rw [hlv] at ag
    have HX2 : Aside ((s = lo ∨ l2 d[mid + m - s]! d[s - 1]! = false) ∧ (c = hi ∨ l2 d[mid + m - 1 - c]! d[c]! = true)) := ⟨HX.out.1, .inr (by rw [← HPC.out]; exact ag.symm)⟩
    clear HX ag
    obtain ⟨iN7, hiN7⟩ : ∃ q, q = pc := ⟨_, rfl⟩
    obtain ⟨jN7, hjN7⟩ : ∃ q, q = c := ⟨_, rfl⟩
    have ea7 : ((pc : Int)).toNat = iN7 := by omega
    have pa7 : (0 : Int) ≤ (pc : Int) := by omega
    have ba7 : (pc : Int) < (N : Int) := by omega
    have ra7 : IntKind.i64.wrap ((pc : Int)) = (pc : Int) := by rw [IntKind.wrap_i64]; omega
    have ec7 : ((c : Int)).toNat = jN7 := by omega
    have pc7 : (0 : Int) ≤ (c : Int) := by omega
    have bc7 : (c : Int) < (N : Int) := by omega
    have rc7 : IntKind.i64.wrap ((c : Int)) = (c : Int) := by rw [IntKind.wrap_i64]; omega
    obtain ⟨x7, hx7⟩ : ∃ x, x = d[pc]! := ⟨_, rfl⟩
    obtain ⟨y7, hy7⟩ : ∃ x, x = d[c]! := ⟨_, rfl⟩
    have la7 := S1.out.cl R (by omega) (pc) (by omega)
    have lb7 := S1.out.cl R (by omega) (c) (by omega)
    rw [← hx7, ← hiN7] at la7
    rw [← hy7, ← hjN7] at lb7
    have hc7 := S1.out.cmp HC.out (by omega) x7 y7
    have hd7 : decide (cf x7 y7 < 0) = true := by rw [hx7, hy7]; exact hlv
    have hv7 : cf x7 y7 < 0 := of_decide_eq_true hd7
    clear hx7 hy7 hiN7 hjN7 hlv
    go_wp2_with fail
    go_quiet_grown (first | (go_at_fn g; refine Calls.grown_of (hc7 _ _)))
    have S2 : Aside (SW enc w0 blk off d (grow (wr.drewN nq) osq)) := S1.out.grown nq osq
    clear la7 lb7 hc7 S1
    generalize grow (wr.drewN nq) osq = w2 at S2 ⊢
    clear nq osq
    clear ea7 ec7 ra7 rc7 pa7 pc7 ba7 bc7 hv7
    go_wp2
    go_roundg (c - s)
    case measure => omega
    case rel => exact ⟨s, c, rfl, by first | rfl | go_num | (congr 1; omega), hls, by omega, by omega, Nat.le_refl _, S2, HX2⟩
   | false =>
    rw [hlv] at ag
    have HX2 : Aside ((c + 1 = lo ∨ l2 d[mid + m - (c + 1)]! d[c + 1 - 1]! = false) ∧ (r = hi ∨ l2 d[mid + m - 1 - r]! d[r]! = true)) := ⟨.inr (by rw [show mid + m - (c + 1) = pc by omega]; exact ag.symm), HX.out.2⟩
    clear HX ag
    obtain ⟨iN8, hiN8⟩ : ∃ q, q = pc := ⟨_, rfl⟩
    obtain ⟨jN8, hjN8⟩ : ∃ q, q = c := ⟨_, rfl⟩
    have ea8 : ((pc : Int)).toNat = iN8 := by omega
    have pa8 : (0 : Int) ≤ (pc : Int) := by omega
    have ba8 : (pc : Int) < (N : Int) := by omega
    have ra8 : IntKind.i64.wrap ((pc : Int)) = (pc : Int) := by rw [IntKind.wrap_i64]; omega
    have ec8 : ((c : Int)).toNat = jN8 := by omega
    have pc8 : (0 : Int) ≤ (c : Int) := by omega
    have bc8 : (c : Int) < (N : Int) := by omega
    have rc8 : IntKind.i64.wrap ((c : Int)) = (c : Int) := by rw [IntKind.wrap_i64]; omega
    obtain ⟨x8, hx8⟩ : ∃ x, x = d[pc]! := ⟨_, rfl⟩
    obtain ⟨y8, hy8⟩ : ∃ x, x = d[c]! := ⟨_, rfl⟩
    have la8 := S1.out.cl R (by omega) (pc) (by omega)
    have lb8 := S1.out.cl R (by omega) (c) (by omega)
    rw [← hx8, ← hiN8] at la8
    rw [← hy8, ← hjN8] at lb8
    have hc8 := S1.out.cmp HC.out (by omega) x8 y8
    have hd8 : decide (cf x8 y8 < 0) = false := by rw [hx8, hy8]; exact hlv
    have hv8 : ¬ cf x8 y8 < 0 := of_decide_eq_false hd8
    clear hx8 hy8 hiN8 hjN8 hlv
    go_wp2_with fail
    go_quiet_grown (first | (go_at_fn g; refine Calls.grown_of (hc8 _ _)))
    have S2 : Aside (SW enc w0 blk off d (grow (wr.drewN nq) osq)) := S1.out.grown nq osq
    clear la8 lb8 hc8 S1
    generalize grow (wr.drewN nq) osq = w2 at S2 ⊢
    clear nq osq
    clear ea8 ec8 ra8 rc8 pa8 pc8 ba8 bc8 hv8
    go_wp2
    go_roundg (r - (c + 1))
    case measure => omega
    case rel => exact ⟨c + 1, r, by first | rfl | go_num | (congr 1; omega), rfl, by omega, by omega, hrh, Nat.le_refl _, S2, HX2⟩
  ·have hltz : ¬ (s : Int) < (r : Int) := by omega
   obtain rfl : s = r := by omega
   have hcut := cut_of (lt := l2) (d := d) ham hmb HMID.out rfl (.inl ⟨hmm, HLO.out, HHI.out⟩) hls hrh HX.out.1 HX.out.2
   obtain ⟨e, he⟩ : ∃ q, q = mid + m - s := ⟨_, rfl⟩
   have ze : (mid : Int) + (m : Int) - (s : Int) = (e : Int) := by omega
   rw [← he] at hcut
   obtain ⟨cu, em, -, -⟩ := hcut
   have hcu := And.intro cu.p1 (And.intro cu.p2 (And.intro cu.p3 cu.p4))
   obtain ⟨hc1, hc2, hc3, hc4⟩ := hcu
   have EM := hI9 em
   have CU := hI9 cu
   clear cu em HX he
   by_cases hr : s < m ∧ m < e
   ·have hr1 : (s : Int) < (m : Int) := by omega
    have hr2 : (m : Int) < (e : Int) := by omega
    have hcr := fun w1 (h : SW enc w0 blk off d w1) => rotate_c enc g cb blk off cap s m e d0 d w0 w1 R (by omega) h hr.1 hr.2 (by omega) (by omega)
    rw [hs] at hcr
    have HCR := hI9 hcr
    clear hcr
    by_cases hl : a < s ∧ s < mid
    ·have hl1 : (a : Int) < (s : Int) := by omega
     have hl2 : (s : Int) < (mid : Int) := by omega
     by_cases hq : mid < e ∧ e < b
     ·have hr3 : (mid : Int) < (e : Int) := by omega
      have hr4 : (e : Int) < (b : Int) := by omega
      go_wp2_with (go_at_call 148; refine (HCR.out _ S1.out).mono ?_; rintro _ w2 ⟨rfl, d1, T1, M1, P1⟩; have MI := hI9 (sym_mid hS HMI.out CU.out EM.out M1); have PP := hI9 (permIn_up (a' := a) (b' := b) P1 (by omega) (by omega) HMI.out.bs))
      all_goals
       refine (IH.out a s mid d1 _ (by omega) (by have := MI.out.1; omega) T1 (MI.out.2.1 hl.1 hl.2)).mono ?_
       rintro _ w3 ⟨rfl, d2, T2, G2⟩
       go_wp2_with (fail)
       all_goals
        refine (IH.out mid e b d2 _ (by omega) (by have := MI.out.1; have := G2.p.1; omega) T2 ((MI.out.2.2.1 hq.1 hq.2).kept G2.p (Nat.le_refl _))).mono ?_
        rintro _ w4 ⟨rfl, d3, T3, G3⟩
        go_wp2_with (fail)
        all_goals
         ((try simp only [Exit.inBlock, Exit.then]); first | refine bodyPost_ret (results_none rfl _ _ _) rfl ?_ | refine bodyPost_end (results_none rfl _ _ _) rfl ?_)
         exact ⟨rfl, _, T3, sym_fin (by omega) (by omega) HMI.out.bs PP.out MI.out.2.2.2.2.2 G2 G3⟩
     ·have hr3 : (decide ((mid : Int) < (e : Int)) && decide ((e : Int) < (b : Int))) = false := by rw [Bool.and_eq_false_iff]; simp only [decide_eq_false_iff_not]; first | done | omega
      go_wp2_with (go_at_call 148; refine (HCR.out _ S1.out).mono ?_; rintro _ w2 ⟨rfl, d1, T1, M1, P1⟩; have MI := hI9 (sym_mid hS HMI.out CU.out EM.out M1); have PP := hI9 (permIn_up (a' := a) (b' := b) P1 (by omega) (by omega) HMI.out.bs))
      all_goals
       refine (IH.out a s mid d1 _ (by omega) (by have := MI.out.1; omega) T1 (MI.out.2.1 hl.1 hl.2)).mono ?_
       rintro _ w3 ⟨rfl, d2, T2, G2⟩
       go_wp2_with (fail)
       all_goals
        ((try simp only [Exit.inBlock, Exit.then]); first | refine bodyPost_ret (results_none rfl _ _ _) rfl ?_ | refine bodyPost_end (results_none rfl _ _ _) rfl ?_)
        have G3 := Merged.none (sorted_kept (MI.out.2.2.2.2.1 hq) G2.p (.inl (Nat.le_refl _)))
        have T3 := T2
        exact ⟨rfl, _, T3, sym_fin (by omega) (by omega) HMI.out.bs PP.out MI.out.2.2.2.2.2 G2 G3⟩
    ·have hl1 : (decide ((a : Int) < (s : Int)) && decide ((s : Int) < (mid : Int))) = false := by rw [Bool.and_eq_false_iff]; simp only [decide_eq_false_iff_not]; first | done | omega
     by_cases hq : mid < e ∧ e < b
     ·have hr3 : (mid : Int) < (e : Int) := by omega
      have hr4 : (e : Int) < (b : Int) := by omega
      go_wp2_with (go_at_call 148; refine (HCR.out _ S1.out).mono ?_; rintro _ w2 ⟨rfl, d1, T1, M1, P1⟩; have MI := hI9 (sym_mid hS HMI.out CU.out EM.out M1); have PP := hI9 (permIn_up (a' := a) (b' := b) P1 (by omega) (by omega) HMI.out.bs))
      all_goals
       refine (IH.out mid e b d1 _ (by omega) (by have := MI.out.1; omega) T1 (MI.out.2.2.1 hq.1 hq.2)).mono ?_
       rintro _ w4 ⟨rfl, d3, T3, G3⟩
       go_wp2_with (fail)
       all_goals
        ((try simp only [Exit.inBlock, Exit.then]); first | refine bodyPost_ret (results_none rfl _ _ _) rfl ?_ | refine bodyPost_end (results_none rfl _ _ _) rfl ?_)
        have G2 := Merged.none (MI.out.2.2.2.1 hl)
        have T2 := T1
        exact ⟨rfl, _, T3, sym_fin (by omega) (by omega) HMI.out.bs PP.out MI.out.2.2.2.2.2 G2 G3⟩
     ·have hr3 : (decide ((mid : Int) < (e : Int)) && decide ((e : Int) < (b : Int))) = false := by rw [Bool.and_eq_false_iff]; simp only [decide_eq_false_iff_not]; first | done | omega
      go_wp2_with (go_at_call 148; refine (HCR.out _ S1.out).mono ?_; rintro _ w2 ⟨rfl, d1, T1, M1, P1⟩; have MI := hI9 (sym_mid hS HMI.out CU.out EM.out M1); have PP := hI9 (permIn_up (a' := a) (b' := b) P1 (by omega) (by omega) HMI.out.bs))
      all_goals
       ((try simp only [Exit.inBlock, Exit.then]); first | refine bodyPost_ret (results_none rfl _ _ _) rfl ?_ | refine bodyPost_end (results_none rfl _ _ _) rfl ?_)
       have G2 := Merged.none (MI.out.2.2.2.1 hl)
       have T2 := T1
       have G3 := Merged.none (sorted_kept (MI.out.2.2.2.2.1 hq) G2.p (.inl (Nat.le_refl _)))
       have T3 := T2
       exact ⟨rfl, _, T3, sym_fin (by omega) (by omega) HMI.out.bs PP.out MI.out.2.2.2.2.2 G2 G3⟩
   ·have MI := hI9 (sym_mid hS HMI.out CU.out EM.out (PermIn.moved_none (d := d) (a := s) (m := m) (b := e) (by omega) (by omega)))
    have PP := hI9 (permIn_refl d a b)
    have T1 := S1.out
    have hr1 : (decide ((s : Int) < (m : Int)) && decide ((m : Int) < (e : Int))) = false := by rw [Bool.and_eq_false_iff]; simp only [decide_eq_false_iff_not]; first | done | omega
    by_cases hl : a < s ∧ s < mid
    ·have hl1 : (a : Int) < (s : Int) := by omega
     have hl2 : (s : Int) < (mid : Int) := by omega
     by_cases hq : mid < e ∧ e < b
     ·have hr3 : (mid : Int) < (e : Int) := by omega
      have hr4 : (e : Int) < (b : Int) := by omega
      go_wp2_with (fail)
      all_goals
       refine (IH.out a s mid d _ (by omega) (by have := MI.out.1; omega) T1 (MI.out.2.1 hl.1 hl.2)).mono ?_
       rintro _ w3 ⟨rfl, d2, T2, G2⟩
       go_wp2_with (fail)
       all_goals
        refine (IH.out mid e b d2 _ (by omega) (by have := MI.out.1; have := G2.p.1; omega) T2 ((MI.out.2.2.1 hq.1 hq.2).kept G2.p (Nat.le_refl _))).mono ?_
        rintro _ w4 ⟨rfl, d3, T3, G3⟩
        go_wp2_with (fail)
        all_goals
         ((try simp only [Exit.inBlock, Exit.then]); first | refine bodyPost_ret (results_none rfl _ _ _) rfl ?_ | refine bodyPost_end (results_none rfl _ _ _) rfl ?_)
         exact ⟨rfl, _, T3, sym_fin (by omega) (by omega) HMI.out.bs PP.out MI.out.2.2.2.2.2 G2 G3⟩
     ·have hr3 : (decide ((mid : Int) < (e : Int)) && decide ((e : Int) < (b : Int))) = false := by rw [Bool.and_eq_false_iff]; simp only [decide_eq_false_iff_not]; first | done | omega
      go_wp2_with (fail)
      all_goals
       refine (IH.out a s mid d _ (by omega) (by have := MI.out.1; omega) T1 (MI.out.2.1 hl.1 hl.2)).mono ?_
       rintro _ w3 ⟨rfl, d2, T2, G2⟩
       go_wp2_with (fail)
       all_goals
        ((try simp only [Exit.inBlock, Exit.then]); first | refine bodyPost_ret (results_none rfl _ _ _) rfl ?_ | refine bodyPost_end (results_none rfl _ _ _) rfl ?_)
        have G3 := Merged.none (sorted_kept (MI.out.2.2.2.2.1 hq) G2.p (.inl (Nat.le_refl _)))
        have T3 := T2
        exact ⟨rfl, _, T3, sym_fin (by omega) (by omega) HMI.out.bs PP.out MI.out.2.2.2.2.2 G2 G3⟩
    ·have hl1 : (decide ((a : Int) < (s : Int)) && decide ((s : Int) < (mid : Int))) = false := by rw [Bool.and_eq_false_iff]; simp only [decide_eq_false_iff_not]; first | done | omega
     by_cases hq : mid < e ∧ e < b
     ·have hr3 : (mid : Int) < (e : Int) := by omega
      have hr4 : (e : Int) < (b : Int) := by omega
      go_wp2_with (fail)
      all_goals
       refine (IH.out mid e b d _ (by omega) (by have := MI.out.1; omega) T1 (MI.out.2.2.1 hq.1 hq.2)).mono ?_
       rintro _ w4 ⟨rfl, d3, T3, G3⟩
       go_wp2_with (fail)
       all_goals
        ((try simp only [Exit.inBlock, Exit.then]); first | refine bodyPost_ret (results_none rfl _ _ _) rfl ?_ | refine bodyPost_end (results_none rfl _ _ _) rfl ?_)
        have G2 := Merged.none (MI.out.2.2.2.1 hl)
        have T2 := T1
        exact ⟨rfl, _, T3, sym_fin (by omega) (by omega) HMI.out.bs PP.out MI.out.2.2.2.2.2 G2 G3⟩
     ·have hr3 : (decide ((mid : Int) < (e : Int)) && decide ((e : Int) < (b : Int))) = false := by rw [Bool.and_eq_false_iff]; simp only [decide_eq_false_iff_not]; first | done | omega
      go_wp2_with (fail)
      all_goals
       ((try simp only [Exit.inBlock, Exit.then]); first | refine bodyPost_ret (results_none rfl _ _ _) rfl ?_ | refine bodyPost_end (results_none rfl _ _ _) rfl ?_)
       have G2 := Merged.none (MI.out.2.2.2.1 hl)
       have T2 := T1
       have G3 := Merged.none (sorted_kept (MI.out.2.2.2.2.1 hq) G2.p (.inl (Nat.le_refl _)))
       have T3 := T2
       exact ⟨rfl, _, T3, sym_fin (by omega) (by omega) HMI.out.bs PP.out MI.out.2.2.2.2.2 G2 G3⟩
set_option maxHeartbeats 40000000 in
theorem sym4_c (enc : α → Value) (cf : α → α → Int) (g : Nat) (cb : Array Value) (blk off cap N : Nat) (d0 : Array α) (w0 : World) {l2 : α → α → Bool} (hS : SWO l2)
  (eg : ∀ args w, (callFunc g args).run Tryz.prog w = .ok (.enter g args) w) (hcmp : CmpLays1 Tryz.prog g cb enc cf blk off d0.size w0) (R : Row1 enc w0 blk off d0) (hN : d0.size = N) (hsz : N < 4611686018427387904)
  (a m b : Nat) (d : Array α) (w : World) (hs : d.size = N) (S : SW enc w0 blk off d w) (h : MergeIn (ltOf cf) l2 a m b d) (hm : m ≠ a + 1) (hm2 : b ≠ m + 1) (hmm : ¬ (a + b) / 2 < m) (fuel : Nat) (hf : b - a ≤ fuel + 1) (ih : ∀ (a m b : Nat) (d : Array α) (w : World), b - a ≤ fuel → d.size = N → SW enc w0 blk off d w → MergeIn (ltOf cf) l2 a m b d → Calls Tryz.prog 133 #[.slice (some ⟨blk, off, none⟩) N cap, .int .i64 a, .int .i64 m, .int .i64 b, .func (.func g) #[] cb] w fun e w' => e = .returned (.tuple #[]) ∧
   ∃ d', SW enc w0 blk off d' w' ∧ Merged l2 a b d d') :
  Calls Tryz.prog 133 #[.slice (some ⟨blk, off, none⟩) N cap, .int .i64 a, .int .i64 m, .int .i64 b, .func (.func g) #[] cb] w fun e w' => e = .returned (.tuple #[]) ∧
   ∃ d', SW enc w0 blk off d' w' ∧ Merged l2 a b d d' := by
 have hcl0 := R.hO.cells
 simp only [Value.cells] at hcl0
 have hst := R.hO.store Tryz.prog
 have mixed : Tryz.prog.follows Departure.mixedOrders = true := by kernel_rfl
 have HC : Aside _ := hcmp
 have S1 : Aside (SW enc w0 blk off d w) := S
 have ham := h.am
 have hmb := h.mb
 have hb : b ≤ N := by have := h.bs; omega
 have HMI := hI9 h
 clear S hcmp h
 have IH := hI9 ih
 clear ih
 have hq1 : ((m : Int) - (a : Int) == 1) = false := by simp; first | done | omega
 have hq2 : ((b : Int) - (m : Int) == 1) = false := by simp; first | done | omega
 obtain ⟨mid, hmid⟩ : ∃ q, q = (a + b) / 2 := ⟨_, rfl⟩
 have zmid : ((a : Int) + (b : Int)) / 2 = (mid : Int) := by omega
 have hmid1 : 2 * mid ≤ a + b := by omega
 have hmid2 : a + b ≤ 2 * mid + 1 := by omega
 have hm1 : a + 1 < m := by omega
 have hm3 : m + 1 < b := by omega
 have HMID := hI9 hmid
 clear hmid hm hm2
 have hmm : ¬ mid < m := by omega
 have hmz : ¬ (mid : Int) < (m : Int) := by omega
 go_enter Tryz.func133, Tryz.ntmps133
 go_wp2
 obtain ⟨lo, hlo⟩ : ∃ q, q = a := ⟨_, rfl⟩
 obtain ⟨hi, hhi⟩ : ∃ q, q = m := ⟨_, rfl⟩
 have hlo1 : lo ≤ a := by omega
 have hlo2 : a ≤ lo := by omega
 have hhi1 : hi ≤ m := by omega
 have hhi2 : m ≤ hi := by omega
 have HLO := hI9 hlo
 have HHI := hI9 hhi
 clear hlo hhi
 go_loopg [20, 21] (hi - lo) (fun gx x y wr => ∃ s r : Nat, x = .int .i64 s ∧ y = .int .i64 r ∧ lo ≤ s ∧ s ≤ r ∧ r ≤ hi ∧ r - s ≤ gx ∧ Aside (SW enc w0 blk off d wr) ∧ Aside ((s = lo ∨ l2 d[mid + m - s]! d[s - 1]! = false) ∧ (r = hi ∨ l2 d[mid + m - 1 - r]! d[r]! = true)))
 case atStart => exact ⟨lo, hi, by first | (rw [HLO.out]; done) | rfl | go_num | (congr 1; omega), by first | (rw [HHI.out]; done) | rfl | go_num | (congr 1; omega), Nat.le_refl _, by omega, Nat.le_refl _, Nat.le_refl _, S1, .inl rfl, .inl rfl⟩
 case round =>
  clear S1
  obtain ⟨s, r, rfl, rfl, hls, hsr, hrh, hg1, S1, HX⟩ := hrel
  by_cases hlt : s < r
  ·have hltz : (s : Int) < (r : Int) := by omega
   obtain ⟨c, hc⟩ : ∃ q, q = (s + r) / 2 := ⟨_, rfl⟩
   obtain ⟨pc, hpc⟩ : ∃ q, q = mid + m - 1 - c := ⟨_, rfl⟩
   have hc1 : s ≤ c := by omega
   have hc2 : c < r := by omega
   have zc : ((s : Int) + (r : Int)) / 2 = (c : Int) := by omega
   have zp : (mid : Int) + (m : Int) - 1 - (c : Int) = (pc : Int) := by omega
   have hp1 : pc + c + 1 ≤ mid + m := by omega
   have hp2 : mid + m ≤ pc + c + 1 := by omega
   have HPC := hI9 hpc
   clear hc hpc
   have ag := HMI.out.ag c pc (by omega) (by omega) (by omega) (by omega)
   cases hlv : ltOf cf d[pc]! d[c]! with
   | true =>
    rw [hlv] at ag
    have HX2 : Aside ((s = lo ∨ l2 d[mid + m - s]! d[s - 1]! = false) ∧ (c = hi ∨ l2 d[mid + m - 1 - c]! d[c]! = true)) := ⟨HX.out.1, .inr (by rw [← HPC.out]; exact ag.symm)⟩
    clear HX ag
    obtain ⟨iN7, hiN7⟩ : ∃ q, q = pc := ⟨_, rfl⟩
    obtain ⟨jN7, hjN7⟩ : ∃ q, q = c := ⟨_, rfl⟩
    have ea7 : ((pc : Int)).toNat = iN7 := by omega
    have pa7 : (0 : Int) ≤ (pc : Int) := by omega
    have ba7 : (pc : Int) < (N : Int) := by omega
    have ra7 : IntKind.i64.wrap ((pc : Int)) = (pc : Int) := by rw [IntKind.wrap_i64]; omega
    have ec7 : ((c : Int)).toNat = jN7 := by omega
    have pc7 : (0 : Int) ≤ (c : Int) := by omega
    have bc7 : (c : Int) < (N : Int) := by omega
    have rc7 : IntKind.i64.wrap ((c : Int)) = (c : Int) := by rw [IntKind.wrap_i64]; omega
    obtain ⟨x7, hx7⟩ : ∃ x, x = d[pc]! := ⟨_, rfl⟩
    obtain ⟨y7, hy7⟩ : ∃ x, x = d[c]! := ⟨_, rfl⟩
    have la7 := S1.out.cl R (by omega) (pc) (by omega)
    have lb7 := S1.out.cl R (by omega) (c) (by omega)
    rw [← hx7, ← hiN7] at la7
    rw [← hy7, ← hjN7] at lb7
    have hc7 := S1.out.cmp HC.out (by omega) x7 y7
    have hd7 : decide (cf x7 y7 < 0) = true := by rw [hx7, hy7]; exact hlv
    have hv7 : cf x7 y7 < 0 := of_decide_eq_true hd7
    clear hx7 hy7 hiN7 hjN7 hlv
    go_wp2_with fail
    go_quiet_grown (first | (go_at_fn g; refine Calls.grown_of (hc7 _ _)))
    have S2 : Aside (SW enc w0 blk off d (grow (wr.drewN nq) osq)) := S1.out.grown nq osq
    clear la7 lb7 hc7 S1
    generalize grow (wr.drewN nq) osq = w2 at S2 ⊢
    clear nq osq
    clear ea7 ec7 ra7 rc7 pa7 pc7 ba7 bc7 hv7
    go_wp2
    go_roundg (c - s)
    case measure => omega
    case rel => exact ⟨s, c, rfl, by first | rfl | go_num | (congr 1; omega), hls, by omega, by omega, Nat.le_refl _, S2, HX2⟩
   | false =>
    rw [hlv] at ag
    have HX2 : Aside ((c + 1 = lo ∨ l2 d[mid + m - (c + 1)]! d[c + 1 - 1]! = false) ∧ (r = hi ∨ l2 d[mid + m - 1 - r]! d[r]! = true)) := ⟨.inr (by rw [show mid + m - (c + 1) = pc by omega]; exact ag.symm), HX.out.2⟩
    clear HX ag
    obtain ⟨iN8, hiN8⟩ : ∃ q, q = pc := ⟨_, rfl⟩
    obtain ⟨jN8, hjN8⟩ : ∃ q, q = c := ⟨_, rfl⟩
    have ea8 : ((pc : Int)).toNat = iN8 := by omega
    have pa8 : (0 : Int) ≤ (pc : Int) := by omega
    have ba8 : (pc : Int) < (N : Int) := by omega
    have ra8 : IntKind.i64.wrap ((pc : Int)) = (pc : Int) := by rw [IntKind.wrap_i64]; omega
    have ec8 : ((c : Int)).toNat = jN8 := by omega
    have pc8 : (0 : Int) ≤ (c : Int) := by omega
    have bc8 : (c : Int) < (N : Int) := by omega
    have rc8 : IntKind.i64.wrap ((c : Int)) = (c : Int) := by rw [IntKind.wrap_i64]; omega
    obtain ⟨x8, hx8⟩ : ∃ x, x = d[pc]! := ⟨_, rfl⟩
    obtain ⟨y8, hy8⟩ : ∃ x, x = d[c]! := ⟨_, rfl⟩
    have la8 := S1.out.cl R (by omega) (pc) (by omega)
    have lb8 := S1.out.cl R (by omega) (c) (by omega)
    rw [← hx8, ← hiN8] at la8
    rw [← hy8, ← hjN8] at lb8
    have hc8 := S1.out.cmp HC.out (by omega) x8 y8
    have hd8 : decide (cf x8 y8 < 0) = false := by rw [hx8, hy8]; exact hlv
    have hv8 : ¬ cf x8 y8 < 0 := of_decide_eq_false hd8
    clear hx8 hy8 hiN8 hjN8 hlv
    go_wp2_with fail
    go_quiet_grown (first | (go_at_fn g; refine Calls.grown_of (hc8 _ _)))
    have S2 : Aside (SW enc w0 blk off d (grow (wr.drewN nq) osq)) := S1.out.grown nq osq
    clear la8 lb8 hc8 S1
    generalize grow (wr.drewN nq) osq = w2 at S2 ⊢
    clear nq osq
    clear ea8 ec8 ra8 rc8 pa8 pc8 ba8 bc8 hv8
    go_wp2
    go_roundg (r - (c + 1))
    case measure => omega
    case rel => exact ⟨c + 1, r, by first | rfl | go_num | (congr 1; omega), rfl, by omega, by omega, hrh, Nat.le_refl _, S2, HX2⟩
  ·have hltz : ¬ (s : Int) < (r : Int) := by omega
   obtain rfl : s = r := by omega
   have hcut := cut_of (lt := l2) (d := d) ham hmb HMID.out rfl (.inr ⟨by omega, HLO.out, HHI.out⟩) hls hrh HX.out.1 HX.out.2
   obtain ⟨e, he⟩ : ∃ q, q = mid + m - s := ⟨_, rfl⟩
   have ze : (mid : Int) + (m : Int) - (s : Int) = (e : Int) := by omega
   rw [← he] at hcut
   obtain ⟨cu, em, -, -⟩ := hcut
   have hcu := And.intro cu.p1 (And.intro cu.p2 (And.intro cu.p3 cu.p4))
   obtain ⟨hc1, hc2, hc3, hc4⟩ := hcu
   have EM := hI9 em
   have CU := hI9 cu
   clear cu em HX he
   by_cases hr : s < m ∧ m < e
   ·have hr1 : (s : Int) < (m : Int) := by omega
    have hr2 : (m : Int) < (e : Int) := by omega
    have hcr := fun w1 (h : SW enc w0 blk off d w1) => rotate_c enc g cb blk off cap s m e d0 d w0 w1 R (by omega) h hr.1 hr.2 (by omega) (by omega)
    rw [hs] at hcr
    have HCR := hI9 hcr
    clear hcr
    by_cases hl : a < s ∧ s < mid
    ·have hl1 : (a : Int) < (s : Int) := by omega
     have hl2 : (s : Int) < (mid : Int) := by omega
     by_cases hq : mid < e ∧ e < b
     ·have hr3 : (mid : Int) < (e : Int) := by omega
      have hr4 : (e : Int) < (b : Int) := by omega
      go_wp2_with (go_at_call 148; refine (HCR.out _ S1.out).mono ?_; rintro _ w2 ⟨rfl, d1, T1, M1, P1⟩; have MI := hI9 (sym_mid hS HMI.out CU.out EM.out M1); have PP := hI9 (permIn_up (a' := a) (b' := b) P1 (by omega) (by omega) HMI.out.bs))
      all_goals
       refine (IH.out a s mid d1 _ (by omega) (by have := MI.out.1; omega) T1 (MI.out.2.1 hl.1 hl.2)).mono ?_
       rintro _ w3 ⟨rfl, d2, T2, G2⟩
       go_wp2_with (fail)
       all_goals
        refine (IH.out mid e b d2 _ (by omega) (by have := MI.out.1; have := G2.p.1; omega) T2 ((MI.out.2.2.1 hq.1 hq.2).kept G2.p (Nat.le_refl _))).mono ?_
        rintro _ w4 ⟨rfl, d3, T3, G3⟩
        go_wp2_with (fail)
        all_goals
         ((try simp only [Exit.inBlock, Exit.then]); first | refine bodyPost_ret (results_none rfl _ _ _) rfl ?_ | refine bodyPost_end (results_none rfl _ _ _) rfl ?_)
         exact ⟨rfl, _, T3, sym_fin (by omega) (by omega) HMI.out.bs PP.out MI.out.2.2.2.2.2 G2 G3⟩
     ·have hr3 : (decide ((mid : Int) < (e : Int)) && decide ((e : Int) < (b : Int))) = false := by rw [Bool.and_eq_false_iff]; simp only [decide_eq_false_iff_not]; first | done | omega
      go_wp2_with (go_at_call 148; refine (HCR.out _ S1.out).mono ?_; rintro _ w2 ⟨rfl, d1, T1, M1, P1⟩; have MI := hI9 (sym_mid hS HMI.out CU.out EM.out M1); have PP := hI9 (permIn_up (a' := a) (b' := b) P1 (by omega) (by omega) HMI.out.bs))
      all_goals
       refine (IH.out a s mid d1 _ (by omega) (by have := MI.out.1; omega) T1 (MI.out.2.1 hl.1 hl.2)).mono ?_
       rintro _ w3 ⟨rfl, d2, T2, G2⟩
       go_wp2_with (fail)
       all_goals
        ((try simp only [Exit.inBlock, Exit.then]); first | refine bodyPost_ret (results_none rfl _ _ _) rfl ?_ | refine bodyPost_end (results_none rfl _ _ _) rfl ?_)
        have G3 := Merged.none (sorted_kept (MI.out.2.2.2.2.1 hq) G2.p (.inl (Nat.le_refl _)))
        have T3 := T2
        exact ⟨rfl, _, T3, sym_fin (by omega) (by omega) HMI.out.bs PP.out MI.out.2.2.2.2.2 G2 G3⟩
    ·have hl1 : (decide ((a : Int) < (s : Int)) && decide ((s : Int) < (mid : Int))) = false := by rw [Bool.and_eq_false_iff]; simp only [decide_eq_false_iff_not]; first | done | omega
     by_cases hq : mid < e ∧ e < b
     ·have hr3 : (mid : Int) < (e : Int) := by omega
      have hr4 : (e : Int) < (b : Int) := by omega
      go_wp2_with (go_at_call 148; refine (HCR.out _ S1.out).mono ?_; rintro _ w2 ⟨rfl, d1, T1, M1, P1⟩; have MI := hI9 (sym_mid hS HMI.out CU.out EM.out M1); have PP := hI9 (permIn_up (a' := a) (b' := b) P1 (by omega) (by omega) HMI.out.bs))
      all_goals
       refine (IH.out mid e b d1 _ (by omega) (by have := MI.out.1; omega) T1 (MI.out.2.2.1 hq.1 hq.2)).mono ?_
       rintro _ w4 ⟨rfl, d3, T3, G3⟩
       go_wp2_with (fail)
       all_goals
        ((try simp only [Exit.inBlock, Exit.then]); first | refine bodyPost_ret (results_none rfl _ _ _) rfl ?_ | refine bodyPost_end (results_none rfl _ _ _) rfl ?_)
        have G2 := Merged.none (MI.out.2.2.2.1 hl)
        have T2 := T1
        exact ⟨rfl, _, T3, sym_fin (by omega) (by omega) HMI.out.bs PP.out MI.out.2.2.2.2.2 G2 G3⟩
     ·have hr3 : (decide ((mid : Int) < (e : Int)) && decide ((e : Int) < (b : Int))) = false := by rw [Bool.and_eq_false_iff]; simp only [decide_eq_false_iff_not]; first | done | omega
      go_wp2_with (go_at_call 148; refine (HCR.out _ S1.out).mono ?_; rintro _ w2 ⟨rfl, d1, T1, M1, P1⟩; have MI := hI9 (sym_mid hS HMI.out CU.out EM.out M1); have PP := hI9 (permIn_up (a' := a) (b' := b) P1 (by omega) (by omega) HMI.out.bs))
      all_goals
       ((try simp only [Exit.inBlock, Exit.then]); first | refine bodyPost_ret (results_none rfl _ _ _) rfl ?_ | refine bodyPost_end (results_none rfl _ _ _) rfl ?_)
       have G2 := Merged.none (MI.out.2.2.2.1 hl)
       have T2 := T1
       have G3 := Merged.none (sorted_kept (MI.out.2.2.2.2.1 hq) G2.p (.inl (Nat.le_refl _)))
       have T3 := T2
       exact ⟨rfl, _, T3, sym_fin (by omega) (by omega) HMI.out.bs PP.out MI.out.2.2.2.2.2 G2 G3⟩
   ·have MI := hI9 (sym_mid hS HMI.out CU.out EM.out (PermIn.moved_none (d := d) (a := s) (m := m) (b := e) (by omega) (by omega)))
    have PP := hI9 (permIn_refl d a b)
    have T1 := S1.out
    have hr1 : (decide ((s : Int) < (m : Int)) && decide ((m : Int) < (e : Int))) = false := by rw [Bool.and_eq_false_iff]; simp only [decide_eq_false_iff_not]; first | done | omega
    by_cases hl : a < s ∧ s < mid
    ·have hl1 : (a : Int) < (s : Int) := by omega
     have hl2 : (s : Int) < (mid : Int) := by omega
     by_cases hq : mid < e ∧ e < b
     ·have hr3 : (mid : Int) < (e : Int) := by omega
      have hr4 : (e : Int) < (b : Int) := by omega
      go_wp2_with (fail)
      all_goals
       refine (IH.out a s mid d _ (by omega) (by have := MI.out.1; omega) T1 (MI.out.2.1 hl.1 hl.2)).mono ?_
       rintro _ w3 ⟨rfl, d2, T2, G2⟩
       go_wp2_with (fail)
       all_goals
        refine (IH.out mid e b d2 _ (by omega) (by have := MI.out.1; have := G2.p.1; omega) T2 ((MI.out.2.2.1 hq.1 hq.2).kept G2.p (Nat.le_refl _))).mono ?_
        rintro _ w4 ⟨rfl, d3, T3, G3⟩
        go_wp2_with (fail)
        all_goals
         ((try simp only [Exit.inBlock, Exit.then]); first | refine bodyPost_ret (results_none rfl _ _ _) rfl ?_ | refine bodyPost_end (results_none rfl _ _ _) rfl ?_)
         exact ⟨rfl, _, T3, sym_fin (by omega) (by omega) HMI.out.bs PP.out MI.out.2.2.2.2.2 G2 G3⟩
     ·have hr3 : (decide ((mid : Int) < (e : Int)) && decide ((e : Int) < (b : Int))) = false := by rw [Bool.and_eq_false_iff]; simp only [decide_eq_false_iff_not]; first | done | omega
      go_wp2_with (fail)
      all_goals
       refine (IH.out a s mid d _ (by omega) (by have := MI.out.1; omega) T1 (MI.out.2.1 hl.1 hl.2)).mono ?_
       rintro _ w3 ⟨rfl, d2, T2, G2⟩
       go_wp2_with (fail)
       all_goals
        ((try simp only [Exit.inBlock, Exit.then]); first | refine bodyPost_ret (results_none rfl _ _ _) rfl ?_ | refine bodyPost_end (results_none rfl _ _ _) rfl ?_)
        have G3 := Merged.none (sorted_kept (MI.out.2.2.2.2.1 hq) G2.p (.inl (Nat.le_refl _)))
        have T3 := T2
        exact ⟨rfl, _, T3, sym_fin (by omega) (by omega) HMI.out.bs PP.out MI.out.2.2.2.2.2 G2 G3⟩
    ·have hl1 : (decide ((a : Int) < (s : Int)) && decide ((s : Int) < (mid : Int))) = false := by rw [Bool.and_eq_false_iff]; simp only [decide_eq_false_iff_not]; first | done | omega
     by_cases hq : mid < e ∧ e < b
     ·have hr3 : (mid : Int) < (e : Int) := by omega
      have hr4 : (e : Int) < (b : Int) := by omega
      go_wp2_with (fail)
      all_goals
       refine (IH.out mid e b d _ (by omega) (by have := MI.out.1; omega) T1 (MI.out.2.2.1 hq.1 hq.2)).mono ?_
       rintro _ w4 ⟨rfl, d3, T3, G3⟩
       go_wp2_with (fail)
       all_goals
        ((try simp only [Exit.inBlock, Exit.then]); first | refine bodyPost_ret (results_none rfl _ _ _) rfl ?_ | refine bodyPost_end (results_none rfl _ _ _) rfl ?_)
        have G2 := Merged.none (MI.out.2.2.2.1 hl)
        have T2 := T1
        exact ⟨rfl, _, T3, sym_fin (by omega) (by omega) HMI.out.bs PP.out MI.out.2.2.2.2.2 G2 G3⟩
     ·have hr3 : (decide ((mid : Int) < (e : Int)) && decide ((e : Int) < (b : Int))) = false := by rw [Bool.and_eq_false_iff]; simp only [decide_eq_false_iff_not]; first | done | omega
      go_wp2_with (fail)
      all_goals
       ((try simp only [Exit.inBlock, Exit.then]); first | refine bodyPost_ret (results_none rfl _ _ _) rfl ?_ | refine bodyPost_end (results_none rfl _ _ _) rfl ?_)
       have G2 := Merged.none (MI.out.2.2.2.1 hl)
       have T2 := T1
       have G3 := Merged.none (sorted_kept (MI.out.2.2.2.2.1 hq) G2.p (.inl (Nat.le_refl _)))
       have T3 := T2
       exact ⟨rfl, _, T3, sym_fin (by omega) (by omega) HMI.out.bs PP.out MI.out.2.2.2.2.2 G2 G3⟩
theorem symMerge_c (enc : α → Value) (cf : α → α → Int) (g : Nat) (cb : Array Value) (blk off cap N : Nat) (d0 : Array α) (w0 : World) {l2 : α → α → Bool} (hS : SWO l2)
  (eg : ∀ args w, (callFunc g args).run Tryz.prog w = .ok (.enter g args) w) (hcmp : CmpLays1 Tryz.prog g cb enc cf blk off d0.size w0) (R : Row1 enc w0 blk off d0) (hN : d0.size = N) (hsz : N < 4611686018427387904) :
  ∀ (fuel a m b : Nat) (d : Array α) (w : World), b - a ≤ fuel → d.size = N → SW enc w0 blk off d w → MergeIn (ltOf cf) l2 a m b d →
  Calls Tryz.prog 133 #[.slice (some ⟨blk, off, none⟩) N cap, .int .i64 a, .int .i64 m, .int .i64 b, .func (.func g) #[] cb] w fun e w' => e = .returned (.tuple #[]) ∧
   ∃ d', SW enc w0 blk off d' w' ∧ Merged l2 a b d d' := by
 intro fuel
 induction fuel with
 | zero => intro a m b d w hf _ _ h; have := h.am; have := h.mb; omega
 | succ fuel ih =>
 intro a m b d w hf hs S h
 by_cases hm : m = a + 1
 ·exact sym1_c enc cf g cb blk off cap N d0 w0 hS eg hcmp R hN hsz a m b d w hs S h hm
 ·by_cases hm2 : b = m + 1
  ·exact sym2_c enc cf g cb blk off cap N d0 w0 hS eg hcmp R hN hsz a m b d w hs S h hm hm2
  ·by_cases hmm : (a + b) / 2 < m
   ·exact sym3_c enc cf g cb blk off cap N d0 w0 hS eg hcmp R hN hsz a m b d w hs S h hm hm2 hmm fuel hf ih
   ·exact sym4_c enc cf g cb blk off cap N d0 w0 hS eg hcmp R hN hsz a m b d w hs S h hm hm2 hmm fuel hf ih
end Go.Proofs.YtlabfpjlckdmfaaGreat
