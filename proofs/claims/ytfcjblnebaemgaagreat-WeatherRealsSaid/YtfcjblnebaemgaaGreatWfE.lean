/- Plain law: behind the last sight of a place what may be is near it. -/
import Derived.Test.YtfcjblnebaemgaaGreatWfB
set_option linter.all false
namespace Go.Proofs.YtfcjblnebaemgaaGreat
open Go Go.RowKit Go.Proofs

theorem keyLe_trans (key : Nat → Int) (a b c : Nat) (h1 : (!keyLt key (fun i => (i : Int)) b a) = true) (h2 : (!keyLt key (fun i => (i : Int)) c b) = true) : (!keyLt key (fun i => (i : Int)) c a) = true := by
  unfold keyLt at *
  simp only [Bool.not_eq_true', Bool.or_eq_false_iff, Bool.and_eq_false_iff, decide_eq_false_iff_not] at *
  omega
theorem keyLe_total (key : Nat → Int) (a b : Nat) : ((!keyLt key (fun i => (i : Int)) b a) || (!keyLt key (fun i => (i : Int)) a b)) = true := by
  unfold keyLt
  simp only [Bool.or_eq_true, Bool.not_eq_true', Bool.or_eq_false_iff, Bool.and_eq_false_iff, decide_eq_false_iff_not]
  omega
theorem stab_pair (key : Nat → Int) (l : List Nat) : (stab key l).Pairwise fun a b => (!keyLt key (fun i => (i : Int)) b a) = true := by
  unfold stab
  exact List.pairwise_mergeSort (keyLe_trans key) (keyLe_total key) l
/-- The greatest one stands last. -/
theorem stab_last {key : Nat → Int} {l : List Nat} {n : Nat} (hn : n ∈ l) (hmax : ∀ i ∈ l, key i < key n ∨ (key i = key n ∧ i ≤ n)) : ∃ l', stab key l = l' ++ [n] := by
  have hmem : n ∈ stab key l := stab_mem.2 hn
  have hne : stab key l ≠ [] := fun h => by rw [h] at hmem; cases hmem
  have hs := List.dropLast_concat_getLast hne
  refine ⟨(stab key l).dropLast, ?_⟩
  have hp := stab_pair key l
  rw [← hs] at hp hmem
  have hlast : (stab key l).getLast hne ∈ l := stab_mem.1 (List.getLast_mem hne)
  have hm := hmax _ hlast
  rcases List.mem_append.1 hmem with h | h
  · have h2 := (List.pairwise_append.1 hp).2.2 n h _ (List.mem_singleton.2 rfl)
    unfold keyLt at h2
    simp only [Bool.not_eq_true', Bool.or_eq_false_iff, Bool.and_eq_false_iff, decide_eq_false_iff_not] at h2
    have e : (stab key l).getLast hne = n := by omega
    rw [e] at hs; exact hs.symm
  · rw [← List.mem_singleton.1 h] at hs; exact hs.symm
theorem cu_one {al ah v : Int} : cuL al ah v v = v ∧ cuH al ah v v = v := by
  unfold cuL cuH
  split <;> omega
theorem cu_in {al ah bl bh : Int} : bl ≤ cuL al ah bl bh ∧ cuH al ah bl bh ≤ bh := by
  unfold cuL cuH
  split <;> omega
theorem ne_zero {v m : Int} (h0 : 0 ≤ v) (h1 : v ≤ m) : neL v 0 m = v ∧ neH v 0 m = v := by unfold neL neH; omega
theorem ne_near {v d m : Int} (h0 : 0 ≤ v) (h1 : v ≤ m) (h2 : 0 ≤ d) : v - d ≤ neL v d m ∧ neH v d m ≤ v + d := by unfold neL neH; omega
theorem nearB_iff {a b n d : Int} : nearB a b n d = true ↔ n - d ≤ a ∧ b ≤ n + d := by
  unfold nearB; rw [Bool.and_eq_true, decide_eq_true_eq, decide_eq_true_eq]
section
variable {M : MetD} {n : Nat} (hb : M.bad = false) (hn : n < M.m) (hmax : ∀ i, i < M.m → M.E i 0 = M.E n 0 → M.E i 1 < M.E n 1 ∨ (M.E i 1 = M.E n 1 ∧ i ≤ n))
include hb hn
theorem seen_at {k : Int} (h0 : 0 ≤ k) (h1 : k ≤ 2000 - M.E n 1) : atE M (M.E n 0) (M.E n 1 + k) = 0 := by
  have hM := MetD.ok_of hb
  have q1 := hM.sp n hn
  have q2 := hM.sa n hn
  unfold atE
  rw [hb, inB_iff.2 q1, inB_iff.2 (show 0 ≤ M.E n 1 + k ∧ M.E n 1 + k ≤ 2000 by omega)]
  rfl
include hmax
theorem seen_may {k : Int} (h0 : 0 ≤ k) (h1 : k ≤ 2000 - M.E n 1) : ∃ x : Sk, mayV M (M.E n 0) (M.E n 1 + k) = M.stepS (M.E n 1 + k) x n := by
  unfold mayV
  rw [seen_at hb hn h0 h1, if_pos rfl]
  unfold MetD.may
  obtain ⟨l', e⟩ := stab_last (key := fun i => M.E i 1) (l := M.sen (M.E n 0) (M.E n 1 + k) M.m) (n := n) (by
      unfold MetD.sen
      refine List.mem_filter.2 ⟨List.mem_range.2 hn, ?_⟩
      unfold MetD.senP
      simp only [decide_true, Bool.true_and, decide_eq_true_eq]
      omega) (fun i hi => by
      unfold MetD.sen at hi
      have h2 := List.mem_filter.1 hi
      have h3 := h2.2
      unfold MetD.senP at h3
      simp only [Bool.and_eq_true, decide_eq_true_eq] at h3
      exact hmax i (List.mem_range.1 h2.1) h3.1)
  unfold MetD.ordS
  rw [e, List.foldl_append]
  exact ⟨_, rfl⟩
theorem seen_now : mayV M (M.E n 0) (M.E n 1) = ⟨M.E n 2, M.E n 2, M.E n 3, M.E n 3, M.E n 4, M.E n 4, M.C n 5, M.C n 6⟩ := by
  have hM := MetD.ok_of hb
  have q := hM.sa n hn
  obtain ⟨x, e⟩ := seen_may hb hn hmax (k := 0) (by omega) (by omega)
  rw [Int.add_zero] at e
  rw [e]
  unfold MetD.stepS
  rw [if_pos (by omega)]
  have w := hM.sw n hn
  have s := hM.ss n hn
  have c := hM.sc n hn
  unfold Sk.cut MetD.si
  simp only [Int.sub_self, Int.zero_mul, (ne_zero w.1 w.2).1, (ne_zero w.1 w.2).2, (ne_zero s.1 s.2).1, (ne_zero s.1 s.2).2, (ne_zero c.1 c.2).1, (ne_zero c.1 c.2).2, cu_one.1, cu_one.2]
theorem seen_then {k : Int} (h0 : 0 ≤ k) (h1 : k ≤ 2000 - M.E n 1) : ∃ a0 a1 a2 a3 a4 a5 i s, mayV M (M.E n 0) (M.E n 1 + k) = ⟨a0, a1, a2, a3, a4, a5, i, s⟩ ∧ nearB a0 a1 (M.E n 2) (k * M.mw) = true ∧ nearB a2 a3 (M.E n 3) (k * M.ms) = true ∧ nearB a4 a5 (M.E n 4) (k * M.mc) = true := by
  have hM := MetD.ok_of hb
  obtain ⟨x, e⟩ := seen_may hb hn hmax h0 h1
  rw [e]
  have w := hM.sw n hn
  have s := hM.ss n hn
  have c := hM.sc n hn
  have e1 : M.E n 1 + k - M.E n 1 = k := by omega
  have p1 := ne_near w.1 w.2 (Int.mul_nonneg h0 hM.mw.1)
  have p2 := ne_near s.1 s.2 (Int.mul_nonneg h0 hM.ms.1)
  have p3 := ne_near c.1 c.2 (Int.mul_nonneg h0 hM.mc.1)
  have r1 := cu_in (al := x.a0) (ah := x.a1) (bl := neL (M.E n 2) (k * M.mw) 300) (bh := neH (M.E n 2) (k * M.mw) 300)
  have r2 := cu_in (al := x.a2) (ah := x.a3) (bl := neL (M.E n 3) (k * M.ms) 20000) (bh := neH (M.E n 3) (k * M.ms) 20000)
  have r3 := cu_in (al := x.a4) (ah := x.a5) (bl := neL (M.E n 4) (k * M.mc) 20000) (bh := neH (M.E n 4) (k * M.mc) 20000)
  have key : ∀ y : Sk, y.a0 = (x.cut (M.si (M.E n 1 + k) n)).a0 → y.a1 = (x.cut (M.si (M.E n 1 + k) n)).a1 → y.a2 = (x.cut (M.si (M.E n 1 + k) n)).a2 → y.a3 = (x.cut (M.si (M.E n 1 + k) n)).a3 → y.a4 = (x.cut (M.si (M.E n 1 + k) n)).a4 → y.a5 = (x.cut (M.si (M.E n 1 + k) n)).a5 →
      nearB y.a0 y.a1 (M.E n 2) (k * M.mw) = true ∧ nearB y.a2 y.a3 (M.E n 3) (k * M.ms) = true ∧ nearB y.a4 y.a5 (M.E n 4) (k * M.mc) = true := by
    intro y y0 y1 y2 y3 y4 y5
    unfold Sk.cut MetD.si at y0 y1 y2 y3 y4 y5
    simp only [e1] at y0 y1 y2 y3 y4 y5
    rw [nearB_iff, nearB_iff, nearB_iff, y0, y1, y2, y3, y4, y5]
    omega
  unfold MetD.stepS
  split
  · exact ⟨_, _, _, _, _, _, _, _, rfl, key ⟨_, _, _, _, _, _, M.C n 5, M.C n 6⟩ rfl rfl rfl rfl rfl rfl⟩
  · exact ⟨_, _, _, _, _, _, _, _, rfl, key ⟨_, _, _, _, _, _, x.i, x.s⟩ rfl rfl rfl rfl rfl rfl⟩
end
end Go.Proofs.YtfcjblnebaemgaaGreat
