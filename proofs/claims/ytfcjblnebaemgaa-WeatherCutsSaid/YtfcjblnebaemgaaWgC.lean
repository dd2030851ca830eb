/- Plain law: with one more forecast that is issued behind all others and is not strange, what may be is not more. -/
import Derived.Test.YtfcjblnebaemgaaWfE
import Derived.Test.YtfcjblnebaemgaaWgB
set_option linter.all false
namespace Go.Proofs.Ytfcjblnebaemgaa
open Go Go.RowKit Go.Proofs

theorem keyLe_anti {key : Nat → Int} {a b : Nat} (h1 : (!keyLt key (fun i => (i : Int)) b a) = true) (h2 : (!keyLt key (fun i => (i : Int)) a b) = true) : a = b := by
  unfold keyLt at *
  simp only [Bool.not_eq_true', Bool.or_eq_false_iff, Bool.and_eq_false_iff, decide_eq_false_iff_not] at *
  omega
theorem stab_perm (key : Nat → Int) (l : List Nat) : (stab key l).Perm l := by unfold stab; exact List.mergeSort_perm _ _
/-- The one order. -/
theorem stab_unique {key : Nat → Int} {l l' : List Nat} (hp : l'.Perm l) (hs : l'.Pairwise fun a b => (!keyLt key (fun i => (i : Int)) b a) = true) : stab key l = l' :=
  List.Perm.eq_of_pairwise (le := fun a b => (!keyLt key (fun i => (i : Int)) b a) = true) (fun a b _ _ h1 h2 => keyLe_anti h1 h2) (stab_pair key l) hs ((stab_perm key l).trans hp.symm)
theorem stab_congr {key key' : Nat → Int} {l : List Nat} (h : ∀ i ∈ l, key' i = key i) : stab key' l = stab key l := by
  refine stab_unique (stab_perm key l) ?_
  refine (stab_pair key l).imp_of_mem (fun {a b} ha hb hab => ?_)
  have e1 := h a (stab_mem.1 ha)
  have e2 := h b (stab_mem.1 hb)
  unfold keyLt at *
  rw [e1, e2]
  exact hab
theorem stab_snoc {key key' : Nat → Int} {l : List Nat} {n : Nat} (h : ∀ i ∈ l, key' i = key i) (hl : ∀ i ∈ l, i < n) (hn : ∀ i ∈ l, key i ≤ key' n) : stab key' (l ++ [n]) = stab key l ++ [n] := by
  refine stab_unique ((stab_perm key l).append_right [n]) ?_
  rw [List.pairwise_append]
  refine ⟨?_, List.pairwise_singleton _ _, ?_⟩
  · rw [← stab_congr h]; exact stab_pair key' l
  · intro a ha b hb
    obtain rfl := List.mem_singleton.1 hb
    have ha' := stab_mem.1 ha
    have h1 := h a ha'
    have h2 := hl a ha'
    have h3 := hn a ha'
    unfold keyLt
    simp only [Bool.not_eq_true', Bool.or_eq_false_iff, Bool.and_eq_false_iff, decide_eq_false_iff_not]
    omega
/-- A met with one more forecast. -/
def MetD.plus (M : MetD) (d : Nat → Int) (b : Nat → Bool) : MetD := { M with n := M.n + 1, D := fun i j => if i < M.n then M.D i j else d j, B := fun i j => if i < M.n then M.B i j else b j }
section
variable {M : MetD} {d : Nat → Int} {b : Nat → Bool}
theorem plus_D {i j : Nat} (h : i < M.n) : (M.plus d b).D i j = M.D i j := by show (if i < M.n then _ else _) = _; rw [if_pos h]
theorem plus_B {i j : Nat} (h : i < M.n) : (M.plus d b).B i j = M.B i j := by show (if i < M.n then _ else _) = _; rw [if_pos h]
theorem plus_Dn {j : Nat} : (M.plus d b).D M.n j = d j := by show (if M.n < M.n then _ else _) = _; rw [if_neg (by omega)]
theorem plus_Bn {j : Nat} : (M.plus d b).B M.n j = b j := by show (if M.n < M.n then _ else _) = _; rw [if_neg (by omega)]
theorem plus_cov (p t : Int) : (M.plus d b).cov p t M.n = M.cov p t M.n := by
  unfold MetD.cov
  refine List.filter_congr (fun i hi => ?_)
  have := List.mem_range.1 hi
  unfold MetD.covP
  rw [plus_D this, plus_D this, plus_D this]
theorem plus_fc {i : Nat} (h : i < M.n) : (M.plus d b).fc i = M.fc i := by
  unfold MetD.fc
  rw [plus_D h, plus_D h, plus_D h, plus_D h, plus_D h, plus_D h, plus_B h, plus_B h]
theorem plus_step {i : Nat} (h : i < M.n) (x : Sk) : (M.plus d b).stepF x i = M.stepF x i := by
  unfold MetD.stepF
  rw [plus_fc h, plus_B h, plus_B h]
theorem plus_fold (l : List Nat) (hl : ∀ i ∈ l, i < M.n) : ∀ x : Sk, l.foldl (M.plus d b).stepF x = l.foldl M.stepF x := by
  induction l with
  | nil => intro x; rfl
  | cons i l ih =>
    intro x
    rw [List.foldl_cons, List.foldl_cons, plus_step (hl i (by simp)), ih (fun j hj => hl j (by simp [hj]))]
theorem odd_snoc (M : MetD) (n : Nat) : ∀ (l : List Nat) (x : Sk), n ∉ M.oddF x (l ++ [n]) → (l.foldl M.stepF x).odd (M.fc n) = false
  | [], x, h => by
    cases hq : x.odd (M.fc n)
    · exact hq
    · rw [List.nil_append] at h; unfold MetD.oddF at h; rw [hq, if_pos rfl] at h; simp at h
  | i :: l, x, h => by
    rw [List.foldl_cons]
    refine odd_snoc M n l _ (fun hm => h ?_)
    rw [List.cons_append]
    unfold MetD.oddF
    split
    · exact List.mem_cons_of_mem _ hm
    · exact hm
theorem cu_sub {al ah bl bh : Int} (h : cuF al ah bl bh = false) : insP (cuL al ah bl bh) (cuH al ah bl bh) al ah = true := by
  unfold cuF at h
  simp only [Bool.not_eq_false', decide_eq_true_eq] at h
  unfold insP cuL cuH
  rw [if_pos h, if_pos h, Bool.and_eq_true, decide_eq_true_eq, decide_eq_true_eq]
  omega
theorem insP_refl (a c : Int) : insP a c a c = true := by unfold insP; simp
theorem part_refl (x : Sk) : partB x x = true := by
  unfold partB
  rw [insP_refl, insP_refl, insP_refl]
  cases x.i <;> cases x.s <;> rfl
theorem part_cut (M : MetD) (x : Sk) (n : Nat) (h : x.odd (M.fc n) = false) : partB (M.stepF x n) x = true := by
  unfold Sk.odd skF at h
  simp only [Bool.or_eq_false_iff] at h
  unfold partB MetD.stepF Sk.cut
  dsimp only
  rw [cu_sub h.1, cu_sub h.2.1, cu_sub h.2.2]
  cases x.i <;> cases x.s <;> simp
theorem cuts_law {p t : Int} (hi : ∀ i, i < M.n → M.D i 3 ≤ d 3) (hs : ∀ i, i < M.m → M.E i 0 ≠ p) (h1 : atE M p t = 0) (h2 : atE (M.plus d b) p t = 0) (ho : M.n ∉ (M.plus d b).odd p t) : partB (mayV (M.plus d b) p t) (mayV M p t) = true := by
  unfold mayV
  rw [if_pos h1, if_pos h2]
  have s1 : ∀ M' : MetD, M'.m = M.m → (∀ i, i < M.m → M'.E i 0 = M.E i 0) → M'.ordS p t = [] := by
    intro M' hm hE
    unfold MetD.ordS
    have : M'.sen p t M'.m = [] := by
      unfold MetD.sen
      rw [List.filter_eq_nil_iff]
      intro i hi'
      have hlt := List.mem_range.1 hi'
      rw [hm] at hlt
      unfold MetD.senP
      rw [hE i hlt, decide_eq_false (hs i hlt)]
      simp
    rw [this, stab_nil]
  unfold MetD.may
  rw [s1 M rfl (fun _ _ => rfl), s1 (M.plus d b) rfl (fun _ _ => rfl)]
  show partB ((M.plus d b).skyF _) (M.skyF _) = true
  unfold MetD.odd at ho
  unfold MetD.skyF
  have hcl : ∀ i ∈ M.cov p t M.n, i < M.n := fun i hi => M.cov_lt hi
  have hol : ∀ i ∈ M.ordF p t, i < M.n := fun i hi => by unfold MetD.ordF at hi; exact hcl i (stab_mem.1 hi)
  have hk : ∀ i ∈ M.cov p t M.n, (fun i => (M.plus d b).D i 3) i = (fun i => M.D i 3) i := fun i hi => plus_D (hcl i hi)
  have hcov : (M.plus d b).cov p t (M.plus d b).n = M.cov p t M.n ++ (if (M.plus d b).covP p t M.n then [M.n] else []) := by
    show (M.plus d b).cov p t (M.n + 1) = _
    rw [MetD.cov_succ, plus_cov]
  cases hc : (M.plus d b).covP p t M.n
  · have e : (M.plus d b).ordF p t = M.ordF p t := by
      unfold MetD.ordF
      rw [hcov, hc, if_neg (by decide), List.append_nil, stab_congr hk]
    rw [e, plus_fold _ hol]
    exact part_refl _
  · have e : (M.plus d b).ordF p t = M.ordF p t ++ [M.n] := by
      unfold MetD.ordF
      rw [hcov, hc, if_pos rfl, stab_snoc hk hcl (fun i hi' => by show M.D i 3 ≤ (M.plus d b).D M.n 3; rw [plus_Dn]; exact hi i (hcl i hi'))]
    rw [e] at ho ⊢
    have h := odd_snoc (M.plus d b) M.n _ _ ho
    rw [List.foldl_append]
    have := part_cut (M.plus d b) _ M.n h
    rw [plus_fold _ hol] at this ⊢
    exact this
theorem plus_row {j : Nat} : fcV (M.plus d b).D (M.plus d b).B M.n j = if j < 10 then .int .i64 (d j) else .bool (b j) := by
  unfold fcV; rw [plus_Dn, plus_Bn]
theorem plus_list : fcL M.D M.B M.n ++ (List.range 12).map (fun j => if j < 10 then Value.int .i64 (d j) else .bool (b j)) = fcL (M.plus d b).D (M.plus d b).B (M.n + 1) := by
  unfold fcL
  rw [Nat.add_mul, Nat.one_mul, List.range_add, List.map_append, List.map_map]
  congr 1
  · refine List.map_congr_left (fun q hq => ?_)
    have : q / 12 < M.n := Nat.div_lt_of_lt_mul (by rw [Nat.mul_comm]; exact List.mem_range.1 hq)
    unfold fcV
    rw [plus_D this, plus_B this]
  · refine List.map_congr_left (fun q hq => ?_)
    have hq' := List.mem_range.1 hq
    show _ = fcV _ _ ((M.n * 12 + q) / 12) ((M.n * 12 + q) % 12)
    rw [Nat.mul_comm, Nat.mul_add_div (by omega), Nat.mul_add_mod, Nat.div_eq_of_lt hq', Nat.mod_eq_of_lt hq', Nat.add_zero, plus_row]
end
end Go.Proofs.Ytfcjblnebaemgaa
