/- Texts joined: JAX. -/
import Derived.Test.YtonfnhonbnfdoaaGreatJAW
import Derived.Test.YtonfnhonbnfdoaaGreatJAV
import Derived.Test.YtonfnhonbnfdoaaGreatJAU
set_option linter.all false
namespace Go.Proofs.YtonfnhonbnfdoaaGreat
open Go Go.RowKit Go.Proofs
set_option maxRecDepth 100000
theorem prfR_iff {bf : Int → Option HavD} : ∀ (n : Nat) (t : Int) (l : List HavD), (prfR bf n t l).2.2 = true ↔ ∀ q : Int, t ≤ q → q < t + (n : Nat) → (bf q).isSome = true
  | 0, t, l => ⟨fun _ q h1 h2 => absurd h2 (by omega), fun _ => rfl⟩
  | n + 1, t, l => by
    unfold prfR
    cases e : bf t with
    | none =>
      dsimp only
      refine ⟨fun h => absurd h (by decide), fun h => ?_⟩
      have := h t (Int.le_refl _) (by omega)
      rw [e] at this; exact absurd this (by decide)
    | some x =>
      dsimp only
      rw [prfR_iff n (t + 1) (l ++ [x])]
      refine ⟨fun h q h1 h2 => ?_, fun h q h1 h2 => h q (by omega) (by omega)⟩
      by_cases hq : q = t
      · rw [hq, e]; rfl
      · exact h q (by omega) (by omega)
/-- Two flights that are the same way at the same time. -/
structure FliD.Like (F G : FliD) : Prop where
  m : F.m = G.m
  r : F.R = G.R
  d : F.dep = G.dep
theorem FliD.Like.at_ {F G : FliD} (h : F.Like G) (lt : Tab) : ∀ i, F.at_ lt i = G.at_ lt i
  | 0 => h.d
  | i + 1 => by
    unfold FliD.at_
    rw [h.at_ lt i, h.r]
theorem FliD.Like.ix {F G : FliD} (h : F.Like G) (lt : Tab) (t : Int) : ∀ i, F.ix lt t i = G.ix lt t i
  | 0 => rfl
  | i + 1 => by
    unfold FliD.ix
    rw [h.at_ lt (i + 1), h.ix lt t i]
theorem FliD.Like.reach {F G : FliD} (h : F.Like G) (lt tt : Tab) (t : Int) (p : Nat) : F.reach lt tt t p = G.reach lt tt t p := by
  unfold FliD.reach
  rw [h.m, h.ix]
  simp only [h.at_, h.r]
theorem FliD.Like.hav1 {F G : FliD} (h : F.Like G) (lt tt : Tab) (t : Int) (p : Nat) : F.hav1 lt tt t p = G.hav1 lt tt t p := by
  unfold FliD.hav1
  rw [h.reach]
theorem FliD.Like.arr {F G : FliD} (h : F.Like G) (lt : Tab) : F.arr lt = G.arr lt := by
  unfold FliD.arr
  rw [h.m, h.at_]
theorem FliD.Like.ticks {F G : FliD} (h : F.Like G) (lt : Tab) : F.ticks lt = G.ticks lt := by
  unfold FliD.ticks
  rw [h.arr, h.d]
theorem FliD.Like.dry {F G : FliD} (h : F.Like G) (lt tt : Tab) (op : Nat → Int → Bool) (t : Int) : ∀ k, F.havK lt tt op t true k = G.havK lt tt op t true k
  | 0 => rfl
  | k + 1 => by
    unfold FliD.havK FliD.havB
    rw [h.dry lt tt op t k, h.reach, h.hav1]
    simp only [Bool.true_or]
theorem FliD.Like.ok {F G : FliD} (h : F.Like G) {P : Nat} {lt : Tab} (hok : F.ok P lt) (hn : G.nums = true) : G.ok P lt := by
  refine ⟨hn, ?_, ?_⟩
  · have := hok.2.1
    unfold FliD.flown at *
    rw [← h.m, ← h.r]; exact this
  · rw [← h.m, ← h.at_]; exact hok.2.2
theorem FliD.havK_is {F : FliD} {lt tt : Tab} {op : Nat → Int → Bool} {t : Int} {dry : Bool} : ∀ k, (bestL (F.havK lt tt op t dry k)).isSome = true ↔ ∃ p, p < k ∧ F.havB lt tt op t dry p = true := fun k => by
  constructor
  · intro h
    cases e : bestL (F.havK lt tt op t dry k) with
    | none => rw [e] at h; exact absurd h (by decide)
    | some x =>
      obtain ⟨p, p1, -, p2⟩ := FliD.havK_mem k (bestL_some e).1
      exact ⟨p, p1, p2⟩
  · rintro ⟨p, p1, p2⟩
    have hmem : ∀ k, p < k → F.hav1 lt tt t p ∈ F.havK lt tt op t dry k := fun k => by
      induction k with
      | zero => intro h; omega
      | succ k ih =>
        intro h
        unfold FliD.havK
        by_cases hp : p = k
        · subst hp
          rw [if_pos p2]
          exact List.mem_append.2 (Or.inr (List.mem_singleton.2 rfl))
        · split
          · exact List.mem_append.2 (Or.inl (ih (by omega)))
          · exact ih (by omega)
    cases e : bestL (F.havK lt tt op t dry k) with
    | some x => rfl
    | none =>
      have h1 := hmem k p1
      rw [bestL_nil e] at h1; cases h1
/-- What makes havens of havens keeps a flight safe. -/
theorem FliD.Like.safe {F G : FliD} (h : F.Like G) {P : Nat} {lt tt : Tab} {op o2 : Nat → Int → Bool} (hm : ∀ t p, p < P → F.dep ≤ t → t ≤ F.arr lt → F.havB lt tt op t false p = true → G.havB lt tt o2 t false p = true) (hs : (F.prf lt tt op P).2.2 = true) : (G.prf lt tt o2 P).2.2 = true := by
  unfold FliD.prf at hs ⊢
  rw [prfR_iff] at hs ⊢
  intro q q1 q2
  rw [← h.d] at q1 q2
  rw [← h.ticks] at q2
  have := hs q q1 q2
  rw [FliD.havK_is] at this ⊢
  obtain ⟨p, p1, p2⟩ := this
  refine ⟨p, p1, hm q p p1 q1 ?_ p2⟩
  unfold FliD.ticks at q2
  omega
end Go.Proofs.YtonfnhonbnfdoaaGreat

namespace Go.Proofs.YtonfnhonbnfdoaaGreat
open Go Go.RowKit Go.Proofs
set_option maxRecDepth 100000
theorem least_weak {F : FliD} {P : Nat} {lt tt : Tab} {op o2 : Nat → Int → Bool} (ho : ∀ p a, op p a = true → o2 p a = true) (hs : (F.prf lt tt op P).2.2 = true) : (F.prf lt tt o2 P).2.2 = true := by
  refine FliD.Like.safe (F := F) (G := F) ⟨rfl, rfl, rfl⟩ (fun t p hp h0 h1 hb => ?_) hs
  unfold FliD.havB at hb ⊢
  simp only [Bool.and_eq_true] at hb ⊢
  exact ⟨hb.1, ho _ _ hb.2.1, hb.2.2⟩
end Go.Proofs.YtonfnhonbnfdoaaGreat

namespace Go.Proofs.YtonfnhonbnfdoaaGreat
open Go Go.RowKit Go.Proofs
set_option maxRecDepth 100000
variable {M : MetD} {d : Nat → Int} {b : Nat → Bool}
/-- Where the forecast does not say anything, nothing changes. -/
theorem plus_may_off {p t : Int} (hc : (M.plus d b).covP p t M.n = false) : (M.plus d b).may p t = M.may p t := by
  have hcl : ∀ i ∈ M.cov p t M.n, i < M.n := fun i hi => M.cov_lt hi
  have hol : ∀ i ∈ M.ordF p t, i < M.n := fun i hi => by unfold MetD.ordF at hi; exact hcl i (stab_mem.1 hi)
  have hk : ∀ i ∈ M.cov p t M.n, (fun i => (M.plus d b).D i 3) i = (fun i => M.D i 3) i := fun i hi => plus_D (hcl i hi)
  have hcov : (M.plus d b).cov p t (M.plus d b).n = M.cov p t M.n := by
    show (M.plus d b).cov p t (M.n + 1) = _
    rw [MetD.cov_succ, plus_cov, hc, if_neg (by decide), List.append_nil]
  have e : (M.plus d b).ordF p t = M.ordF p t := by
    unfold MetD.ordF
    rw [hcov, stab_congr hk]
  show (M.ordS p t).foldl (M.stepS t) (((M.plus d b).ordF p t).foldl (M.plus d b).stepF M.any) = (M.ordS p t).foldl (M.stepS t) ((M.ordF p t).foldl M.stepF M.any)
  rw [e, plus_fold _ hol]
theorem plus_covP {p t : Int} : (M.plus d b).covP p t M.n = true ↔ d 0 = p ∧ d 1 ≤ t ∧ t ≤ d 2 - 1 := by
  unfold MetD.covP
  rw [plus_Dn, plus_Dn, plus_Dn, Bool.and_eq_true, decide_eq_true_eq, inB_iff]
theorem openB_part {x y : Sk} {lw ls lc : Int} {li lt : Bool} (hp : partB x y = true) (h : openB y lw ls lc li lt = true) : openB x lw ls lc li lt = true := by
  unfold partB inkP at hp
  unfold openB at *
  rw [flyB_iff] at *
  simp only [Bool.and_eq_true, decide_eq_true_eq, Bool.or_eq_true, Bool.not_eq_true'] at hp
  obtain ⟨v1, v2, v3, v4, v5⟩ := h
  obtain ⟨⟨a1, a2⟩, ⟨a3, a4⟩, ⟨a5, a6⟩, a7, a8⟩ := hp
  refine ⟨by omega, by omega, by omega, fun q => v4 (a7.resolve_left (by rw [q]; decide)), fun q => v5 (a8.resolve_left (by rw [q]; decide))⟩
theorem open_plus {lw ls lc : Int} {li lb : Bool} (hb : (M.plus d b).bad = false) (hi : ∀ i, i < M.n → M.D i 3 ≤ d 3) (hs : ∀ i, i < M.m → M.E i 0 ≠ d 0)
    (ho : ∀ t, d 1 ≤ t → t < d 2 → M.n ∉ (M.plus d b).odd (d 0) t) (p : Nat) (a : Int) (h : opM M lw ls lc li lb p a = true) : opM (M.plus d b) lw ls lc li lb p a = true := by
  unfold opM openV at *
  rw [Bool.and_eq_true, decide_eq_true_eq] at h ⊢
  obtain ⟨e, hv⟩ := h
  obtain ⟨k1, k2⟩ := opE_split e
  obtain ⟨hb0, q1, q2, q3⟩ := minE_ok k1
  have k3 : atE (M.plus d b) (p : Int) a = 0 := by
    unfold atE at k2 ⊢
    rw [hb0, if_neg (by decide)] at k2
    rw [hb, if_neg (by decide)]
    exact k2
  refine ⟨opE_mk (minE_mk hb q1 q2 q3) k3, ?_⟩
  cases hc : (M.plus d b).covP (p : Int) a M.n with
  | false => rw [plus_may_off hc]; exact hv
  | true =>
    obtain ⟨c1, c2, c3⟩ := plus_covP.1 hc
    have := cuts_law (M := M) (d := d) (b := b) (p := (p : Int)) (t := a) hi (fun i hi' => by rw [← c1]; exact hs i hi') (by rw [← c1]; exact ho a c2 (by omega))
    exact openB_part this hv
/-- What was safe is safe. -/
theorem safe_plus {F : FliD} {P : Nat} {lt tt : Tab} {lw ls lc : Int} {li lb : Bool} (hb : (M.plus d b).bad = false) (hi : ∀ i, i < M.n → M.D i 3 ≤ d 3) (hs : ∀ i, i < M.m → M.E i 0 ≠ d 0)
    (ho : ∀ t, d 1 ≤ t → t < d 2 → M.n ∉ (M.plus d b).odd (d 0) t) (h : (F.prf lt tt (opM M lw ls lc li lb) P).2.2 = true) : (F.prf lt tt (opM (M.plus d b) lw ls lc li lb) P).2.2 = true :=
  least_weak (open_plus hb hi hs ho) h
end Go.Proofs.YtonfnhonbnfdoaaGreat

namespace Go.Proofs.YtonfnhonbnfdoaaGreat
open Go Go.RowKit Go.Proofs
set_option maxRecDepth 100000
set_option maxHeartbeats 8000000
theorem fcU2_Tryz : Tryz.prog.underlying 26 = some (.slice 68) := by kernel_rfl
theorem fcI2_Tryz : (Tryz.prog.info? 68).map (fun i => (i.zero.map (·.cells.size), i.size, decide (i.bytes ≤ 200))) = some (some 12, 12, true) := by kernel_rfl
theorem fcV_one2 (D : Nat → Nat → Int) (B : Nat → Nat → Bool) (i j : Nat) : (fcV D B i j).oneCell' = true := by unfold fcV; split <;> rfl
def fcL (D : Nat → Nat → Int) (B : Nat → Nat → Bool) (n : Nat) : List Value := (List.range (n * 12)).map fun q => fcV D B (q / 12) (q % 12)
theorem wpl_cpF {D : Nat → Nat → Int} {B : Nat → Nat → Bool} {ops : Array Oper} {rest : List Oper} {o : Oper} {a : Act} {w : World} {Q : Exit → Act → World → Prop} (hgd : o.guard = none) (s x : Operand)
    (ho : o.op = .call { callee := .builtin .append, args := #[s, x], argTypes := #[26, 26] }) (hs : a.eval s = .slice none 0 0) (base : Nat) (hbg : base ≤ w.heap.size)
    (A : Option Addr) (n c : Nat) (hx : a.eval x = .slice A n c) (hr : RecsAt w A n 12 (fcV D B)) (hn : n ≤ 50)
    (h : ∀ v' w', w'.ownsRow base 68 12 v' n (fcL D B n) → Below w.heap.size w w' → wpList Tryz.prog ops Q rest (a.put o.dst v') w') : wpList Tryz.prog ops Q (o :: rest) a w := by
  have hi := fcI2_Tryz
  cases hI : Tryz.prog.info? 68 with
  | none => rw [hI] at hi; cases hi
  | some i =>
    rw [hI] at hi
    simp only [Option.map_some, Option.some.injEq, Prod.mk.injEq, decide_eq_true_eq] at hi
    obtain ⟨i1, i2, i3⟩ := hi
    cases hz : i.zero with
    | none => rw [hz] at i1; cases i1
    | some z =>
      rw [hz] at i1
      simp only [Option.map_some, Option.some.injEq] at i1
      have hb : n * i.bytes ≤ 50 * 200 := Nat.mul_le_mul hn i3
      refine wpl_append_nilk hgd s x _ ho 68 i z 12 i.bytes fcU2_Tryz hI hz i2 rfl i1 (by decide) hs base hbg A n c hx (fun q => fcV D B (q / 12) (q % 12)) (fun hp => ?_) (fun q _ => fcV_one2 _ _ _ _) (by unfold maxLen; omega) (by omega) (fun v' w' ho' hbl => h v' w' ho' hbl)
      obtain ⟨b, off, e, -, hc⟩ := hr (by omega)
      refine ⟨b, off, e, fun k hk => ?_⟩
      have := hc (k / 12) (by omega) (k % 12) (by omega)
      rw [show off + k / 12 * 12 + k % 12 = off + k by omega] at this
      exact this
theorem wpl_appF {ops : Array Oper} {rest : List Oper} {o : Oper} {a : Act} {w : World} {Q : Exit → Act → World → Prop} (hgd : o.guard = none) (s x : Operand)
    (ho : o.op = .call { callee := .builtin .append, args := #[s, x], argTypes := #[26, 26] }) (base : Nat) (v : Value) (n : Nat) (xs : List Value) (hs : a.eval s = v) (hown : w.ownsRow base 68 12 v n xs)
    (g : Nat) (row : List Value) (hrow : row.length = 12) (hone : ∀ u ∈ row, u.oneCell' = true) (hx : a.eval x = .slice (some ⟨g, 0, none⟩) 1 1) (hc : ∀ j u, row[j]? = some u → w.cell? ⟨g, j, none⟩ = some u) (h40 : n ≤ 50) (hbase : base ≤ w.heap.size)
    (h : ∀ v' w', w'.ownsRow base 68 12 v' (n + 1) (xs ++ row) → w.grownBy w' v.ownBlock → wpList Tryz.prog ops Q rest (a.put o.dst v') w') : wpList Tryz.prog ops Q (o :: rest) a w := by
  have hi := fcI2_Tryz
  cases hI : Tryz.prog.info? 68 with
  | none => rw [hI] at hi; cases hi
  | some i =>
    rw [hI] at hi
    simp only [Option.map_some, Option.some.injEq, Prod.mk.injEq, decide_eq_true_eq] at hi
    obtain ⟨i1, i2, i3⟩ := hi
    cases hz : i.zero with
    | none => rw [hz] at i1; cases i1
    | some z =>
      rw [hz] at i1
      simp only [Option.map_some, Option.some.injEq] at i1
      have hb : (n + 1) * i.bytes ≤ 51 * 200 := Nat.mul_le_mul (by omega) i3
      refine wpList_append_own w hgd s x 26 ho base 68 i z 12 i.bytes fcU2_Tryz hI hz i2 rfl i1 (by decide) v n xs hs hown ⟨g, 0, none⟩ 1 1 row hx (by rw [hrow]) ?_ hone (by unfold maxLen; omega) (by omega) hbase ?_
      · intro j u hj
        have := hc j u hj
        by_cases hj0 : j = 0
        · subst hj0; simpa [Addr.add] using this
        · simpa [Addr.add, hj0] using this
      · intro v' w' h1 h2 _
        exact h v' w' h1 h2
section
variable {M : MetD} {d : Nat → Int} {b : Nat → Bool}
theorem plus_row {j : Nat} : fcV (M.plus d b).D (M.plus d b).B M.n j = if j < 10 then .int .i64 (d j) else .bool (b j) := by
  unfold fcV; rw [plus_Dn, plus_Bn]
theorem plus_list : fcL M.D M.B M.n ++ (List.range 12).map (fun j => if j < 10 then Value.int .i64 (d j) else .bool (b j)) = fcL (M.plus d b).D (M.plus d b).B (M.n + 1) := by
  unfold fcL
  rw [Nat.add_mul, Nat.one_mul, List.range_add, List.map_append, List.map_map]
  congr 1
  · refine List.map_congr_left (fun q hq => ?_)
    have : q / 12 < M.n := Nat.div_lt_of_lt_mul (by rw [Nat.mul_comm]; exact List.mem_range.1 hq)
    unfold fcV
    rw [plus_D this, plus_B this]
  · refine List.map_congr_left (fun q hq => ?_)
    have hq' := List.mem_range.1 hq
    show _ = fcV _ _ ((M.n * 12 + q) / 12) ((M.n * 12 + q) % 12)
    rw [Nat.mul_comm, Nat.mul_add_div (by omega), Nat.mul_add_mod, Nat.div_eq_of_lt hq', Nat.mod_eq_of_lt hq', Nat.add_zero, plus_row]
end
end Go.Proofs.YtonfnhonbnfdoaaGreat

namespace Go.Proofs.YtonfnhonbnfdoaaGreat
open Go Go.RowKit Go.Proofs
set_option maxRecDepth 100000
set_option maxHeartbeats 8000000
theorem SlH.nil (w : World) : SlH w (.slice none 0 0) [] := ⟨none, 0, rfl, Nat.le_refl _, by decide, fun h => absurd h (Nat.lt_irrefl _)⟩
end Go.Proofs.YtonfnhonbnfdoaaGreat

namespace Go.Proofs.YtonfnhonbnfdoaaGreat
open Go Go.RowKit Go.Proofs
set_option maxRecDepth 100000
set_option maxHeartbeats 8000000
/-- What Safe returns. -/
def sfE (NE : Int) (M : MetD) (lw ls lc : Int) (li lb : Bool) (S : Tab) (n : Nat) (F : FliD) : Int × Bool × Int :=
  if NE = 0 then ((F.prf (lgT S n) (timT S n M.places.toNat) (opM M lw ls lc li lb) M.places.toNat).2.1, (F.prf (lgT S n) (timT S n M.places.toNat) (opM M lw ls lc li lb) M.places.toNat).2.2, 0) else (0, false, NE)
theorem rSafe_c (M : MetD) (vF vS : Value) (lw ls lc : Int) (li lb : Bool) (A : Option Addr) (n c : Nat) (S : Tab) (F : FliD) (vR : Value) (w : World) (hM : MetAt w vF vS M) (hc1 : n ≤ c) (hc2 : c ≤ 9223372036854775807) (hL : RecsAt w A n 3 (nV S)) (hR : SlI w vR F.m F.R) :
   Calls Tryz.prog 22 #[.agg #[.int .i64 M.places, .int .i64 M.any.a0, .int .i64 M.any.a1, .int .i64 M.any.a2, .int .i64 M.any.a3, .int .i64 M.any.a4, .int .i64 M.any.a5, .bool M.any.i, .bool M.any.s, .int .i64 M.mw, .int .i64 M.ms, .int .i64 M.mc, vF, vS], .agg #[.int .i64 lw, .int .i64 ls, .int .i64 lc, .bool li, .bool lb], .slice A n c, .agg #[vR, .int .i64 F.dep, .int .i64 F.fuel, .int .i64 F.burn, .int .i64 F.res]] w fun e w' => e = .returned (.tuple #[.int .i64 (sfE (nfE (netME M lw ls lc S n) M S n F) M lw ls lc li lb S n F).1, .bool (sfE (nfE (netME M lw ls lc S n) M S n F) M lw ls lc li lb S n F).2.1, .int .i64 (sfE (nfE (netME M lw ls lc S n) M S n F) M lw ls lc li lb S n F).2.2]) ∧ RowKit.Below w.heap.size w w' := by
  have HM := Lib.hid hM
  have HL := Lib.hid hL
  have HR := Lib.hid hR
  clear hM hL hR
  have HNN := Lib.hid (fun w1 gl h1 hm h2 h3 => newFlightM_c M vF vS gl lw ls lc li lb A n c S F vR w1 h1 hm hc1 hc2 h2 h3)
  have tok : True := trivial
  have tok2 : True := trivial
  have hok := fun h => nfM_ok (M := M) (lw := lw) (ls := ls) (lc := lc) (S := S) (n := n) (F := F) h
  generalize nfE (netME M lw ls lc S n) M S n F = NE at *
  unfold sfE
  by_cases h0 : NE = 0
  case neg =>
    rw [if_neg h0]
    have hz : (NE != 0) = true := by simpa using h0
    clear h0 hok
    go_enter Tryz.func22, Tryz.ntmps22
    go_wp2_with (fail)
    have _x := frm3 w #[.int .i64 M.places, .int .i64 M.any.a0, .int .i64 M.any.a1, .int .i64 M.any.a2, .int .i64 M.any.a3, .int .i64 M.any.a4, .int .i64 M.any.a5, .bool M.any.i, .bool M.any.s, .int .i64 M.mw, .int .i64 M.ms, .int .i64 M.mc, vF, vS] 29 #[.int .i64 lw, .int .i64 ls, .int .i64 lc, .bool li, .bool lb] 31 #[vR, .int .i64 F.dep, .int .i64 F.fuel, .int .i64 F.burn, .int .i64 F.res] 37
    have HX := Lib.hid _x.1
    have HI := Lib.hid _x.2.1
    have HF := Lib.hid _x.2.2.1
    have HB := Lib.hid _x.2.2.2.1
    have zW := _x.2.2.2.2
    clear _x
    generalize World.alloc (World.alloc (World.alloc w _) _) _ = W at *
    go_wp2_with (first | (have _t := tok; refine wpl_row rfl 29 (.tmp 4) rfl _ rfl #[.int .i64 M.places, .int .i64 M.any.a0, .int .i64 M.any.a1, .int .i64 M.any.a2, .int .i64 M.any.a3, .int .i64 M.any.a4, .int .i64 M.any.a5, .bool M.any.i, .bool M.any.s, .int .i64 M.mw, .int .i64 M.ms, .int .i64 M.mc, vF, vS] 14 HX.out Tryz.rowMet rfl ?_; simp only [Act.put]; clear tok) | (have _t := tok2; refine wpl_row rfl 37 (.tmp 7) rfl _ rfl #[vR, .int .i64 F.dep, .int .i64 F.fuel, .int .i64 F.burn, .int .i64 F.res] 5 HF.out Tryz.rowFli rfl ?_; simp only [Act.put]; clear tok2) | (go_at_call 53; (with_reducible refine (HNN.out _ _ (HM.out.below HB.out) HI.out (HL.out.below HB.out) (HR.out.below HB.out)).mono ?_); rintro e w1 ⟨v, rfl, hb1⟩; (obtain ⟨hb1, -⟩ := hb1); have nHX := Lib.hid (HX.out.below hb1); have nHI := Lib.hid (HI.out.below hb1); have nHF := Lib.hid (HF.out.below hb1); have nHB := Lib.hid (bthen HB.out hb1); have zz1 := hb1.size; clear HX HI HF HB hb1; have HX := nHX; have HI := nHI; have HF := nHF; have HB := nHB; clear nHX nHI nHF nHB))
    go_ret3
    exact ⟨rfl, HB.out⟩
  subst h0
  rw [if_pos rfl]
  obtain ⟨f3, f4, f5, f6, f7⟩ := hok rfl
  have hti := timT_in f6 f4.2
  have HPR := Lib.hid (fun v vN w1 h hm => fproof_c M vF vS v vN M.places.toNat (lgT S n) (timT S n M.places.toNat) F vR lw ls lc li lb w1 h hm f3 f4.2 f7 f5 hti)
  clear f3 f4 f5 f6 f7 hti hok
  generalize F.prf (lgT S n) (timT S n M.places.toNat) (opM M lw ls lc li lb) M.places.toNat = R at *
  obtain ⟨l, rt, rs⟩ := R
  dsimp only at HPR ⊢
  go_enter Tryz.func22, Tryz.ntmps22
  go_wp2_with (fail)
  have _x := frm3 w #[.int .i64 M.places, .int .i64 M.any.a0, .int .i64 M.any.a1, .int .i64 M.any.a2, .int .i64 M.any.a3, .int .i64 M.any.a4, .int .i64 M.any.a5, .bool M.any.i, .bool M.any.s, .int .i64 M.mw, .int .i64 M.ms, .int .i64 M.mc, vF, vS] 29 #[.int .i64 lw, .int .i64 ls, .int .i64 lc, .bool li, .bool lb] 31 #[vR, .int .i64 F.dep, .int .i64 F.fuel, .int .i64 F.burn, .int .i64 F.res] 37
  have HX := Lib.hid _x.1
  have HI := Lib.hid _x.2.1
  have HF := Lib.hid _x.2.2.1
  have HB := Lib.hid _x.2.2.2.1
  have zW := _x.2.2.2.2
  clear _x
  generalize World.alloc (World.alloc (World.alloc w _) _) _ = W at *
  go_wp2_with (first | (have _t := tok; refine wpl_row rfl 29 (.tmp 4) rfl _ rfl #[.int .i64 M.places, .int .i64 M.any.a0, .int .i64 M.any.a1, .int .i64 M.any.a2, .int .i64 M.any.a3, .int .i64 M.any.a4, .int .i64 M.any.a5, .bool M.any.i, .bool M.any.s, .int .i64 M.mw, .int .i64 M.ms, .int .i64 M.mc, vF, vS] 14 HX.out Tryz.rowMet rfl ?_; simp only [Act.put]; clear tok) | (have _t := tok2; refine wpl_row rfl 37 (.tmp 7) rfl _ rfl #[vR, .int .i64 F.dep, .int .i64 F.fuel, .int .i64 F.burn, .int .i64 F.res] 5 HF.out Tryz.rowFli rfl ?_; simp only [Act.put]; clear tok2))
  refine (HNN.out _ _ (HM.out.below HB.out) HI.out (HL.out.below HB.out) (HR.out.below HB.out)).mono ?_
  rintro e w2 ⟨v, rfl, hb2, hv⟩
  obtain ⟨vN, hfa⟩ := hv rfl
  have HFA := Lib.hid hfa
  obtain ⟨gx, vA, rfl, -⟩ := hfa
  have HB2 := Lib.hid (bthen HB.out hb2)
  clear HB HX HF HI hb2 hv
  go_wp2_with (fail)
  refine (HPR.out _ _ _ HFA.out (HM.out.below HB2.out)).mono ?_
  rintro e w3 ⟨vO, rfl, hb3, hO⟩
  have HO := Lib.hid hO
  have HB3 := Lib.hid (bthen HB2.out hb3)
  clear HFA HB2 hb3 HPR hO
  go_wp2_with (fail)
  go_ret3
  exact ⟨rfl, HB3.out⟩
end Go.Proofs.YtonfnhonbnfdoaaGreat
