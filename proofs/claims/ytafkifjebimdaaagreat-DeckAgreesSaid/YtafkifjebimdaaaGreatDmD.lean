/- Contract: has of the laws of decks (a number in one of some spans). -/
import Derived.Test.YtafkifjebimdaaaGreatJAP
import Derived.Test.YtafkifjebimdaaaGreatJAK
set_option linter.all false
namespace Go.Proofs.YtafkifjebimdaaaGreat
open Go Go.RowKit Go.Proofs
set_option maxRecDepth 100000
set_option maxHeartbeats 8000000
theorem spC_get : ∀ (l : List (Int × Int)) (i : Nat), i < l.length → (spC l)[i * 2]? = some (.int .i64 (l.getD i (0, 0)).1) ∧ (spC l)[i * 2 + 1]? = some (.int .i64 (l.getD i (0, 0)).2)
  | [], _, h => absurd h (Nat.not_lt_zero _)
  | p :: l, 0, _ => ⟨rfl, rfl⟩
  | p :: l, i + 1, h => by
    have := spC_get l i (by simpa using h)
    have e : spC (p :: l) = .int .i64 p.1 :: .int .i64 p.2 :: spC l := rfl
    rw [e, show (i + 1) * 2 = i * 2 + 1 + 1 by omega]
    simp only [List.getElem?_cons_succ, List.getD_cons_succ]
    exact this
/-- A slice that reads as a list of spans. -/
def SpsAt (w : World) (v : Value) (l : List (Int × Int)) : Prop :=
  ∃ A c, v = .slice A l.length c ∧ l.length ≤ c ∧ c ≤ 9223372036854775807 ∧ RecsAt w A l.length 2 (fun i j => .int .i64 (if j = 0 then (l.getD i (0, 0)).1 else (l.getD i (0, 0)).2))
theorem SpsAt.below {w w' : World} {v : Value} {l : List (Int × Int)} (h : SpsAt w v l) (hb : Below w.heap.size w w') : SpsAt w' v l := by
  obtain ⟨A, c, h1, h2, h3, h4⟩ := h
  exact ⟨A, c, h1, h2, h3, h4.below hb⟩
theorem SpsAt.alloc {w : World} {v : Value} {l : List (Int × Int)} (h : SpsAt w v l) (o : Obj) : SpsAt (w.alloc o) v l := h.below (bal (Below.refl _ _) o)
theorem SpsAt.of {w : World} {base : Nat} {v : Value} {l : List (Int × Int)} {T : TypeId} (h : w.ownsRow base T 2 v l.length (spC l)) : SpsAt w v l := by
  have hr := h
  rcases h.2 with ⟨rfl, hz⟩ | ⟨g, cap, cur, rfl, h1, h2, h3, h4, h5, h6⟩
  · exact ⟨none, 0, by rw [hz], by omega, by omega, fun hp => by omega⟩
  · refine ⟨some ⟨g, 0, none⟩, cap, rfl, h3, by unfold maxLen at h4; omega, fun hp => ⟨g, 0, rfl, (Array.getElem?_eq_some_iff.1 h2).1, fun i hi j hj => ?_⟩⟩
    have h0 := hr.cellAt (g := g) (i * 2 + j) (by omega)
    rw [Nat.zero_add, h0]
    have := spC_get l i hi
    rcases j with _ | _ | j
    · exact this.1
    · exact this.2
    · omega
theorem hasV_drop {l : List (Int × Int)} {k : Nat} {n : Int} (h : k < l.length) : hasV (l.drop k) n = ((decide ((l.getD k (0, 0)).1 ≤ n) && decide (n ≤ (l.getD k (0, 0)).2)) || hasV (l.drop (k + 1)) n) := by
  rw [List.drop_eq_getElem_cons h, hasV_cons]
  simp [List.getD, List.getElem?_eq_getElem h]
theorem dhas_c (v : Value) (l : List (Int × Int)) (n : Int) (w : World) (h : SpsAt w v l) (hl : l.length ≤ 5000) :
   Calls Tryz.prog 19 #[v, .int .i64 n] w fun e w' => e = .returned (.bool (hasV l n)) ∧ w = w' := by
  obtain ⟨A, c, rfl, -, -, hr⟩ := h
  have HR := Lib.hid hr
  clear hr
  obtain ⟨R, hR⟩ : ∃ q, q = hasV l n := ⟨_, rfl⟩
  rw [← hR]
  have HV := Lib.hid (show hasV (l.drop 0) n = R from hR.symm)
  clear hR
  go_enter Tryz.func19, Tryz.ntmps19
  go_wp2_with (fail)
  go_loopg [5] l.length (fun gx i wr => ∃ k : Nat, i = .int .i64 k ∧ k ≤ l.length ∧ l.length - k ≤ gx ∧ w = wr ∧ Hid (hasV (l.drop k) n = R))
  case atStart => exact ⟨0, rfl, Nat.zero_le _, Nat.le_refl _, rfl, HV⟩
  case round =>
    clear HV
    obtain ⟨k, rfl, hk, hgx, rfl, HE⟩ := hrel
    by_cases hlt : k < l.length
    · have hltz : (k : Int) < (l.length : Int) := by omega
      obtain ⟨bs, off, rfl, hbs, hcell⟩ := HR.out (by omega)
      have c0 : w.cell? ⟨bs, off + k * 2, none⟩ = some (.int .i64 (l.getD k (0, 0)).1) := hcell k hlt 0 (by omega)
      have c1 : w.cell? ⟨bs, off + k * 2 + 1, none⟩ = some (.int .i64 (l.getD k (0, 0)).2) := hcell k hlt 1 (by omega)
      clear hcell
      have hE := HE.out
      rw [hasV_drop hlt] at hE
      generalize (l.getD k (0, 0)).1 = p0 at *
      generalize (l.getD k (0, 0)).2 = p1 at *
      by_cases h1 : p0 ≤ n
      · by_cases h2 : n ≤ p1
        · rw [decide_eq_true h1, decide_eq_true h2] at hE
          have hE2 : true = R := hE
          subst hE2
          clear hE HE
          go_wp2_with (fail)
          go_ret
          exact ⟨rfl, rfl⟩
        · rw [decide_eq_false h2, Bool.and_false, Bool.false_or] at hE
          have HE2 := Lib.hid hE
          clear hE HE
          go_wp2_with (fail)
          go_roundg (l.length - (k + 1))
          case measure => omega
          case rel => exact ⟨k + 1, by first | rfl | go_num | (congr 1; omega), by omega, Nat.le_refl _, rfl, HE2⟩
      · rw [decide_eq_false h1, Bool.false_and, Bool.false_or] at hE
        have HE2 := Lib.hid hE
        clear hE HE
        go_wp2_with (fail)
        go_roundg (l.length - (k + 1))
        case measure => omega
        case rel => exact ⟨k + 1, by first | rfl | go_num | (congr 1; omega), by omega, Nat.le_refl _, rfl, HE2⟩
    · have hE := HE.out
      rw [List.drop_eq_nil_of_le (by omega)] at hE
      have hE2 : false = R := hE
      subst hE2
      clear hE HE
      go_wp2_with (fail)
      go_ret
      exact ⟨rfl, rfl⟩
theorem strR_len {is : Int → Bool} {te : Int} : ∀ (r : Nat) (t f : Int), (strR is te 1 r t f).length ≤ r
  | 0, _, _ => Nat.le_refl _
  | r + 1, t, f => by
    unfold strR
    split
    · exact Nat.le_succ_of_le (strR_len r (t + 1) f)
    · split
      · exact Nat.succ_le_succ (strR_len r (t + 1) (t + 1))
      · exact Nat.le_succ_of_le (strR_len r (t + 1) (t + 1))
theorem strV_len {is : Int → Bool} {f u : Int} (h : 0 ≤ f) (h2 : u ≤ 2000) : (strV is f u 1).length ≤ 5000 := by
  have := strR_len (is := is) (te := u) (u + 1 - f).toNat f f
  unfold strV
  omega
end Go.Proofs.YtafkifjebimdaaaGreat
