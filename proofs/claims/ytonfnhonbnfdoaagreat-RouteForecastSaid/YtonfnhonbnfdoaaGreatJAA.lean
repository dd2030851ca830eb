/- Texts joined: JAA. -/
import Derived.Test.YtonfnhonbnfdoaaGreatProg
import Derived.Test.YtonfnhonbnfdoaaGreatBas
import Derived.RangeFuncNested
import Derived.RangeFuncBound
import Derived.RangeFuncCalls
import Derived.RangeFuncLeaves
import Derived.Shelf.RegionOpen
import Derived.OwnWalkIn
import Derived.TacticsInMore
import Derived.LoopNIn
import Derived.LoopIn
set_option linter.all false
namespace Go.Proofs.YtonfnhonbnfdoaaGreat
open Go Go.RowKit Go.Proofs

def SpansAt (w : World) (A : Option Addr) (n : Nat) (lo hi : Nat → Int) : Prop :=
  0 < n → ∃ b off, A = some ⟨b, off, none⟩ ∧ b < w.heap.size ∧ ∀ k, k < n → w.cell? ⟨b, off + k * 2, none⟩ = some (.int .i64 (lo k)) ∧ w.cell? ⟨b, off + k * 2 + 1, none⟩ = some (.int .i64 (hi k))

set_option maxHeartbeats 400000 in
theorem ixSpan_c (A : Option Addr) (n c : Nat) (lo hi : Nat → Int) (g : Nat) (lb : Array Value) (p : Nat → Bool) (w : World) (hn : n ≤ 9223372036854775807)
    (eg : ∀ args w, (callFunc g args).run Tryz.prog w = .ok (.enter g args) w)
    (hA : SpansAt w A n lo hi) (hp : PredB Tryz.prog g lb n (fun i => .agg #[.int .i64 (lo i), .int .i64 (hi i)]) p w) :
   Calls Tryz.prog 174 #[.slice A n c, .func (.func g) #[] lb] w fun e w' => e = .returned (.int .i64 (firstIx p n)) ∧ Below w.heap.size w w' := by
  go_enter Tryz.func174, Tryz.ntmps174
  go_wp2
  go_loopw [5, 8] (fun _ s8 wr => ∃ k : Nat, k ≤ n ∧ s8 = .int .i64 k ∧ Hid (Below w.heap.size w wr) ∧ Hid (∀ j, j < k → p j = false)) (fun _ i _ => n - (intOf i).toNat)
  case atStart => exact ⟨0, by omega, rfl, Below.refl _ _, fun j hj => absurd hj (by omega)⟩
  case round =>
    obtain ⟨k, hk, rfl, hB, hF⟩ := hrel
    by_cases hlt : k < n
    · obtain ⟨b, off, rfl, hb, hc⟩ := hA (by omega)
      have h0 := (hB.out.cell (p := ⟨b, off + k * 2, none⟩) hb).trans (hc k hlt).1
      have h1 := (hB.out.cell (p := ⟨b, off + k * 2 + 1, none⟩) hb).trans (hc k hlt).2
      have hcall := hp wr k hlt hB.out
      clear hc hA hp
      cases hq : p k with
      | true =>
        rw [hq] at hcall
        have HQ := Lib.hid hq
        clear hq
        go_wp2_with (go_at_fn g; refine hcall.mono ?_; rintro e w1 ⟨rfl, hb1⟩)
        go_ret
        exact ⟨ret_int (firstIx_hit p n k hlt HQ.out hF.out).symm, hB.out.trans (hb1.mono hB.out.size)⟩
      | false =>
        rw [hq] at hcall
        have HQ := Lib.hid hq
        clear hq
        go_wp2_with (go_at_fn g; refine hcall.mono ?_; rintro e w1 ⟨rfl, hb1⟩)
        go_roundw
        case rel => exact ⟨k + 1, by omega, by go_num, hB.out.trans (hb1.mono hB.out.size), fun j hj => by
          by_cases e : j = k
          · subst e; exact HQ.out
          · exact hF.out j (by omega)⟩
        case measure => simp [intOf]; omega
    · obtain rfl : k = n := by omega
      clear hA hp
      go_wp2
      go_ret
      exact ⟨ret_int (firstIx_miss p k hF.out).symm, hB.out⟩

theorem cfSpan_c (A : Option Addr) (n c : Nat) (lo hi : Nat → Int) (g : Nat) (lb : Array Value) (p : Nat → Bool) (w : World) (hn : n ≤ 9223372036854775807)
    (eg : ∀ args w, (callFunc g args).run Tryz.prog w = .ok (.enter g args) w)
    (hA : SpansAt w A n lo hi) (hp : PredB Tryz.prog g lb n (fun i => .agg #[.int .i64 (lo i), .int .i64 (hi i)]) p w) :
   Calls Tryz.prog 145 #[.slice A n c, .func (.func g) #[] lb] w fun e w' => e = .returned (.bool ((List.range n).any p)) ∧ Below w.heap.size w w' := by
  rw [← firstIx_nonneg p n]
  go_enter Tryz.func145, Tryz.ntmps145
  go_wp2_with (go_at_call 174; refine (ixSpan_c _ _ _ _ _ _ _ _ _ hn eg hA hp).mono ?_; rintro e w1 ⟨rfl, hb1⟩)
  go_ret
  exact ⟨rfl, hb1⟩

def IntsAt (w : World) (A : Option Addr) (n : Nat) (xs : Nat → Int) : Prop :=
  0 < n → ∃ b off, A = some ⟨b, off, none⟩ ∧ b < w.heap.size ∧ ∀ k, k < n → w.cell? ⟨b, off + k, none⟩ = some (.int .i64 (xs k))

set_option maxHeartbeats 400000 in
theorem ixInt_c (A : Option Addr) (n c : Nat) (xs : Nat → Int) (g : Nat) (lb : Array Value) (p : Nat → Bool) (w : World) (hn : n ≤ 9223372036854775807)
    (eg : ∀ args w, (callFunc g args).run Tryz.prog w = .ok (.enter g args) w)
    (hA : IntsAt w A n xs) (hp : PredB Tryz.prog g lb n (fun i => .int .i64 (xs i)) p w) :
   Calls Tryz.prog 119 #[.slice A n c, .func (.func g) #[] lb] w fun e w' => e = .returned (.int .i64 (firstIx p n)) ∧ Below w.heap.size w w' := by
  go_enter Tryz.func119, Tryz.ntmps119
  go_wp2
  go_loopw [5, 8] (fun _ s8 wr => ∃ k : Nat, k ≤ n ∧ s8 = .int .i64 k ∧ Hid (Below w.heap.size w wr) ∧ Hid (∀ j, j < k → p j = false)) (fun _ i _ => n - (intOf i).toNat)
  case atStart => exact ⟨0, by omega, rfl, Below.refl _ _, fun j hj => absurd hj (by omega)⟩
  case round =>
    obtain ⟨k, hk, rfl, hB, hF⟩ := hrel
    by_cases hlt : k < n
    · obtain ⟨b, off, rfl, hb, hc⟩ := hA (by omega)
      have h0 := (hB.out.cell (p := ⟨b, off + k, none⟩) hb).trans (hc k hlt)
      have hcall := hp wr k hlt hB.out
      clear hc hA hp
      cases hq : p k with
      | true =>
        rw [hq] at hcall
        have HQ := Lib.hid hq
        clear hq
        go_wp2_with (go_at_fn g; refine hcall.mono ?_; rintro e w1 ⟨rfl, hb1⟩)
        go_ret
        exact ⟨ret_int (firstIx_hit p n k hlt HQ.out hF.out).symm, hB.out.trans (hb1.mono hB.out.size)⟩
      | false =>
        rw [hq] at hcall
        have HQ := Lib.hid hq
        clear hq
        go_wp2_with (go_at_fn g; refine hcall.mono ?_; rintro e w1 ⟨rfl, hb1⟩)
        go_roundw
        case rel => exact ⟨k + 1, by omega, by go_num, hB.out.trans (hb1.mono hB.out.size), fun j hj => by
          by_cases e : j = k
          · subst e; exact HQ.out
          · exact hF.out j (by omega)⟩
        case measure => simp [intOf]; omega
    · obtain rfl : k = n := by omega
      clear hA hp
      go_wp2
      go_ret
      exact ⟨ret_int (firstIx_miss p k hF.out).symm, hB.out⟩

theorem cfInt_c (A : Option Addr) (n c : Nat) (xs : Nat → Int) (g : Nat) (lb : Array Value) (p : Nat → Bool) (w : World) (hn : n ≤ 9223372036854775807)
    (eg : ∀ args w, (callFunc g args).run Tryz.prog w = .ok (.enter g args) w)
    (hA : IntsAt w A n xs) (hp : PredB Tryz.prog g lb n (fun i => .int .i64 (xs i)) p w) :
   Calls Tryz.prog 80 #[.slice A n c, .func (.func g) #[] lb] w fun e w' => e = .returned (.bool ((List.range n).any p)) ∧ Below w.heap.size w w' := by
  rw [← firstIx_nonneg p n]
  go_enter Tryz.func80, Tryz.ntmps80
  go_wp2_with (go_at_call 119; refine (ixInt_c _ _ _ _ _ _ _ _ hn eg hA hp).mono ?_; rintro e w1 ⟨rfl, hb1⟩)
  go_ret
  exact ⟨rfl, hb1⟩

def RowsAt (w : World) (A : Option Addr) (n : Nat) (vs : Nat → Value) : Prop :=
  0 < n → ∃ b off, A = some ⟨b, off, none⟩ ∧ b < w.heap.size ∧ ∀ k, k < n → w.cell? ⟨b, off + k, none⟩ = some (vs k)

set_option maxHeartbeats 400000 in
theorem ixRow_c (A : Option Addr) (n c : Nat) (vs : Nat → Value) (g : Nat) (lb : Array Value) (p : Nat → Bool) (w : World) (hn : n ≤ 9223372036854775807)
    (eg : ∀ args w, (callFunc g args).run Tryz.prog w = .ok (.enter g args) w)
    (hA : RowsAt w A n vs) (hp : PredB Tryz.prog g lb n (fun i => vs i) p w) :
   Calls Tryz.prog 173 #[.slice A n c, .func (.func g) #[] lb] w fun e w' => e = .returned (.int .i64 (firstIx p n)) ∧ Below w.heap.size w w' := by
  go_enter Tryz.func173, Tryz.ntmps173
  go_wp2
  go_loopw [5, 8] (fun _ s8 wr => ∃ k : Nat, k ≤ n ∧ s8 = .int .i64 k ∧ Hid (Below w.heap.size w wr) ∧ Hid (∀ j, j < k → p j = false)) (fun _ i _ => n - (intOf i).toNat)
  case atStart => exact ⟨0, by omega, rfl, Below.refl _ _, fun j hj => absurd hj (by omega)⟩
  case round =>
    obtain ⟨k, hk, rfl, hB, hF⟩ := hrel
    by_cases hlt : k < n
    · obtain ⟨b, off, rfl, hb, hc⟩ := hA (by omega)
      have h0 := (hB.out.cell (p := ⟨b, off + k, none⟩) hb).trans (hc k hlt)
      have hcall := hp wr k hlt hB.out
      clear hc hA hp
      cases hq : p k with
      | true =>
        rw [hq] at hcall
        have HQ := Lib.hid hq
        clear hq
        go_wp2_with (go_at_fn g; refine hcall.mono ?_; rintro e w1 ⟨rfl, hb1⟩)
        go_ret
        exact ⟨ret_int (firstIx_hit p n k hlt HQ.out hF.out).symm, hB.out.trans (hb1.mono hB.out.size)⟩
      | false =>
        rw [hq] at hcall
        have HQ := Lib.hid hq
        clear hq
        go_wp2_with (go_at_fn g; refine hcall.mono ?_; rintro e w1 ⟨rfl, hb1⟩)
        go_roundw
        case rel => exact ⟨k + 1, by omega, by go_num, hB.out.trans (hb1.mono hB.out.size), fun j hj => by
          by_cases e : j = k
          · subst e; exact HQ.out
          · exact hF.out j (by omega)⟩
        case measure => simp [intOf]; omega
    · obtain rfl : k = n := by omega
      clear hA hp
      go_wp2
      go_ret
      exact ⟨ret_int (firstIx_miss p k hF.out).symm, hB.out⟩

theorem cfRow_c (A : Option Addr) (n c : Nat) (vs : Nat → Value) (g : Nat) (lb : Array Value) (p : Nat → Bool) (w : World) (hn : n ≤ 9223372036854775807)
    (eg : ∀ args w, (callFunc g args).run Tryz.prog w = .ok (.enter g args) w)
    (hA : RowsAt w A n vs) (hp : PredB Tryz.prog g lb n (fun i => vs i) p w) :
   Calls Tryz.prog 144 #[.slice A n c, .func (.func g) #[] lb] w fun e w' => e = .returned (.bool ((List.range n).any p)) ∧ Below w.heap.size w w' := by
  rw [← firstIx_nonneg p n]
  go_enter Tryz.func144, Tryz.ntmps144
  go_wp2_with (go_at_call 173; refine (ixRow_c _ _ _ _ _ _ _ _ hn eg hA hp).mono ?_; rintro e w1 ⟨rfl, hb1⟩)
  go_ret
  exact ⟨rfl, hb1⟩

end Go.Proofs.YtonfnhonbnfdoaaGreat

namespace Go.Proofs.YtonfnhonbnfdoaaGreat
open Go Go.RowKit Go.Proofs

def inB (n lo hi : Int) : Bool := decide (lo ≤ n) && decide (n ≤ hi)

theorem within_c (n lo hi : Int) (w : World) :
   Calls Tryz.prog 141 #[.int .i64 n, .int .i64 lo, .int .i64 hi] w fun e w' => e = .returned (.bool (inB n lo hi)) ∧ w = w' := by
  by_cases h : lo ≤ n
  · go_enter Tryz.func141, Tryz.ntmps141
    go_wp2
    go_ret
    simp [inB, h]
  · have h2 : decide (lo ≤ n) = false := by simpa using h
    go_enter Tryz.func141, Tryz.ntmps141
    go_wp2
    go_ret
    simp [inB, h2]

def vspan (lo hi : Int) : Bool := inB lo (-1000000) hi && decide (hi ≤ 1000000)

theorem valid_c (lo hi : Int) (w : World) :
   Calls Tryz.prog 147 #[.agg #[.int .i64 lo, .int .i64 hi]] w fun e w' => e = .returned (.bool (vspan lo hi)) ∧ Below w.heap.size w w' := by
  cases h : inB lo (-1000000) hi
  all_goals
    go_enter Tryz.func147, Tryz.ntmps147
    go_wp2_with (go_at_call 141; refine (within_c _ _ _ _).mono ?_; rintro e w1 ⟨rfl, rfl⟩)
    go_ret
    exact ⟨by simp [vspan, h], (Below.refl _ _).alloc (Nat.le_refl _) _⟩

theorem floor_c (num den : Int) (w : World) (h0 : -4000000000000000000 ≤ num) (h1 : num ≤ 4000000000000000000) (h2 : 1 ≤ den) (h3 : den ≤ 4000000000000000000) :
   Calls Tryz.prog 70 #[.int .i64 num, .int .i64 den] w fun e w' => e = .returned (.int .i64 (num / den)) ∧ w = w' := by
  have hb := ediv_bound h2 (show (0:Int) ≤ 4000000000000000000 by omega) h0 h1
  have HB := Lib.hid hb
  clear hb
  go_enter Tryz.func70, Tryz.ntmps70
  go_wp2
  · have hm : num.tmod den < 0 := by assumption
    have e := fdiv_neg h2 hm
    have hb := HB.out
    rw [wrap64_in (by omega) (by omega), e]
    go_ret
    exact ⟨rfl, rfl⟩
  · have hm : 0 ≤ num.tmod den := by assumption
    have e := fdiv_pos h2 hm
    rw [e]
    go_ret
    exact ⟨rfl, rfl⟩

theorem ceil_c (num den : Int) (w : World) (h0 : -4000000000000000000 ≤ num) (h1 : num ≤ 4000000000000000000) (h2 : 1 ≤ den) (h3 : den ≤ 4000000000000000000) :
   Calls Tryz.prog 117 #[.int .i64 num, .int .i64 den] w fun e w' => e = .returned (.int .i64 (cdiv num den)) ∧ w = w' := by
  have hb := ediv_bound (a := -num) h2 (show (0:Int) ≤ 4000000000000000000 by omega) (by omega) (by omega)
  go_enter Tryz.func117, Tryz.ntmps117
  go_wp2_with (go_at_call 70; refine (floor_c _ _ _ (by omega) (by omega) h2 h3).mono ?_; rintro e w1 ⟨rfl, rfl⟩)
  go_ret
  exact ⟨rfl, rfl⟩
end Go.Proofs.YtonfnhonbnfdoaaGreat

/- Contracts: spanned, Check of a box, axis, CheckTable of package spans. -/
namespace Go.Proofs.YtonfnhonbnfdoaaGreat
open Go Go.RowKit Go.Proofs

theorem spanned1_c (lo hi : Int) (w : World) :
   Calls Tryz.prog 146 #[.agg #[.int .i64 lo, .int .i64 hi]] w fun e w' => e = .returned (.bool (!vspan lo hi)) ∧ Below w.heap.size w w' := by
  go_enter Tryz.func146, Tryz.ntmps146
  go_wp2_with (go_at_call 147; refine (valid_c _ _ _).mono ?_; rintro e w1 ⟨rfl, hb1⟩)
  go_ret
  exact ⟨rfl, ((Below.refl _ _).alloc (Nat.le_refl _) _).trans (hb1.mono (by simp))⟩

def anyBad (n : Nat) (lo hi : Nat → Int) : Bool := (List.range n).any fun i => !vspan (lo i) (hi i)

def spanE (bad : Bool) : Int := if bad then 10 else 0
theorem spanE_t : spanE true = 10 := rfl
theorem spanE_f : spanE false = 0 := rfl

theorem spanned_c (A : Option Addr) (n c : Nat) (lo hi : Nat → Int) (w : World) (hn : n ≤ 9223372036854775807) (hA : SpansAt w A n lo hi) :
   Calls Tryz.prog 113 #[.slice A n c] w fun e w' => e = .returned (.int .i64 (spanE (anyBad n lo hi))) ∧ Below w.heap.size w w' := by
  have hcf := cfSpan_c A n c lo hi 146 #[] (fun i => !vspan (lo i) (hi i)) w hn (enters_of Tryz.func146 (by kernel_rfl) rfl) hA
    (fun W i _ hb => by simpa using spanned1_c (lo i) (hi i) W)
  have hcf' : Calls Tryz.prog 145 #[.slice A n c, .func (.func 146) #[] #[]] w fun e w' => e = .returned (.bool (anyBad n lo hi)) ∧ Below w.heap.size w w' := hcf
  have HC := Lib.hid hcf'
  clear hcf hcf'
  cases h : anyBad n lo hi
  all_goals
    rw [h] at HC
    have HH := Lib.hid h
    clear h
    go_enter Tryz.func113, Tryz.ntmps113
    go_wp2_with (go_at_call 145; refine HC.out.mono ?_; rintro e w1 ⟨rfl, hb1⟩)
    go_ret
    exact ⟨rfl, hb1⟩

/-- spans.Check of a box. -/
theorem spCheck_c (A : Option Addr) (n c : Nat) (lo hi : Nat → Int) (w : World) (hn : n ≤ 9223372036854775807) (hA : SpansAt w A n lo hi) :
   Calls Tryz.prog 127 #[.slice A n c] w fun e w' => e = .returned (.int .i64 (spanE (!inB n 1 3 || anyBad n lo hi))) ∧ Below w.heap.size w w' := by
  have hs := spanned_c A n c lo hi w hn hA
  have HC := Lib.hid hs
  clear hs
  cases h : inB n 1 3
  · go_enter Tryz.func127, Tryz.ntmps127
    go_wp2_with (go_at_call 141; refine (within_c _ _ _ _).mono ?_; rintro e w1 ⟨rfl, rfl⟩)
    go_ret
    exact ⟨rfl, Below.refl _ _⟩
  · go_enter Tryz.func127, Tryz.ntmps127
    go_wp2_with (first | (go_at_call 141; refine (within_c _ _ _ _).mono ?_; rintro e w1 ⟨rfl, rfl⟩) | (go_at_call 113; refine HC.out.mono ?_; rintro e w1 ⟨rfl, hb1⟩))
    go_ret
    exact ⟨rfl, hb1⟩

def okKnot (l : List Int) (i : Nat) : Bool := inB (nth l i) (-1000000) 1000000 && (i == 0 || inB (nth l i - nth l (i - 1)) 1 10000)
def axisB (l : List Int) : Bool := inB l.length 2 12 && (List.range l.length).all (okKnot l)

theorem inB_iff {n lo hi : Int} : inB n lo hi = true ↔ lo ≤ n ∧ n ≤ hi := by simp [inB]
theorem okKnot_range {l : List Int} {i : Nat} (h : okKnot l i = true) : -1000000 ≤ nth l i ∧ nth l i ≤ 1000000 := by
  unfold okKnot at h; simp only [Bool.and_eq_true] at h; exact inB_iff.1 h.1
theorem okKnot_zero {l : List Int} (h : inB (nth l 0) (-1000000) 1000000 = true) : okKnot l 0 = true := by simp [okKnot, h]
theorem okKnot_succ {l : List Int} {i : Nat} (h : inB (nth l i) (-1000000) 1000000 = true) (h2 : inB (nth l i - nth l (i - 1)) 1 10000 = true) : okKnot l i = true := by simp [okKnot, h, h2]
theorem axisB_no {l : List Int} {k : Nat} (hk : k < l.length) (h : okKnot l k = false) : axisB l = false := by
  unfold axisB; rw [Bool.and_eq_false_iff]; right
  rw [List.all_eq_false]; exact ⟨k, by simpa using hk, by simp [h]⟩
theorem axisB_yes {l : List Int} (h0 : inB l.length 2 12 = true) (h : ∀ k, k < l.length → okKnot l k = true) : axisB l = true := by
  unfold axisB; rw [h0, Bool.true_and, List.all_eq_true]; intro k hk; exact h k (by simpa using hk)

set_option maxHeartbeats 800000 in
theorem axis_c (v : Value) (xs : List Int) (w : World) (hv : Ints w v xs) :
   Calls Tryz.prog 143 #[v] w fun e w' => e = .returned (.bool (axisB xs)) ∧ w = w' := by
  obtain ⟨A, c, rfl, hc1, hc2, _, hA⟩ := hv
  have hc3 : xs.length ≤ 9223372036854775807 := by omega
  generalize hL : xs.length = n at *
  have HL := Lib.hid hL
  clear hL
  cases h0 : inB n 2 12
  · go_enter Tryz.func143, Tryz.ntmps143
    go_wp2_with (go_at_call 141; refine (within_c _ _ _ _).mono ?_; rintro e w1 ⟨rfl, rfl⟩)
    go_ret
    exact ⟨ret_bool (by unfold axisB; rw [HL.out, h0]; rfl), rfl⟩
  · go_enter Tryz.func143, Tryz.ntmps143
    go_wp2_with (go_at_call 141; refine (within_c _ _ _ _).mono ?_; rintro e w1 ⟨rfl, rfl⟩)
    have H0 := Lib.hid h0
    clear h0
    go_loop [3, 4, 11] (fun _ _ s => ∃ k : Nat, k ≤ n ∧ s = .int .i64 k ∧ Hid (∀ j, j < k → okKnot xs j = true)) (fun _ _ i => n - (intOf i).toNat)
    case atStart => exact ⟨0, by omega, rfl, fun j hj => absurd hj (by omega)⟩
    case round =>
      obtain ⟨k, hk, rfl, hF⟩ := hrel
      by_cases hlt : k < n
      · obtain ⟨b, off, rfl, hb, hc⟩ := hA (by omega)
        have hck := hc k hlt
        cases h1 : inB (nth xs k) (-1000000) 1000000
        · clear hc hA
          go_wp2_with (go_at_call 141; refine (within_c _ _ _ _).mono ?_; rintro e w1 ⟨rfl, rfl⟩)
          go_ret
          exact ⟨ret_bool (axisB_no (by rw [HL.out]; exact hlt) (show okKnot xs k = false by simp [okKnot, h1])).symm, rfl⟩
        · have hr := inB_iff.1 h1
          by_cases hk0 : k = 0
          · subst hk0
            simp only [Nat.add_zero] at hck
            clear hc hA
            go_wp2_with (go_at_call 141; refine (within_c _ _ _ _).mono ?_; rintro e w1 ⟨rfl, rfl⟩)
            go_round
            case rel => exact ⟨0 + 1, by omega, by go_num, fun j hj => by
              obtain rfl : j = 0 := by omega
              exact okKnot_zero h1⟩
            case measure => simp [intOf]; omega
          · have hkp : 0 < k := by omega
            have hcp := hc (k - 1) (by omega)
            have hrp := okKnot_range (hF.out (k - 1) (by omega))
            clear hc hA
            cases h2 : inB (nth xs k - nth xs (k - 1)) 1 10000
            · go_wp2_with (go_at_call 141; refine (within_c _ _ _ _).mono ?_; rintro e w1 ⟨rfl, rfl⟩)
              go_ret
              exact ⟨ret_bool (axisB_no (by rw [HL.out]; exact hlt) (show okKnot xs k = false by simp [okKnot, h1, h2, hk0])).symm, rfl⟩
            · go_wp2_with (go_at_call 141; refine (within_c _ _ _ _).mono ?_; rintro e w1 ⟨rfl, rfl⟩)
              go_round
              case rel => exact ⟨k + 1, by omega, by go_num, fun j hj => by
                by_cases e : j = k
                · subst e; exact okKnot_succ h1 h2
                · exact hF.out j (by omega)⟩
              case measure => simp [intOf]; omega
      · obtain rfl : k = n := by omega
        clear hA
        go_wp2
        go_ret
        exact ⟨ret_bool (axisB_yes (by rw [HL.out]; exact H0.out) (by rw [HL.out]; exact hF.out)).symm, rfl⟩
end Go.Proofs.YtonfnhonbnfdoaaGreat

/- Contracts: CheckTable of package spans. -/
namespace Go.Proofs.YtonfnhonbnfdoaaGreat
open Go Go.RowKit Go.Proofs

theorem out_c (n : Int) (w : World) :
   Calls Tryz.prog 140 #[.int .i64 n] w fun e w' => e = .returned (.bool (!inB n (-1000000) 1000000)) ∧ w = w' := by
  go_enter Tryz.func140, Tryz.ntmps140
  go_wp2_with (go_at_call 141; refine (within_c _ _ _ _).mono ?_; rintro e w1 ⟨rfl, rfl⟩)
  go_ret
  exact ⟨rfl, rfl⟩

def anyOut (r : List Int) : Bool := (List.range r.length).any fun i => !inB (nth r i) (-1000000) 1000000
def rowBad (ny : Nat) (r : List Int) : Bool := (r.length : Int) != (ny : Int) || anyOut r

theorem row_c (l : Value) (xs : List Int) (bt bo : Nat) (y : Value) (ny : Nat) (w : World) (hl : Ints w l xs)
    (hy : w.cell? ⟨bt, 1, none⟩ = some y) (hyl : ∃ A c, y = .slice A ny c) (hny : ny ≤ 9223372036854775807)
    (ho : w.cell? ⟨bo, 0, none⟩ = some (.func (.func 140) #[] #[])) :
   Calls Tryz.prog 142 #[l, .pointer (some ⟨bt, 0, none⟩), .pointer (some ⟨bo, 0, none⟩)] w fun e w' => e = .returned (.bool (rowBad ny xs)) ∧ Below w.heap.size w w' := by
  obtain ⟨A, c, rfl, hc1, hc2, _, hA⟩ := hl
  obtain ⟨yA, yc, rfl⟩ := hyl
  have hcf := cfInt_c A xs.length c (nth xs) 140 #[] (fun i => !inB (nth xs i) (-1000000) 1000000) w (by omega) (enters_of Tryz.func140 (by kernel_rfl) rfl) hA
    (fun W i _ hb => (out_c (nth xs i) W).mono fun e w' ⟨he, hw⟩ => ⟨he, hw ▸ Below.refl _ _⟩)
  have hcf' : Calls Tryz.prog 80 #[.slice A xs.length c, .func (.func 140) #[] #[]] w fun e w' => e = .returned (.bool (anyOut xs)) ∧ Below w.heap.size w w' := hcf
  have HC := Lib.hid hcf'
  clear hcf hcf'
  have hlen : xs.length ≤ 9223372036854775807 := by omega
  cases h : ((xs.length : Int) != (ny : Int))
  · go_enter Tryz.func142, Tryz.ntmps142
    go_wp2_with (go_at_call 80; refine HC.out.mono ?_; rintro e w1 ⟨rfl, hb1⟩)
    go_ret
    exact ⟨ret_bool (by simp [rowBad, h]), hb1⟩
  · go_enter Tryz.func142, Tryz.ntmps142
    go_wp2
    go_ret
    exact ⟨ret_bool (by simp [rowBad, h]), Below.refl _ _⟩

def anyRowBad (ny : Nat) (V : List (List Int)) : Bool := (List.range V.length).any fun i => rowBad ny (nthR V i)
def tblB (T : Tbl) : Bool := axisB T.X && axisB T.Y && !((T.V.length : Int) != (T.X.length : Int)) && !anyRowBad T.Y.length T.V
def tblE (b : Bool) : Int := if b then 0 else 11
theorem tblE_t : tblE true = 0 := rfl
theorem tblE_f : tblE false = 11 := rfl

set_option maxHeartbeats 800000 in
theorem CheckTable_c (x y v : Value) (T : Tbl) (w : World) (hT : TblAt w x y v T) :
   Calls Tryz.prog 112 #[.agg #[x, y, v]] w fun e w' => e = .returned (.int .i64 (tblE (tblB T))) ∧ Below w.heap.size w w' := by
  have hx := hT.x
  have hy := hT.y
  have hyl := hy.len
  have hxl := hx.len
  obtain ⟨A, c, vs, rfl, hv1, hv2, hv3, hv4⟩ := hT.v
  have hcf : ∀ W, Below w.heap.size w W → W.cell? ⟨w.heap.size, 1, none⟩ = some y → W.cell? ⟨w.heap.size + 1, 0, none⟩ = some (.func (.func 140) #[] #[]) →
      Hid (Calls Tryz.prog 144 #[.slice A T.V.length c, .func (.func 142) #[] #[.pointer (some ⟨w.heap.size, 0, none⟩), .pointer (some ⟨w.heap.size + 1, 0, none⟩)]] W fun e w' => e = .returned (.bool (anyRowBad T.Y.length T.V)) ∧ Below W.heap.size W w') := by
    intro W hW h1 h2
    have b1 := blk_lt h1
    have b2 := blk_lt h2
    refine cfRow_c A T.V.length c vs 142 #[.pointer (some ⟨w.heap.size, 0, none⟩), .pointer (some ⟨w.heap.size + 1, 0, none⟩)] (fun i => rowBad T.Y.length (nthR T.V i)) W (by omega)
      (enters_of Tryz.func142 (by kernel_rfl) rfl) (hv3.below hW) ?_
    intro W' i hi hb
    obtain ⟨yA, yc, hyv, _⟩ := hy
    refine row_c (vs i) (nthR T.V i) w.heap.size (w.heap.size + 1) y T.Y.length W' (((hv4 i hi).below hW).below hb) ?_ ⟨yA, yc, hyv⟩ hyl ?_
    · exact (hb.cell (p := ⟨w.heap.size, 1, none⟩) b1).trans h1
    · exact (hb.cell (p := ⟨w.heap.size + 1, 0, none⟩) b2).trans h2
  clear hv3 hv4
  obtain ⟨xA, xc, rfl, _⟩ := id hx
  obtain ⟨yA, yc, rfl, _⟩ := id hy
  clear hT
  cases h1 : axisB T.X
  · go_enter Tryz.func112, Tryz.ntmps112
    go_wp2_with (first | (go_at_call 143; (with_reducible refine (axis_c _ T.X _ (hx.below (by repeat' (first | exact Below.refl _ _ | assumption | refine Below.drew ?_ | refine bdn ?_ _ | refine bal ?_ _ | refine Below.setCell ?_ (by first | (simp; done) | omega | (simp; omega)) _)))).mono ?_); rintro e w1 ⟨rfl, rfl⟩))
    go_ret
    exact ⟨ret_int (by simp [tblB, h1, tblE]), (by repeat' (first | exact Below.refl _ _ | assumption | refine Below.drew ?_ | refine bdn ?_ _ | refine bal ?_ _ | refine Below.setCell ?_ (by first | (simp; done) | omega | (simp; omega)) _))⟩
  · cases h2 : axisB T.Y
    · go_enter Tryz.func112, Tryz.ntmps112
      go_wp2_with (first | (go_at_call 143; (with_reducible refine (axis_c _ T.X _ (hx.below (by repeat' (first | exact Below.refl _ _ | assumption | refine Below.drew ?_ | refine bdn ?_ _ | refine bal ?_ _ | refine Below.setCell ?_ (by first | (simp; done) | omega | (simp; omega)) _)))).mono ?_); rintro e w1 ⟨rfl, rfl⟩) | (go_at_call 143; (with_reducible refine (axis_c _ T.Y _ (hy.below (by repeat' (first | exact Below.refl _ _ | assumption | refine Below.drew ?_ | refine bdn ?_ _ | refine bal ?_ _ | refine Below.setCell ?_ (by first | (simp; done) | omega | (simp; omega)) _)))).mono ?_); rintro e w1 ⟨rfl, rfl⟩))
      go_ret
      exact ⟨ret_int (by simp [tblB, h1, h2, tblE]), (by repeat' (first | exact Below.refl _ _ | assumption | refine Below.drew ?_ | refine bdn ?_ _ | refine bal ?_ _ | refine Below.setCell ?_ (by first | (simp; done) | omega | (simp; omega)) _))⟩
    · cases h3 : ((T.V.length : Int) != (T.X.length : Int))
      · have HC := hcf ((w.alloc (.cells #[.slice xA T.X.length xc, .slice yA T.Y.length yc, .slice A T.V.length c] 87)).alloc (.cells #[.func (.func 140) #[] #[]] 151)) (by repeat' (first | exact Below.refl _ _ | assumption | refine Below.drew ?_ | refine bdn ?_ _ | refine bal ?_ _ | refine Below.setCell ?_ (by first | (simp; done) | omega | (simp; omega)) _)) (by simp [World.cell?_alloc_old]) (by simpa using World.cell?_alloc_new (w.alloc (.cells #[.slice xA T.X.length xc, .slice yA T.Y.length yc, .slice A T.V.length c] 87)) #[.func (.func 140) #[] #[]] 151 0)
        clear hcf
        have h3' : (tblB T) = !anyRowBad T.Y.length T.V := by simp [tblB, h1, h2, h3]
        have H3 := Lib.hid h3'
        clear h3'
        cases h4 : anyRowBad T.Y.length T.V
        all_goals
          rw [h4] at HC H3
          clear h4
          go_enter Tryz.func112, Tryz.ntmps112
          go_wp2_with (first | (go_at_call 143; (with_reducible refine (axis_c _ T.X _ (hx.below (by repeat' (first | exact Below.refl _ _ | assumption | refine Below.drew ?_ | refine bdn ?_ _ | refine bal ?_ _ | refine Below.setCell ?_ (by first | (simp; done) | omega | (simp; omega)) _)))).mono ?_); rintro e w1 ⟨rfl, rfl⟩) | (go_at_call 143; (with_reducible refine (axis_c _ T.Y _ (hy.below (by repeat' (first | exact Below.refl _ _ | assumption | refine Below.drew ?_ | refine bdn ?_ _ | refine bal ?_ _ | refine Below.setCell ?_ (by first | (simp; done) | omega | (simp; omega)) _)))).mono ?_); rintro e w1 ⟨rfl, rfl⟩) | (go_at_call 144; refine HC.out.mono ?_; rintro e w1 ⟨rfl, hb1⟩))
          go_ret
          exact ⟨ret_int (by rw [H3.out]; rfl), bthen (by repeat' (first | exact Below.refl _ _ | assumption | refine Below.drew ?_ | refine bdn ?_ _ | refine bal ?_ _ | refine Below.setCell ?_ (by first | (simp; done) | omega | (simp; omega)) _)) hb1⟩
      · go_enter Tryz.func112, Tryz.ntmps112
        go_wp2_with (first | (go_at_call 143; (with_reducible refine (axis_c _ T.X _ (hx.below (by repeat' (first | exact Below.refl _ _ | assumption | refine Below.drew ?_ | refine bdn ?_ _ | refine bal ?_ _ | refine Below.setCell ?_ (by first | (simp; done) | omega | (simp; omega)) _)))).mono ?_); rintro e w1 ⟨rfl, rfl⟩) | (go_at_call 143; (with_reducible refine (axis_c _ T.Y _ (hy.below (by repeat' (first | exact Below.refl _ _ | assumption | refine Below.drew ?_ | refine bdn ?_ _ | refine bal ?_ _ | refine Below.setCell ?_ (by first | (simp; done) | omega | (simp; omega)) _)))).mono ?_); rintro e w1 ⟨rfl, rfl⟩))
        go_ret
        exact ⟨ret_int (by simp [tblB, h1, h2, h3, tblE]), (by repeat' (first | exact Below.refl _ _ | assumption | refine Below.drew ?_ | refine bdn ?_ _ | refine bal ?_ _ | refine Below.setCell ?_ (by first | (simp; done) | omega | (simp; omega)) _))⟩
end Go.Proofs.YtonfnhonbnfdoaaGreat

/- Contracts: lies, checkPoints of package spans. -/
namespace Go.Proofs.YtonfnhonbnfdoaaGreat
open Go Go.RowKit Go.Proofs

def liesB (xs : List Int) (lo hi : Int) : Bool := decide (nth xs 0 ≤ lo) && decide (hi ≤ nth xs (xs.length - 1))

theorem lies_c (v : Value) (xs : List Int) (lo hi : Int) (w : World) (hv : Ints w v xs) (h0 : 0 < xs.length) :
   Calls Tryz.prog 114 #[v, .agg #[.int .i64 lo, .int .i64 hi]] w fun e w' => e = .returned (.bool (liesB xs lo hi)) ∧ Below w.heap.size w w' := by
  obtain ⟨A, c, rfl, hc1, hc2, _, hA⟩ := hv
  obtain ⟨b, off, rfl, hb, hc⟩ := hA h0
  have c0 := hc 0 h0
  simp only [Nat.add_zero] at c0
  have c1 := hc (xs.length - 1) (by omega)
  clear hc hA
  have hi0 : (0 : Int) < (xs.length : Int) := by omega
  have hi1 : (xs.length : Int) ≤ 9223372036854775807 := by omega
  have ht : ((xs.length : Int) - 1).toNat = xs.length - 1 := by omega
  by_cases h : nth xs 0 ≤ lo
  · go_enter Tryz.func114, Tryz.ntmps114
    go_wp2
    go_quiet (fail)
    go_wp2
    go_ret
    exact ⟨ret_bool (by simp [liesB, h]), (by repeat' (first | exact Below.refl _ _ | assumption | refine Below.drew ?_ | refine bdn ?_ _ | refine bal ?_ _ | refine Below.setCell ?_ (by first | (simp; done) | omega | (simp; omega)) _))⟩
  · have hd : decide (nth xs 0 ≤ lo) = false := by simpa using h
    go_enter Tryz.func114, Tryz.ntmps114
    go_wp2
    go_quiet (fail)
    go_wp2
    go_ret
    exact ⟨ret_bool (by simp [liesB, hd]), (by repeat' (first | exact Below.refl _ _ | assumption | refine Below.drew ?_ | refine bdn ?_ _ | refine bal ?_ _ | refine Below.setCell ?_ (by first | (simp; done) | omega | (simp; omega)) _))⟩

theorem anyBad2 (lo hi : Nat → Int) : anyBad 2 lo hi = (!vspan (lo 0) (hi 0) || !vspan (lo 1) (hi 1)) := by
  simp [anyBad, List.range_succ]
theorem anyBad1 (lo hi : Nat → Int) : anyBad 1 lo hi = !vspan (lo 0) (hi 0) := by
  simp [anyBad, List.range_succ]

theorem spanned2_c (b c : Nat) (xl xh yl yh : Int) (w : World) (h0 : w.cell? ⟨b, 0, none⟩ = some (.int .i64 xl)) (h1 : w.cell? ⟨b, 1, none⟩ = some (.int .i64 xh))
    (h2 : w.cell? ⟨b, 2, none⟩ = some (.int .i64 yl)) (h3 : w.cell? ⟨b, 3, none⟩ = some (.int .i64 yh)) :
   Calls Tryz.prog 113 #[.slice (some ⟨b, 0, none⟩) 2 c] w fun e w' => e = .returned (.int .i64 (spanE (!vspan xl xh || !vspan yl yh))) ∧ Below w.heap.size w w' := by
  have h := spanned_c (some ⟨b, 0, none⟩) 2 c (fun i => if i = 0 then xl else yl) (fun i => if i = 0 then xh else yh) w (by omega)
    (fun _ => ⟨b, 0, rfl, blk_lt h0, fun k hk => by
      rcases (show k = 0 ∨ k = 1 by omega) with rfl | rfl
      · simpa using ⟨h0, h1⟩
      · simpa using ⟨h2, h3⟩⟩)
  rw [anyBad2] at h
  exact h

def cpE (T : Tbl) (xl xh yl yh : Int) : Int :=
  if tblB T then (if vspan xl xh && vspan yl yh then (if liesB T.X xl xh && liesB T.Y yl yh then 0 else 1) else 10) else 11

theorem axisB_len {l : List Int} (h : axisB l = true) : 2 ≤ l.length ∧ l.length ≤ 12 := by
  unfold axisB at h; simp only [Bool.and_eq_true] at h; have := inB_iff.1 h.1; omega
theorem tblB_X {T : Tbl} (h : tblB T = true) : axisB T.X = true := by unfold tblB at h; simp only [Bool.and_eq_true] at h; exact h.1.1.1
theorem tblB_Y {T : Tbl} (h : tblB T = true) : axisB T.Y = true := by unfold tblB at h; simp only [Bool.and_eq_true] at h; exact h.1.1.2

set_option maxHeartbeats 800000 in
theorem checkPoints_c (x y v : Value) (T : Tbl) (xl xh yl yh : Int) (w : World) (hT : TblAt w x y v T) :
   Calls Tryz.prog 68 #[.agg #[x, y, v], .agg #[.int .i64 xl, .int .i64 xh], .agg #[.int .i64 yl, .int .i64 yh]] w fun e w' => e = .returned (.int .i64 (cpE T xl xh yl yh)) ∧ Below w.heap.size w w' := by
  have e1 := tblE_t
  have e2 := tblE_f
  have e3 := spanE_t
  have e4 := spanE_f
  cases h1 : tblB T
  · go_enter Tryz.func68, Tryz.ntmps68
    go_wp2_with (first | (go_at_call 112; (with_reducible refine (CheckTable_c _ _ _ T _ (hT.below (by repeat' (first | exact Below.refl _ _ | assumption | refine Below.drew ?_ | refine bdn ?_ _ | refine bal ?_ _ | refine Below.setCell ?_ (by first | (simp; done) | omega | (simp; omega)) _)))).mono ?_); rintro e w1 ⟨rfl, hb1⟩; have hB1 := bthen (show Below w.heap.size w _ from (by repeat' (first | exact Below.refl _ _ | assumption | refine Below.drew ?_ | refine bdn ?_ _ | refine bal ?_ _ | refine Below.setCell ?_ (by first | (simp; done) | omega | (simp; omega)) _))) hb1; have hz1 := hb1.size; (try simp at hz1); obtain ⟨hc1, hf1⟩ := bcell hb1; first | (have hE1 := bthen2 hE (by repeat' (first | exact Below.refl _ _ | refine Below.drew ?_ | refine bdn ?_ _ | refine bal ?_ _ | refine Below.setCell ?_ (by first | (simp; done) | omega | (simp; omega)) _)) hb1; clear hE; have hE := hE1; clear hE1; obtain ⟨hd1, hg1⟩ := bcell hE) | (have hE := hb1)))
    go_ret
    exact ⟨ret_int (by simp [cpE, h1]), (by repeat' (first | exact Below.refl _ _ | assumption | refine Below.drew ?_ | refine bdn ?_ _ | refine bal ?_ _ | refine Below.setCell ?_ (by first | (simp; done) | omega | (simp; omega)) _))⟩
  · have hX := axisB_len (tblB_X h1)
    have hY := axisB_len (tblB_Y h1)
    cases h2 : vspan xl xh
    · go_enter Tryz.func68, Tryz.ntmps68
      go_wp2_with (first | (go_at_call 112; (with_reducible refine (CheckTable_c _ _ _ T _ (hT.below (by repeat' (first | exact Below.refl _ _ | assumption | refine Below.drew ?_ | refine bdn ?_ _ | refine bal ?_ _ | refine Below.setCell ?_ (by first | (simp; done) | omega | (simp; omega)) _)))).mono ?_); rintro e w1 ⟨rfl, hb1⟩; have hB1 := bthen (show Below w.heap.size w _ from (by repeat' (first | exact Below.refl _ _ | assumption | refine Below.drew ?_ | refine bdn ?_ _ | refine bal ?_ _ | refine Below.setCell ?_ (by first | (simp; done) | omega | (simp; omega)) _))) hb1; have hz1 := hb1.size; (try simp at hz1); obtain ⟨hc1, hf1⟩ := bcell hb1; first | (have hE1 := bthen2 hE (by repeat' (first | exact Below.refl _ _ | refine Below.drew ?_ | refine bdn ?_ _ | refine bal ?_ _ | refine Below.setCell ?_ (by first | (simp; done) | omega | (simp; omega)) _)) hb1; clear hE; have hE := hE1; clear hE1; obtain ⟨hd1, hg1⟩ := bcell hE) | (have hE := hb1)) | (go_at_call 113; (with_reducible refine (spanned2_c _ _ xl xh yl yh _ (by simp) (by simp) (by simp) (by simp)).mono ?_); rintro e w1 ⟨rfl, hb1⟩; have hB1 := bthen (show Below w.heap.size w _ from (by repeat' (first | exact Below.refl _ _ | assumption | refine Below.drew ?_ | refine bdn ?_ _ | refine bal ?_ _ | refine Below.setCell ?_ (by first | (simp; done) | omega | (simp; omega)) _))) hb1; have hz1 := hb1.size; (try simp at hz1); obtain ⟨hc1, hf1⟩ := bcell hb1; first | (have hE1 := bthen2 hE (by repeat' (first | exact Below.refl _ _ | refine Below.drew ?_ | refine bdn ?_ _ | refine bal ?_ _ | refine Below.setCell ?_ (by first | (simp; done) | omega | (simp; omega)) _)) hb1; clear hE; have hE := hE1; clear hE1; obtain ⟨hd1, hg1⟩ := bcell hE) | (have hE := hb1)))
      go_ret
      exact ⟨ret_int (by simp [cpE, h1, h2]), (by repeat' (first | exact Below.refl _ _ | assumption | refine Below.drew ?_ | refine bdn ?_ _ | refine bal ?_ _ | refine Below.setCell ?_ (by first | (simp; done) | omega | (simp; omega)) _))⟩
    · cases h3 : vspan yl yh
      · go_enter Tryz.func68, Tryz.ntmps68
        go_wp2_with (first | (go_at_call 112; (with_reducible refine (CheckTable_c _ _ _ T _ (hT.below (by repeat' (first | exact Below.refl _ _ | assumption | refine Below.drew ?_ | refine bdn ?_ _ | refine bal ?_ _ | refine Below.setCell ?_ (by first | (simp; done) | omega | (simp; omega)) _)))).mono ?_); rintro e w1 ⟨rfl, hb1⟩; have hB1 := bthen (show Below w.heap.size w _ from (by repeat' (first | exact Below.refl _ _ | assumption | refine Below.drew ?_ | refine bdn ?_ _ | refine bal ?_ _ | refine Below.setCell ?_ (by first | (simp; done) | omega | (simp; omega)) _))) hb1; have hz1 := hb1.size; (try simp at hz1); obtain ⟨hc1, hf1⟩ := bcell hb1; first | (have hE1 := bthen2 hE (by repeat' (first | exact Below.refl _ _ | refine Below.drew ?_ | refine bdn ?_ _ | refine bal ?_ _ | refine Below.setCell ?_ (by first | (simp; done) | omega | (simp; omega)) _)) hb1; clear hE; have hE := hE1; clear hE1; obtain ⟨hd1, hg1⟩ := bcell hE) | (have hE := hb1)) | (go_at_call 113; (with_reducible refine (spanned2_c _ _ xl xh yl yh _ (by simp) (by simp) (by simp) (by simp)).mono ?_); rintro e w1 ⟨rfl, hb1⟩; have hB1 := bthen (show Below w.heap.size w _ from (by repeat' (first | exact Below.refl _ _ | assumption | refine Below.drew ?_ | refine bdn ?_ _ | refine bal ?_ _ | refine Below.setCell ?_ (by first | (simp; done) | omega | (simp; omega)) _))) hb1; have hz1 := hb1.size; (try simp at hz1); obtain ⟨hc1, hf1⟩ := bcell hb1; first | (have hE1 := bthen2 hE (by repeat' (first | exact Below.refl _ _ | refine Below.drew ?_ | refine bdn ?_ _ | refine bal ?_ _ | refine Below.setCell ?_ (by first | (simp; done) | omega | (simp; omega)) _)) hb1; clear hE; have hE := hE1; clear hE1; obtain ⟨hd1, hg1⟩ := bcell hE) | (have hE := hb1)))
        go_ret
        exact ⟨ret_int (by simp [cpE, h1, h2, h3]), (by repeat' (first | exact Below.refl _ _ | assumption | refine Below.drew ?_ | refine bdn ?_ _ | refine bal ?_ _ | refine Below.setCell ?_ (by first | (simp; done) | omega | (simp; omega)) _))⟩
      · cases h4 : liesB T.X xl xh
        · go_enter Tryz.func68, Tryz.ntmps68
          go_wp2_with (first | (go_at_call 112; (with_reducible refine (CheckTable_c _ _ _ T _ (hT.below (by repeat' (first | exact Below.refl _ _ | assumption | refine Below.drew ?_ | refine bdn ?_ _ | refine bal ?_ _ | refine Below.setCell ?_ (by first | (simp; done) | omega | (simp; omega)) _)))).mono ?_); rintro e w1 ⟨rfl, hb1⟩; have hB1 := bthen (show Below w.heap.size w _ from (by repeat' (first | exact Below.refl _ _ | assumption | refine Below.drew ?_ | refine bdn ?_ _ | refine bal ?_ _ | refine Below.setCell ?_ (by first | (simp; done) | omega | (simp; omega)) _))) hb1; have hz1 := hb1.size; (try simp at hz1); obtain ⟨hc1, hf1⟩ := bcell hb1; first | (have hE1 := bthen2 hE (by repeat' (first | exact Below.refl _ _ | refine Below.drew ?_ | refine bdn ?_ _ | refine bal ?_ _ | refine Below.setCell ?_ (by first | (simp; done) | omega | (simp; omega)) _)) hb1; clear hE; have hE := hE1; clear hE1; obtain ⟨hd1, hg1⟩ := bcell hE) | (have hE := hb1)) | (go_at_call 113; (with_reducible refine (spanned2_c _ _ xl xh yl yh _ (by simp) (by simp) (by simp) (by simp)).mono ?_); rintro e w1 ⟨rfl, hb1⟩; have hB1 := bthen (show Below w.heap.size w _ from (by repeat' (first | exact Below.refl _ _ | assumption | refine Below.drew ?_ | refine bdn ?_ _ | refine bal ?_ _ | refine Below.setCell ?_ (by first | (simp; done) | omega | (simp; omega)) _))) hb1; have hz1 := hb1.size; (try simp at hz1); obtain ⟨hc1, hf1⟩ := bcell hb1; first | (have hE1 := bthen2 hE (by repeat' (first | exact Below.refl _ _ | refine Below.drew ?_ | refine bdn ?_ _ | refine bal ?_ _ | refine Below.setCell ?_ (by first | (simp; done) | omega | (simp; omega)) _)) hb1; clear hE; have hE := hE1; clear hE1; obtain ⟨hd1, hg1⟩ := bcell hE) | (have hE := hb1)) | (go_at_call 114; (with_reducible refine (lies_c x T.X _ _ _ (hT.x.below (by repeat' (first | exact Below.refl _ _ | assumption | refine Below.drew ?_ | refine bdn ?_ _ | refine bal ?_ _ | refine Below.setCell ?_ (by first | (simp; done) | omega | (simp; omega)) _))) (by omega)).mono ?_); rintro e w1 ⟨rfl, hb1⟩; have hB1 := bthen (show Below w.heap.size w _ from (by repeat' (first | exact Below.refl _ _ | assumption | refine Below.drew ?_ | refine bdn ?_ _ | refine bal ?_ _ | refine Below.setCell ?_ (by first | (simp; done) | omega | (simp; omega)) _))) hb1; have hz1 := hb1.size; (try simp at hz1); obtain ⟨hc1, hf1⟩ := bcell hb1; first | (have hE1 := bthen2 hE (by repeat' (first | exact Below.refl _ _ | refine Below.drew ?_ | refine bdn ?_ _ | refine bal ?_ _ | refine Below.setCell ?_ (by first | (simp; done) | omega | (simp; omega)) _)) hb1; clear hE; have hE := hE1; clear hE1; obtain ⟨hd1, hg1⟩ := bcell hE) | (have hE := hb1)))
          go_ret
          exact ⟨ret_int (by simp [cpE, h1, h2, h3, h4]), (by repeat' (first | exact Below.refl _ _ | assumption | refine Below.drew ?_ | refine bdn ?_ _ | refine bal ?_ _ | refine Below.setCell ?_ (by first | (simp; done) | omega | (simp; omega)) _))⟩
        · cases h5 : liesB T.Y yl yh
          all_goals
            go_enter Tryz.func68, Tryz.ntmps68
            go_wp2_with (first | (go_at_call 112; (with_reducible refine (CheckTable_c _ _ _ T _ (hT.below (by repeat' (first | exact Below.refl _ _ | assumption | refine Below.drew ?_ | refine bdn ?_ _ | refine bal ?_ _ | refine Below.setCell ?_ (by first | (simp; done) | omega | (simp; omega)) _)))).mono ?_); rintro e w1 ⟨rfl, hb1⟩; have hB1 := bthen (show Below w.heap.size w _ from (by repeat' (first | exact Below.refl _ _ | assumption | refine Below.drew ?_ | refine bdn ?_ _ | refine bal ?_ _ | refine Below.setCell ?_ (by first | (simp; done) | omega | (simp; omega)) _))) hb1; have hz1 := hb1.size; (try simp at hz1); obtain ⟨hc1, hf1⟩ := bcell hb1; first | (have hE1 := bthen2 hE (by repeat' (first | exact Below.refl _ _ | refine Below.drew ?_ | refine bdn ?_ _ | refine bal ?_ _ | refine Below.setCell ?_ (by first | (simp; done) | omega | (simp; omega)) _)) hb1; clear hE; have hE := hE1; clear hE1; obtain ⟨hd1, hg1⟩ := bcell hE) | (have hE := hb1)) | (go_at_call 113; (with_reducible refine (spanned2_c _ _ xl xh yl yh _ (by simp) (by simp) (by simp) (by simp)).mono ?_); rintro e w1 ⟨rfl, hb1⟩; have hB1 := bthen (show Below w.heap.size w _ from (by repeat' (first | exact Below.refl _ _ | assumption | refine Below.drew ?_ | refine bdn ?_ _ | refine bal ?_ _ | refine Below.setCell ?_ (by first | (simp; done) | omega | (simp; omega)) _))) hb1; have hz1 := hb1.size; (try simp at hz1); obtain ⟨hc1, hf1⟩ := bcell hb1; first | (have hE1 := bthen2 hE (by repeat' (first | exact Below.refl _ _ | refine Below.drew ?_ | refine bdn ?_ _ | refine bal ?_ _ | refine Below.setCell ?_ (by first | (simp; done) | omega | (simp; omega)) _)) hb1; clear hE; have hE := hE1; clear hE1; obtain ⟨hd1, hg1⟩ := bcell hE) | (have hE := hb1)) | (go_at_call 114; (with_reducible refine (lies_c x T.X _ _ _ (hT.x.below (by repeat' (first | exact Below.refl _ _ | assumption | refine Below.drew ?_ | refine bdn ?_ _ | refine bal ?_ _ | refine Below.setCell ?_ (by first | (simp; done) | omega | (simp; omega)) _))) (by omega)).mono ?_); rintro e w1 ⟨rfl, hb1⟩; have hB1 := bthen (show Below w.heap.size w _ from (by repeat' (first | exact Below.refl _ _ | assumption | refine Below.drew ?_ | refine bdn ?_ _ | refine bal ?_ _ | refine Below.setCell ?_ (by first | (simp; done) | omega | (simp; omega)) _))) hb1; have hz1 := hb1.size; (try simp at hz1); obtain ⟨hc1, hf1⟩ := bcell hb1; first | (have hE1 := bthen2 hE (by repeat' (first | exact Below.refl _ _ | refine Below.drew ?_ | refine bdn ?_ _ | refine bal ?_ _ | refine Below.setCell ?_ (by first | (simp; done) | omega | (simp; omega)) _)) hb1; clear hE; have hE := hE1; clear hE1; obtain ⟨hd1, hg1⟩ := bcell hE) | (have hE := hb1)) | (go_at_call 114; (with_reducible refine (lies_c y T.Y _ _ _ (hT.y.below (by repeat' (first | exact Below.refl _ _ | assumption | refine Below.drew ?_ | refine bdn ?_ _ | refine bal ?_ _ | refine Below.setCell ?_ (by first | (simp; done) | omega | (simp; omega)) _))) (by omega)).mono ?_); rintro e w1 ⟨rfl, hb1⟩; have hB1 := bthen (show Below w.heap.size w _ from (by repeat' (first | exact Below.refl _ _ | assumption | refine Below.drew ?_ | refine bdn ?_ _ | refine bal ?_ _ | refine Below.setCell ?_ (by first | (simp; done) | omega | (simp; omega)) _))) hb1; have hz1 := hb1.size; (try simp at hz1); obtain ⟨hc1, hf1⟩ := bcell hb1; first | (have hE1 := bthen2 hE (by repeat' (first | exact Below.refl _ _ | refine Below.drew ?_ | refine bdn ?_ _ | refine bal ?_ _ | refine Below.setCell ?_ (by first | (simp; done) | omega | (simp; omega)) _)) hb1; clear hE; have hE := hE1; clear hE1; obtain ⟨hd1, hg1⟩ := bcell hE) | (have hE := hb1)))
            go_ret
            exact ⟨ret_int (by simp [cpE, h1, h2, h3, h4, h5]), (by repeat' (first | exact Below.refl _ _ | assumption | refine Below.drew ?_ | refine bdn ?_ _ | refine bal ?_ _ | refine Below.setCell ?_ (by first | (simp; done) | omega | (simp; omega)) _))⟩
end Go.Proofs.YtonfnhonbnfdoaaGreat

/- Contracts: cmp.Less, slices.BinarySearch, cell of package spans. -/
namespace Go.Proofs.YtonfnhonbnfdoaaGreat
open Go Go.RowKit Go.Proofs

theorem nan1_c (n : Int) (w : World) : Calls Tryz.prog 195 #[.int .i64 n] w fun e w' => e = .returned (.bool false) ∧ w = w' := by
  have h : (n != n) = false := by simp
  go_enter Tryz.func195, Tryz.ntmps195
  go_wp2
  go_ret
  exact ⟨rfl, rfl⟩
theorem nan2_c (n : Int) (w : World) : Calls Tryz.prog 118 #[.int .i64 n] w fun e w' => e = .returned (.bool false) ∧ w = w' := by
  have h : (n != n) = false := by simp
  go_enter Tryz.func118, Tryz.ntmps118
  go_wp2
  go_ret
  exact ⟨rfl, rfl⟩
theorem less_c (a b : Int) (w : World) : Calls Tryz.prog 163 #[.int .i64 a, .int .i64 b] w fun e w' => e = .returned (.bool (decide (a < b))) ∧ w = w' := by
  go_enter Tryz.func163, Tryz.ntmps163
  go_wp2_with (first | (go_at_call 118; (with_reducible refine (nan2_c _ _).mono ?_); rintro e w1 ⟨rfl, rfl⟩))
  go_ret
  exact ⟨rfl, rfl⟩

def lowIx (f : Nat → Int) (n : Nat) (t : Int) : Nat := ((List.range n).find? fun j => decide (t ≤ f j)).getD n
theorem lowIx_eq {f : Nat → Int} {n r : Nat} {t : Int} (hr : r ≤ n) (h1 : ∀ j, j < r → f j < t) (h2 : r < n → t ≤ f r) : lowIx f n t = r := by
  unfold lowIx
  by_cases h : r < n
  · have : (List.range n).find? (fun j => decide (t ≤ f j)) = some r := by
      rw [List.find?_range_eq_some]
      exact ⟨by simpa using h2 h, List.mem_range.2 h, fun j hj => by have := h1 j hj; simp; omega⟩
    rw [this]; rfl
  · have : (List.range n).find? (fun j => decide (t ≤ f j)) = none := by
      rw [List.find?_eq_none]
      intro j hj
      have := h1 j (by have := List.mem_range.1 hj; omega)
      simp; omega
    rw [this]; simp; omega

def SomeB (r : Int) (w : World) (e : Ending) (w' : World) : Prop := ∃ b, e = .returned (.tuple #[.int .i64 r, .bool b]) ∧ w = w'

set_option maxHeartbeats 1600000 in
theorem bs_c (A : Option Addr) (n c : Nat) (f : Nat → Int) (t : Int) (w : World) (hn : n ≤ 1000000)
    (hA : CellsAt w A n (fun k => .int .i64 (f k))) (hf : ∀ i j, i ≤ j → j < n → f i ≤ f j) :
   Calls Tryz.prog 187 #[.slice A n c, .int .i64 t] w (SomeB (lowIx f n t) w) := by
  have HF := Lib.hid hf
  clear hf
  go_enter Tryz.func187, Tryz.ntmps187
  go_wp2
  go_loop [7, 8, 9] (fun s7 s8 _ => ∃ i j : Nat, s7 = .int .i64 i ∧ s8 = .int .i64 j ∧ i ≤ j ∧ j ≤ n ∧ Hid (∀ a, a < i → f a < t) ∧ Hid (∀ a, j ≤ a → a < n → t ≤ f a)) (fun s7 s8 _ => (intOf s8).toNat - (intOf s7).toNat)
  case atStart => exact ⟨0, n, rfl, rfl, by omega, by omega, fun a ha => absurd ha (by omega), fun a h1 h2 => absurd h1 (by omega)⟩
  case round =>
    obtain ⟨i, j, rfl, rfl, hij, hj, h1, h2⟩ := hrel
    by_cases hlt : i < j
    · have hm1 : (i + j) / 2 < j := by omega
      have hm2 : i ≤ (i + j) / 2 := by omega
      obtain ⟨b, off, rfl, hb, hc⟩ := hA (by omega)
      have hcm := hc ((i + j) / 2) (by omega)
      clear hc hA
      by_cases hl : f ((i + j) / 2) < t
      · go_wp2_with (first | (go_at_call 163; (with_reducible refine (less_c _ _ _).mono ?_); rintro e w1 ⟨rfl, rfl⟩))
        go_round
        case rel => exact ⟨(i + j) / 2 + 1, j, by go_num, rfl, by omega, by omega, fun a ha => by
          have := HF.out a ((i + j) / 2) (by omega) (by omega); omega, h2⟩
        case measure => simp [intOf]; omega
      · go_wp2_with (first | (go_at_call 163; (with_reducible refine (less_c _ _ _).mono ?_); rintro e w1 ⟨rfl, rfl⟩))
        go_round
        case rel => exact ⟨i, (i + j) / 2, rfl, by go_num, by omega, by omega, h1, fun a ha1 ha2 => by
          have := HF.out ((i + j) / 2) a ha1 (by omega); omega⟩
        case measure => simp [intOf]; omega
    · obtain rfl : i = j := by omega
      have hr := lowIx_eq (f := f) (n := n) (r := i) (t := t) hj h1.out (fun h => h2.out i (by omega) h)
      have HR := Lib.hid hr
      clear hr
      by_cases hi : i < n
      · obtain ⟨b, off, rfl, hb, hc⟩ := hA (by omega)
        have hcm := hc i hi
        clear hc hA
        cases he : (f i == t)
        · go_wp2_with (first | (go_at_call 195; (with_reducible refine (nan1_c _ _).mono ?_); rintro e w1 ⟨rfl, rfl⟩))
          go_ret2
          exact ⟨_, by rw [HR.out]; rfl, rfl⟩
        · go_wp2_with (first | (go_at_call 195; (with_reducible refine (nan1_c _ _).mono ?_); rintro e w1 ⟨rfl, rfl⟩))
          go_ret2
          exact ⟨_, by rw [HR.out]; rfl, rfl⟩
      · clear hA
        go_wp2
        go_ret2
        exact ⟨_, by rw [HR.out]; rfl, rfl⟩
end Go.Proofs.YtonfnhonbnfdoaaGreat

namespace Go.Proofs.YtonfnhonbnfdoaaGreat
open Go Go.RowKit Go.Proofs

theorem axisB_all {l : List Int} (h : axisB l = true) {k : Nat} (hk : k < l.length) : okKnot l k = true := by
  unfold axisB at h; simp only [Bool.and_eq_true, List.all_eq_true] at h; exact h.2 k (List.mem_range.2 hk)
theorem axisB_range {l : List Int} (h : axisB l = true) {k : Nat} (hk : k < l.length) : -1000000 ≤ nth l k ∧ nth l k ≤ 1000000 := okKnot_range (axisB_all h hk)
theorem axisB_step {l : List Int} (h : axisB l = true) {k : Nat} (hk : k + 1 < l.length) : nth l k + 1 ≤ nth l (k + 1) ∧ nth l (k + 1) ≤ nth l k + 10000 := by
  have := axisB_all h hk
  unfold okKnot at this
  simp only [Bool.and_eq_true, Bool.or_eq_true] at this
  rcases this.2 with h2 | h2
  · simp at h2
  · have := inB_iff.1 h2; simp at this; omega
theorem axisB_lt {l : List Int} (h : axisB l = true) {i j : Nat} (hij : i < j) (hj : j < l.length) : nth l i < nth l j := by
  induction j with
  | zero => omega
  | succ j ih =>
    have hs := axisB_step h hj
    by_cases e : i = j
    · subst e; omega
    · have := ih (by omega) (by omega); omega
theorem axisB_le {l : List Int} (h : axisB l = true) {i j : Nat} (hij : i ≤ j) (hj : j < l.length) : nth l i ≤ nth l j := by
  by_cases e : i = j
  · subst e; omega
  · have := axisB_lt h (show i < j by omega) hj; omega

/-- Which part of an axis a number is on, as the program finds it. -/
def cellP (l : List Int) (x : Int) : Nat := lowIx (fun k => nth l (k + 1)) (l.length - 1 - 1) x
theorem lowIx_spec (f : Nat → Int) (n : Nat) (t : Int) : lowIx f n t ≤ n ∧ (∀ j, j < lowIx f n t → f j < t) ∧ (lowIx f n t < n → t ≤ f (lowIx f n t)) := by
  unfold lowIx
  cases h : (List.range n).find? fun j => decide (t ≤ f j) with
  | none =>
    rw [List.find?_eq_none] at h
    refine ⟨by simp, fun j hj => ?_, fun hj => by simp at hj⟩
    have := h j (List.mem_range.2 (by simpa using hj)); simp at this; omega
  | some r =>
    rw [List.find?_range_eq_some] at h
    obtain ⟨h1, h2, h3⟩ := h
    have := List.mem_range.1 h2
    refine ⟨by simp; omega, fun j hj => ?_, fun _ => by simpa using h1⟩
    have := h3 j (by simpa using hj); simp at this; omega
theorem cellP_lt {l : List Int} (h : axisB l = true) (x : Int) : cellP l x + 1 < l.length := by
  have := (lowIx_spec (fun k => nth l (k + 1)) (l.length - 1 - 1) x).1
  have := axisB_len h
  unfold cellP; omega
theorem cellP_in {l : List Int} {x : Int} (h : axisB l = true) (h0 : nth l 0 ≤ x) (h1 : x ≤ nth l (l.length - 1)) : nth l (cellP l x) ≤ x ∧ x ≤ nth l (cellP l x + 1) := by
  have hl := axisB_len h
  obtain ⟨a, b, c⟩ := lowIx_spec (fun k => nth l (k + 1)) (l.length - 1 - 1) x
  unfold cellP
  generalize lowIx (fun k => nth l (k + 1)) (l.length - 1 - 1) x = r at *
  constructor
  · by_cases e : r = 0
    · subst e; exact h0
    · have := b (r - 1) (by omega)
      have e2 : r - 1 + 1 = r := by omega
      rw [e2] at this; omega
  · by_cases e : r < l.length - 1 - 1
    · exact c e
    · have e2 : r + 1 = l.length - 1 := by omega
      rw [e2]; exact h1

theorem cell_c (v : Value) (xs : List Int) (x : Int) (w : World) (hv : Ints w v xs) (ha : axisB xs = true) :
   Calls Tryz.prog 175 #[v, .int .i64 x] w fun e w' => e = .returned (.int .i64 (cellP xs x)) ∧ w = w' := by
  have hl := axisB_len ha
  have HA := Lib.hid ha
  clear ha
  obtain ⟨A, c, rfl, hc1, hc2, _, hA⟩ := hv
  obtain ⟨b, off, rfl, hb, hc⟩ := hA (by omega)
  have hs : CellsAt w (some ⟨b, off + 1, none⟩) (xs.length - 1 - 1) (fun k => .int .i64 (nth xs (k + 1))) := fun h0 => ⟨b, off + 1, rfl, hb, fun k hk => by
    have := hc (k + 1) (by omega)
    rw [show off + 1 + k = off + (k + 1) by omega]; exact this⟩
  have HS := Lib.hid hs
  clear hs hc hA
  have i1 : (2:Int) ≤ (xs.length : Int) := by omega
  have i2 : (xs.length : Int) ≤ 12 := by omega
  go_enter Tryz.func175, Tryz.ntmps175
  go_wp2_with (go_at_call 187; refine (bs_c _ _ _ (fun k => nth xs (k + 1)) _ _ (by omega) HS.out (fun i j hij hj => axisB_le HA.out (by omega) (by omega))).mono ?_; rintro e w1 ⟨bb, rfl, rfl⟩)
  go_ret
  exact ⟨rfl, rfl⟩

/-- The fraction of a table at a point, in the part of the axes that i and k name. -/
def num (T : Tbl) (i k : Nat) (x y : Int) : Int :=
  (nth T.X (i + 1) - x) * (nth T.Y (k + 1) - y) * nth (nthR T.V i) k + (x - nth T.X i) * (nth T.Y (k + 1) - y) * nth (nthR T.V (i + 1)) k
    + (nth T.X (i + 1) - x) * (y - nth T.Y k) * nth (nthR T.V i) (k + 1) + (x - nth T.X i) * (y - nth T.Y k) * nth (nthR T.V (i + 1)) (k + 1)
def den (T : Tbl) (i k : Nat) (x y : Int) : Int :=
  (nth T.X (i + 1) - x + (x - nth T.X i)) * (nth T.Y (k + 1) - y + (y - nth T.Y k))

theorem tblB_len {T : Tbl} (h : tblB T = true) : T.V.length = T.X.length := by
  unfold tblB at h; simp only [Bool.and_eq_true] at h
  have := h.1.2; simp at this; omega
theorem tblB_row {T : Tbl} (h : tblB T = true) {i : Nat} (hi : i < T.V.length) : (nthR T.V i).length = T.Y.length ∧ ∀ k, k < T.Y.length → -1000000 ≤ nth (nthR T.V i) k ∧ nth (nthR T.V i) k ≤ 1000000 := by
  unfold tblB at h; simp only [Bool.and_eq_true] at h
  have h1 : anyRowBad T.Y.length T.V = false := by simpa using h.2
  unfold anyRowBad at h1
  rw [List.any_eq_false] at h1
  have h2 := h1 i (List.mem_range.2 hi)
  simp only [rowBad, Bool.or_eq_true, not_or, Bool.not_eq_true] at h2
  have hl : (nthR T.V i).length = T.Y.length := by have := h2.1; simp at this; omega
  refine ⟨hl, fun k hk => ?_⟩
  have h3 := h2.2
  unfold anyOut at h3
  rw [List.any_eq_false] at h3
  have := h3 k (List.mem_range.2 (by omega))
  exact inB_iff.1 (by simpa using this)

set_option maxHeartbeats 2000000 in
theorem at_c (x y v : Value) (T : Tbl) (px py : Int) (w : World) (hT : TblAt w x y v T) (ht : tblB T = true)
    (hx0 : nth T.X 0 ≤ px) (hx1 : px ≤ nth T.X (T.X.length - 1)) (hy0 : nth T.Y 0 ≤ py) (hy1 : py ≤ nth T.Y (T.Y.length - 1)) :
   Calls Tryz.prog 150 #[.agg #[x, y, v], .int .i64 px, .int .i64 py] w fun e w' =>
     e = .returned (.agg #[.int .i64 (num T (cellP T.X px) (cellP T.Y py) px py), .int .i64 (den T (cellP T.X px) (cellP T.Y py) px py)]) ∧ Below w.heap.size w w' := by
  have hX := tblB_X ht
  have hY := tblB_Y ht
  have lX := axisB_len hX
  have lY := axisB_len hY
  have lV := tblB_len ht
  have hTx := hT.x
  have hTy := hT.y
  obtain ⟨Ax, cx, rfl, cx1, cx2, _, hAx⟩ := id hT.x
  obtain ⟨Ay, cy, rfl, cy1, cy2, _, hAy⟩ := id hT.y
  obtain ⟨Av, cv, vs, rfl, cv1, cv2, hAv, hrows⟩ := hT.v
  obtain ⟨bx, ox, rfl, _, hcx⟩ := hAx (by omega)
  obtain ⟨by_, oy, rfl, _, hcy⟩ := hAy (by omega)
  obtain ⟨bv, ov, rfl, _, hcv⟩ := hAv (by omega)
  have ii := cellP_lt hX px
  have kk := cellP_lt hY py
  have pi := cellP_in hX hx0 hx1
  have pk := cellP_in hY hy0 hy1
  have si := axisB_step hX ii
  have sk := axisB_step hY kk
  have ri := axisB_range hX ii
  have rk := axisB_range hY kk
  generalize hi : cellP T.X px = i at *
  generalize hk : cellP T.Y py = k at *
  obtain ⟨l0, v0⟩ := tblB_row ht (show i < T.V.length by omega)
  obtain ⟨l1, v1⟩ := tblB_row ht (show i + 1 < T.V.length by omega)
  obtain ⟨A0, c0, hv0, c01, c02, _, hA0⟩ := hrows i (by omega)
  obtain ⟨A1, c1, hv1, c11, c12, _, hA1⟩ := hrows (i + 1) (by omega)
  obtain ⟨b0, o0, rfl, _, hc0⟩ := hA0 (by omega)
  obtain ⟨b1, o1, rfl, _, hc1⟩ := hA1 (by omega)
  have f1 := hcx i (by omega)
  have f2 := hcx (i + 1) (by omega)
  have f3 := hcy k (by omega)
  have f4 := hcy (k + 1) (by omega)
  have f5 := hcv i (by omega)
  have f6 := hcv (i + 1) (by omega)
  rw [hv0] at f5
  rw [hv1] at f6
  have f7 := hc0 k (by omega)
  have f8 := hc0 (k + 1) (by omega)
  have f9 := hc1 k (by omega)
  have f10 := hc1 (k + 1) (by omega)
  have u1 := v0 k (by omega)
  have u2 := v0 (k + 1) (by omega)
  have u3 := v1 k (by omega)
  have u4 := v1 (k + 1) (by omega)
  clear hcx hcy hcv hc0 hc1 hrows hAv hAx hAy hA0 hA1 hv0 hv1 v0 v1 hT
  rw [l0] at f5
  rw [l1] at f6
  simp only [num, den]
  clear l0 l1 ht
  have t1 : ((i : Int) + 1).toNat = i + 1 := by omega
  have t2 : ((k : Int) + 1).toNat = k + 1 := by omega
  have n1 : (0 : Int) ≤ (i : Int) + 1 := by omega
  have n2 : (0 : Int) ≤ (k : Int) + 1 := by omega
  have m1 : (i : Int) + 1 < (T.X.length : Int) := by omega
  have m2 : (k : Int) + 1 < (T.Y.length : Int) := by omega
  have m3 : (i : Int) < (T.X.length : Int) := by omega
  have m4 : (k : Int) < (T.Y.length : Int) := by omega
  have m5 : (i : Int) < (T.V.length : Int) := by omega
  have m6 : (i : Int) + 1 < (T.V.length : Int) := by omega
  go_enter Tryz.func150, Tryz.ntmps150
  go_wp2
  go_quiet (first | (go_at_call 175; (with_reducible refine qsame (cell_c _ T.X _ _ (hTx.below (by repeat' (first | exact Below.refl _ _ | assumption | refine Below.drew ?_ | refine bdn ?_ _ | refine bal ?_ _ | refine Below.setCell ?_ (by first | (simp; done) | omega | (simp; omega)) _))) hX))) | (go_at_call 175; (with_reducible refine qsame (cell_c _ T.Y _ _ (hTy.below (by repeat' (first | exact Below.refl _ _ | assumption | refine Below.drew ?_ | refine bdn ?_ _ | refine bal ?_ _ | refine Below.setCell ?_ (by first | (simp; done) | omega | (simp; omega)) _))) hY))))
  go_wp2
  go_quiet (fail)
  go_wp2
  go_quiet (fail)
  go_wp2
  refine wp_region_drawnt 59 (by kernel_rfl) (by kernel_rfl) ?_
  simp only [List.take_succ_cons, List.take_zero, List.drop_succ_cons, List.drop_zero]
  iterate 59 go_big_quiet_step (fail)
  refine wpQuiet_nil ?_
  rintro _ ⟨nq, rfl⟩
  have HBD := Lib.hid (And.intro si (And.intro sk (And.intro pi (And.intro pk (And.intro u1 (And.intro u2 (And.intro u3 u4)))))))
  clear hx0 hx1 hy0 hy1 lX lY lV cx1 cx2 cy1 cy2 cv1 cv2 ii kk pi pk si sk ri rk c01 c02 c11 c12 u1 u2 u3 u4 t1 t2 n1 n2 m1 m2 m3 m4 m5 m6 f1 f2 f3 f4 f5 f6 f7 f8 f9 f10 hi hk
  go_wp2
  obtain ⟨si, sk, pi, pk, u1, u2, u3, u4⟩ := HBD.out
  have EN := (wnum_eq (A := nth T.X (i + 1) - px) (B := px - nth T.X i) (C := nth T.Y (k + 1) - py) (D := py - nth T.Y k) (by omega) (by omega) (by omega) (by omega) (by omega) (by omega) (by omega) (by omega) u1 u2 u3 u4).1
  have ED := wden_eq (A := nth T.X (i + 1) - px) (B := px - nth T.X i) (C := nth T.Y (k + 1) - py) (D := py - nth T.Y k) (by omega) (by omega) (by omega) (by omega) (by omega) (by omega) (by omega) (by omega)
  clear si sk pi pk u1 u2 u3 u4
  rw [EN, ED]
  generalize (nth T.X (i + 1) - px) * (nth T.Y (k + 1) - py) * nth (nthR T.V i) k + (px - nth T.X i) * (nth T.Y (k + 1) - py) * nth (nthR T.V (i + 1)) k + (nth T.X (i + 1) - px) * (py - nth T.Y k) * nth (nthR T.V i) (k + 1) + (px - nth T.X i) * (py - nth T.Y k) * nth (nthR T.V (i + 1)) (k + 1) = NN
  generalize (nth T.X (i + 1) - px + (px - nth T.X i)) * (nth T.Y (k + 1) - py + (py - nth T.Y k)) = DD
  exact bodyPost_ret (v := .agg #[.int .i64 NN, .int .i64 DD]) (by simp [results, Tryz.results150, go_sem]) rfl ⟨rfl, (by repeat' (first | exact Below.refl _ _ | assumption | refine Below.drew ?_ | refine bdn ?_ _ | refine bal ?_ _ | refine Below.setCell ?_ (by first | (simp; done) | omega | (simp; omega)) _))⟩
end Go.Proofs.YtonfnhonbnfdoaaGreat

namespace Go.Proofs.YtonfnhonbnfdoaaGreat
open Go Go.RowKit Go.Proofs

set_option maxHeartbeats 800000 in
theorem or2_c (b c : Nat) (x y : Int) (w : World) (h0 : w.cell? ⟨b, 0, none⟩ = some (.int .i64 x)) (h1 : w.cell? ⟨b, 1, none⟩ = some (.int .i64 y)) :
   Calls Tryz.prog 151 #[.slice (some ⟨b, 0, none⟩) 2 c] w fun e w' => e = .returned (.int .i64 (orV x y)) ∧ w = w' := by
  go_enter Tryz.func151, Tryz.ntmps151
  go_wp2
  go_loop [5, 8] (fun _ s => ∃ k : Nat, k ≤ 2 ∧ s = .int .i64 k ∧ (0 < k → x = 0) ∧ (1 < k → y = 0)) (fun _ i => 2 - (intOf i).toNat)
  case atStart => exact ⟨0, by omega, rfl, fun h => absurd h (by omega), fun h => absurd h (by omega)⟩
  case round =>
    obtain ⟨k, hk, rfl, hx, hy⟩ := hrel
    rcases (show k = 0 ∨ k = 1 ∨ k = 2 by omega) with rfl | rfl | rfl
    · clear hx hy
      by_cases hz : x = 0
      · have hz2 : (x != 0) = false := by simp [hz]
        have HZ := Lib.hid hz
        clear hz
        go_wp2
        go_round
        case rel => exact ⟨1, by omega, by go_num, fun _ => HZ.out, fun h => absurd h (by omega)⟩
        case measure => simp [intOf]
      · have hz2 : (x != 0) = true := by simp [hz]
        have HZ := Lib.hid hz
        clear hz
        go_wp2
        go_ret
        exact ⟨ret_int (orV_ne HZ.out).symm, rfl⟩
    · have HX := Lib.hid (hx (by omega))
      clear hx hy
      by_cases hz : y = 0
      · have hz2 : (y != 0) = false := by simp [hz]
        have HZ := Lib.hid hz
        clear hz
        go_wp2
        go_round
        case rel => exact ⟨2, by omega, by go_num, fun _ => HX.out, fun _ => HZ.out⟩
        case measure => simp [intOf]
      · have hz2 : (y != 0) = true := by simp [hz]
        have HZ := Lib.hid hz
        clear hz
        go_wp2
        go_ret
        exact ⟨ret_int (by rw [HX.out, orV_zero]), rfl⟩
    · have HX := Lib.hid (hx (by omega))
      have HY := Lib.hid (hy (by omega))
      clear hx hy
      go_wp2
      go_ret
      exact ⟨ret_int (by rw [HX.out, HY.out, orV_zero]), rfl⟩

theorem up_c (n d : Int) (w : World) (h0 : -4000000000000000000 ≤ n) (h1 : n ≤ 4000000000000000000) (h2 : 1 ≤ d) (h3 : d ≤ 4000000000000000000) :
   Calls Tryz.prog 71 #[.agg #[.int .i64 n, .int .i64 d]] w fun e w' => e = .returned (.int .i64 (cdiv n d)) ∧ Below w.heap.size w w' := by
  go_enter Tryz.func71, Tryz.ntmps71
  go_wp2_with (first | (go_at_call 117; (with_reducible refine (ceil_c _ _ _ h0 h1 h2 h3).mono ?_); rintro e w1 ⟨rfl, rfl⟩))
  go_ret
  exact ⟨rfl, (by repeat' (first | exact Below.refl _ _ | assumption | refine Below.drew ?_ | refine bdn ?_ _ | refine bal ?_ _ | refine Below.setCell ?_ (by first | (simp; done) | omega | (simp; omega)) _))⟩

theorem sub_div {n d : Int} (hd : 1 ≤ d) : 0 ≤ n - n / d * d ∧ n - n / d * d < d := by
  have h1 := Int.emod_nonneg n (show d ≠ 0 by omega)
  have h2 := Int.emod_lt_of_pos n (show 0 < d by omega)
  have h3 := Int.emod_add_mul_ediv n d
  rw [Int.mul_comm] at h3
  omega

set_option maxHeartbeats 1600000 in
theorem compare_c (n1 d1 n2 d2 : Int) (w : World) (h1 : -400000000000000 ≤ n1 ∧ n1 ≤ 400000000000000) (h2 : 1 ≤ d1 ∧ d1 ≤ 400000000) (h3 : -400000000000000 ≤ n2 ∧ n2 ≤ 400000000000000) (h4 : 1 ≤ d2 ∧ d2 ≤ 400000000) :
   Calls Tryz.prog 116 #[.agg #[.int .i64 n1, .int .i64 d1], .agg #[.int .i64 n2, .int .i64 d2]] w fun e w' => e = .returned (.int .i64 (cmpV n1 d1 n2 d2)) ∧ Below w.heap.size w w' := by
  have b1 := ediv_bound (a := n1) (b := d1) (m := 400000000000000) h2.1 (by omega) h1.1 h1.2
  have b2 := ediv_bound (a := n2) (b := d2) (m := 400000000000000) h4.1 (by omega) h3.1 h3.2
  have s1 := sub_div (n := n1) h2.1
  have s2 := sub_div (n := n2) h4.1
  have f1 := fun w => floor_c n1 d1 w (by omega) (by omega) h2.1 (by omega)
  have f2 := fun w => floor_c n2 d2 w (by omega) (by omega) h4.1 (by omega)
  unfold cmpV
  generalize n1 / d1 = a at *
  generalize n2 / d2 = b at *
  have e1 := mul_bd (a := n1 - a * d1) (b := d2) (A := 400000000) (B := 400000000) (by omega) (by omega) (by omega) (by omega)
  have e2 := mul_bd (a := n2 - b * d2) (b := d1) (A := 400000000) (B := 400000000) (by omega) (by omega) (by omega) (by omega)
  have F1 := Lib.hid f1
  have F2 := Lib.hid f2
  clear f1 f2
  go_enter Tryz.func116, Tryz.ntmps116
  go_wp2
  go_quiet (first | (go_at_call 70; (with_reducible refine qsame (F1.out _))) | (go_at_call 70; (with_reducible refine qsame (F2.out _))))
  go_wp2_with (first | (go_at_call 151; go_loud (refine (or2_c _ _ (a - b) ((n1 - a * d1) * d2 - (n2 - b * d2) * d1) _ (by first | (simp; done) | (rw [cell_new_at _ _ _ _ _ (by simp)]; first | rfl | (simp; done))) (by first | (simp; done) | (rw [cell_new_at _ _ _ _ _ (by simp)]; first | rfl | (simp; done)))).mono ?_); rintro e w1 ⟨rfl, rfl⟩))
  go_ret
  exact ⟨rfl, (by repeat' (first | exact Below.refl _ _ | assumption | refine Below.drew ?_ | refine bdn ?_ _ | refine bal ?_ _ | refine Below.setCell ?_ (by first | (simp; done) | omega | (simp; omega)) _))⟩

/-- The ends of a span, and the knots within it. -/
def stopsF (xs : List Int) (lo hi : Int) (k : Nat) : List Int := lo :: (xs.take k).filter fun x => decide (lo < x) && decide (x < hi)
def stopsL (xs : List Int) (lo hi : Int) : List Int := stopsF xs lo hi xs.length ++ if lo < hi then [hi] else []
theorem stopsF_zero (xs : List Int) (lo hi : Int) : stopsF xs lo hi 0 = [lo] := by simp [stopsF]
theorem take_snoc (xs : List Int) (k : Nat) (h : k < xs.length) : xs.take (k + 1) = xs.take k ++ [nth xs k] := by
  rw [List.take_succ_eq_append_getElem h, nth_getElem xs k h]
theorem stopsF_keep (xs : List Int) (lo hi : Int) (k : Nat) (hk : k < xs.length) (h : (decide (lo < nth xs k) && decide (nth xs k < hi)) = true) : stopsF xs lo hi (k + 1) = stopsF xs lo hi k ++ [nth xs k] := by
  unfold stopsF; rw [take_snoc xs k hk, List.filter_append]; simp only [List.filter_cons, h]; simp
theorem stopsF_drop (xs : List Int) (lo hi : Int) (k : Nat) (hk : k < xs.length) (h : (decide (lo < nth xs k) && decide (nth xs k < hi)) = false) : stopsF xs lo hi (k + 1) = stopsF xs lo hi k := by
  unfold stopsF; rw [take_snoc xs k hk, List.filter_append]; simp only [List.filter_cons, h]; simp
theorem stopsF_len (xs : List Int) (lo hi : Int) (k : Nat) : (stopsF xs lo hi k).length ≤ k + 1 := by
  unfold stopsF
  have h1 := List.length_filter_le (fun x => decide (lo < x) && decide (x < hi)) (xs.take k)
  have h2 := List.length_take_le k xs
  simp only [List.length_cons]; omega

theorem one_new (w : World) (u : Value) (t : TypeId) : ∀ j x, [u][j]? = some x → (w.alloc (.cells #[u] t)).cell? ((⟨w.heap.size, 0, none⟩ : Addr).add j) = some x := by
  intro j x h
  match j, h with
  | 0, h => simp at h; subst h; simp [Addr.add]

theorem Tryz.infoInt : (Tryz.prog.info? 3).map (fun i => (i.zero, i.size, i.bytes)) = some (some (.int .i64 0), 1, 8) := by kernel_rfl
theorem Tryz.undInts : Tryz.prog.underlying 35 = some (.slice 3) := by kernel_rfl

set_option maxRecDepth 100000 in
set_option maxHeartbeats 1600000 in
theorem stops_c (v : Value) (xs : List Int) (lo hi : Int) (w : World) (hv : Ints w v xs) (hn : xs.length ≤ 1000) :
   Calls Tryz.prog 149 #[v, .agg #[.int .i64 lo, .int .i64 hi]] w fun e w' =>
     ∃ r, e = .returned r ∧ w'.ownsRow (w.heap.size + 1) 3 1 r (stopsL xs lo hi).length ((stopsL xs lo hi).map (Value.int .i64)) ∧ Below w.heap.size w w' := by
  obtain ⟨A, c, rfl, hc1, hc2, _, hA⟩ := hv
  obtain ⟨i0, hi0, hz0, hz1, hz2⟩ := info_parts Tryz.infoInt
  generalize hL : xs.length = n at *
  have HL := Lib.hid hL
  clear hL
  go_enter Tryz.func149, Tryz.ntmps149
  go_wp2
  go_loopw [5, 7, 13] (fun s5 _ s13 wr => ∃ k : Nat, k ≤ n ∧ s13 = .int .i64 k ∧ wr.ownsRow (w.heap.size + 1) 3 1 s5 (stopsF xs lo hi k).length ((stopsF xs lo hi k).map (Value.int .i64)) ∧ Hid (Below w.heap.size w wr)
      ∧ wr.cell? ⟨w.heap.size, 0, none⟩ = some (.int .i64 lo) ∧ wr.cell? ⟨w.heap.size, 1, none⟩ = some (.int .i64 hi)) (fun _ _ i _ => n - (intOf i).toNat)
  case atStart =>
    refine ⟨0, by omega, rfl, ?_, ?_, ?_, ?_⟩
    · rw [stopsF_zero]
      have h := World.ownsRow_lit (base := w.heap.size + 1) (e := 3) (size := 1) (w.alloc (.cells #[.int .i64 lo, .int .i64 hi] 23)) #[.int .i64 lo] 1 (by simp) (by decide) (by simp)
      simpa using h
    · exact (by repeat' (first | exact Below.refl _ _ | assumption | refine Below.drew ?_ | refine bdn ?_ _ | refine bal ?_ _ | refine Below.setCell ?_ (by first | (simp; done) | omega | (simp; omega)) _))
    · simp
    · simp
  case round =>
    obtain ⟨k, hk, rfl, hown, hB, hl, hh⟩ := hrel
    have hsz := hB.out.size
    by_cases hlt : k < n
    · obtain ⟨b, off, rfl, hb, hc⟩ := hA (by omega)
      have hck := (hB.out.cell (p := ⟨b, off + k, none⟩) hb).trans (hc k hlt)
      clear hc hA
      have hll := stopsF_len xs lo hi k
      cases h1 : decide (lo < nth xs k)
      · have hd : Hid (stopsF xs lo hi (k + 1) = stopsF xs lo hi k) := stopsF_drop xs lo hi k (by rw [HL.out]; exact hlt) (by simp [h1])
        go_wp2
        go_roundw
        case rel => exact ⟨k + 1, by omega, by go_num, by rw [hd.out]; exact hown, hB, hl, hh⟩
        case measure => simp [intOf]; omega
      · cases h2 : decide (nth xs k < hi)
        · have hd : Hid (stopsF xs lo hi (k + 1) = stopsF xs lo hi k) := stopsF_drop xs lo hi k (by rw [HL.out]; exact hlt) (by simp [h2])
          go_wp2
          go_roundw
          case rel => exact ⟨k + 1, by omega, by go_num, by rw [hd.out]; exact hown, hB, hl, hh⟩
          case measure => simp [intOf]; omega
        · have hd : Hid (stopsF xs lo hi (k + 1) = stopsF xs lo hi k ++ [nth xs k]) := stopsF_keep xs lo hi k (by rw [HL.out]; exact hlt) (by simp [h1, h2])
          go_wp2_with (at_builtin; go_loud (refine wpList_append_own _ rfl _ _ 35 rfl (w.heap.size + 1) 3 i0 (.int .i64 0) 1 8 Tryz.undInts hi0 hz0 hz1 hz2 rfl (by decide) _ _ _ rfl (hown.alloc _) ⟨wr.heap.size, 0, none⟩ 1 1 [.int .i64 (nth xs k)] rfl rfl ?c1 ?c2 ?c3 ?c4 ?c5 ?_))
          case c2 => rfl
          case c3 => unfold maxLen; omega
          case c4 => omega
          · intro v' w1 hown' hgrow _
            have hlt' := hown.lt
            have hB1 : Hid (Below w.heap.size w w1) := ((bal hB.out _).grown hgrow (by simp; omega) (fun g hg => by have := (hown.lt g hg).1; omega))
            have hl1 : w1.cell? ⟨w.heap.size, 0, none⟩ = some (.int .i64 lo) := hgrow.cell (by rw [World.cell?_alloc_lt _ _ _ (blk_lt hl)]; exact hl) (fun e => by have h9 := (hown.lt _ e.symm).1; dsimp only at h9; omega)
            have hh1 : w1.cell? ⟨w.heap.size, 1, none⟩ = some (.int .i64 hi) := hgrow.cell (by rw [World.cell?_alloc_lt _ _ _ (blk_lt hh)]; exact hh) (fun e => by have h9 := (hown.lt _ e.symm).1; dsimp only at h9; omega)
            clear hl hh hown hlt'
            go_wp2
            go_roundw
            case rel => exact ⟨k + 1, by omega, by go_num, by rw [hd.out]; simpa using hown', hB1, hl1, hh1⟩
            case measure => simp [intOf]; omega
    · obtain rfl : k = n := by omega
      clear hA
      have hll := stopsF_len xs lo hi k
      have hf : Hid (stopsL xs lo hi = stopsF xs lo hi k ++ if lo < hi then [hi] else []) := by show stopsL xs lo hi = _; unfold stopsL; rw [HL.out]
      by_cases hlh : lo < hi
      · go_wp2_with (at_builtin; go_loud (refine wpList_append_own _ rfl _ _ 35 rfl (w.heap.size + 1) 3 i0 (.int .i64 0) 1 8 Tryz.undInts hi0 hz0 hz1 hz2 rfl (by decide) _ _ _ rfl (hown.alloc _) ⟨wr.heap.size, 0, none⟩ 1 1 [.int .i64 hi] rfl rfl ?d1 ?d2 ?d3 ?d4 ?d5 ?_))
        case d1 => exact one_new _ _ _
        case d2 => intro u hu; simp at hu; subst hu; rfl
        case d3 => unfold maxLen; omega
        case d4 => omega
        case d5 => simp; omega
        · intro v' w1 hown' hgrow _
          have hB1 : Hid (Below w.heap.size w w1) := ((bal hB.out _).grown hgrow (by simp; omega) (fun g hg => by have := (hown.lt g hg).1; omega))
          clear hl hh hown
          go_wp2
          go_ret
          refine ⟨_, rfl, ?_, hB1.out⟩
          rw [hf.out, if_pos hlh]; simpa using hown'
      · have HLH := Lib.hid hlh
        go_wp2
        go_ret
        refine ⟨_, rfl, ?_, hB.out⟩
        rw [hf.out, if_neg (by have := HLH.out; omega)]; simpa using hown
end Go.Proofs.YtonfnhonbnfdoaaGreat

namespace Go.Proofs.YtonfnhonbnfdoaaGreat
open Go Go.RowKit Go.Proofs Go.Shelf
attribute [local go_sem] Oper.semAt_some

def encPt (p : Pt) : Array Value := #[.agg #[.int .i64 p.x, .int .i64 p.y, .int .i64 p.n, .int .i64 p.d]]

/-- The value of a table at a point, in the part that the program finds. -/
def numP (T : Tbl) (x y : Int) : Int := num T (cellP T.X x) (cellP T.Y y) x y
def denP (T : Tbl) (x y : Int) : Int := den T (cellP T.X x) (cellP T.Y y) x y

open Classical in
noncomputable def mkPt (T : Tbl) (x y : Int) : Pt :=
  if h : (-400000000000000 ≤ numP T x y ∧ numP T x y ≤ 400000000000000) ∧ (1 ≤ denP T x y ∧ denP T x y ≤ 400000000) then ⟨x, y, numP T x y, denP T x y, h.1, h.2⟩ else ⟨x, y, 0, 1, by omega, by omega⟩
noncomputable def cornersL (T : Tbl) (sx sy : List Int) : List Pt := sx.flatMap fun x => sy.map (mkPt T x)

/-- A point lies on a table. -/
def OnT (T : Tbl) (x y : Int) : Prop := nth T.X 0 ≤ x ∧ x ≤ nth T.X (T.X.length - 1) ∧ nth T.Y 0 ≤ y ∧ y ≤ nth T.Y (T.Y.length - 1)

theorem numP_bd {T : Tbl} {x y : Int} (ht : tblB T = true) (h : OnT T x y) : (-400000000000000 ≤ numP T x y ∧ numP T x y ≤ 400000000000000) ∧ (1 ≤ denP T x y ∧ denP T x y ≤ 400000000) := by
  obtain ⟨hx0, hx1, hy0, hy1⟩ := h
  have hX := tblB_X ht
  have hY := tblB_Y ht
  have lV := tblB_len ht
  have ii := cellP_lt hX x
  have kk := cellP_lt hY y
  have pi := cellP_in hX hx0 hx1
  have pk := cellP_in hY hy0 hy1
  have si := axisB_step hX ii
  have sk := axisB_step hY kk
  unfold numP denP num den
  generalize cellP T.X x = i at *
  generalize cellP T.Y y = k at *
  obtain ⟨_, v0⟩ := tblB_row ht (show i < T.V.length by omega)
  obtain ⟨_, v1⟩ := tblB_row ht (show i + 1 < T.V.length by omega)
  have h := (wnum_eq (A := nth T.X (i + 1) - x) (B := x - nth T.X i) (C := nth T.Y (k + 1) - y) (D := y - nth T.Y k) (by omega) (by omega) (by omega) (by omega) (by omega) (by omega) (by omega) (by omega)
    (v0 k (by omega)) (v0 (k + 1) (by omega)) (v1 k (by omega)) (v1 (k + 1) (by omega))).2
  refine ⟨h, ?_⟩
  have e1 : nth T.X (i + 1) - x + (x - nth T.X i) = nth T.X (i + 1) - nth T.X i := by omega
  have e2 : nth T.Y (k + 1) - y + (y - nth T.Y k) = nth T.Y (k + 1) - nth T.Y k := by omega
  rw [e1, e2]
  have m := mul_bd (a := nth T.X (i + 1) - nth T.X i) (b := nth T.Y (k + 1) - nth T.Y k) (A := 10000) (B := 10000) (by omega) (by omega) (by omega) (by omega)
  have p : 1 * 1 ≤ (nth T.X (i + 1) - nth T.X i) * (nth T.Y (k + 1) - nth T.Y k) := Int.mul_le_mul (by omega) (by omega) (by omega) (by omega)
  omega
theorem mkPt_n {T : Tbl} {x y : Int} (ht : tblB T = true) (h : OnT T x y) : (mkPt T x y).n = numP T x y ∧ (mkPt T x y).d = denP T x y := by
  unfold mkPt; rw [dif_pos (numP_bd ht h)]; exact ⟨rfl, rfl⟩
theorem mkPt_x (T : Tbl) (x y : Int) : (mkPt T x y).x = x ∧ (mkPt T x y).y = y := by
  unfold mkPt; split <;> exact ⟨rfl, rfl⟩

/-- Every cell that lay lies as it lay, but in the blocks that S names. -/
def KeepC (S : Nat → Prop) (A B : World) : Prop := A.heap.size ≤ B.heap.size ∧ ∀ k c t f, A.heap[k]? = some (.cells c t f) → ¬ S k → B.heap[k]? = some (.cells c t f)
theorem KeepC.trans {S : Nat → Prop} {A B C : World} (h : KeepC S A B) (k : KeepC S B C) : KeepC S A C :=
  ⟨Nat.le_trans h.1 k.1, fun i c t f hi hs => k.2 i c t f (h.2 i c t f hi hs) hs⟩
theorem KeepC.put {S : Nat → Prop} (W : World) (l : Nat) (o o' : Obj) (h : W.heap[l]? = some o) (ho : o.isCells = false) : KeepC S W (W.putObj l o') :=
  ⟨by simp, fun k c t f hk _ => by
    by_cases e : k = l
    · subst e; rw [h] at hk; cases hk; simp [Obj.isCells] at ho
    · exact (World.putObj_heap_other e).trans hk⟩
theorem KeepC.of_below {S : Nat → Prop} {A B : World} (h : Below A.heap.size A B) : KeepC S A B :=
  ⟨h.size, fun k c t f hk _ => (h.block k (Array.getElem?_eq_some_iff.1 hk).1).trans hk⟩
theorem KeepC.cell {S : Nat → Prop} {A B : World} (h : KeepC S A B) {b o : Nat} {v : Value} (hc : A.cell? ⟨b, o, none⟩ = some v) (hs : ¬ S b) : B.cell? ⟨b, o, none⟩ = some v := by
  unfold World.cell? at hc ⊢
  split at hc
  · rename_i c e f hb
    rw [show B.heap[(⟨b, o, none⟩ : Addr).block]? = some (.cells c e f) from h.2 b c e f hb hs]
    exact hc
  · simp at hc
theorem grownBy_of_below {A B : World} (h : Below A.heap.size A B) : A.grownBy B none :=
  ⟨h.os, h.tape, h.output, h.size, fun k hk _ => h.block k hk⟩

theorem CellsAt.keep {S : Nat → Prop} {w w' : World} {A : Option Addr} {n : Nat} {f : Nat → Value} (h : CellsAt w A n f) (hk : KeepC S w w') (hS : ∀ k, S k → w.heap.size ≤ k) : CellsAt w' A n f := by
  intro hn
  obtain ⟨b, off, hA, hlt, hc⟩ := h hn
  exact ⟨b, off, hA, Nat.lt_of_lt_of_le hlt hk.1, fun k hkn => hk.cell (hc k hkn) (fun hs => by have := hS b hs; omega)⟩
theorem Ints.keep {S : Nat → Prop} {w w' : World} {v : Value} {xs : List Int} (h : Ints w v xs) (hk : KeepC S w w') (hS : ∀ k, S k → w.heap.size ≤ k) : Ints w' v xs := by
  obtain ⟨A, c, rfl, h1, h2, h3, h4⟩ := h
  exact ⟨A, c, rfl, h1, h2, h3, h4.keep hk hS⟩
theorem TblAt.keep {S : Nat → Prop} {w w' : World} {x y v : Value} {T : Tbl} (h : TblAt w x y v T) (hk : KeepC S w w') (hS : ∀ k, S k → w.heap.size ≤ k) : TblAt w' x y v T := by
  refine ⟨h.x.keep hk hS, h.y.keep hk hS, ?_⟩
  obtain ⟨A, c, vs, e, h1, h2, h3, h4⟩ := h.v
  exact ⟨A, c, vs, e, h1, h2, h3.keep hk hS, fun k hkn => (h4 k hkn).keep hk hS⟩

/-- What an owned row of integers is good for. -/
theorem row_form {w : World} {base : Nat} {e : TypeId} {v : Value} {xs : List Int} (h : w.ownsRow base e 1 v xs.length (xs.map (Value.int .i64))) (h0 : 0 < xs.length) :
    ∃ g c, v = .slice (some ⟨g, 0, none⟩) xs.length c ∧ base ≤ g ∧ g < w.heap.size ∧ ∀ k, k < xs.length → w.cell? ⟨g, k, none⟩ = some (.int .i64 (nth xs k)) := by
  obtain ⟨hl, h2⟩ := id h
  rcases h2 with ⟨_, hz⟩ | ⟨g, cap, cur, rfl, hg, _⟩
  · omega
  · refine ⟨g, cap, rfl, hg, (h.lt g rfl).2, fun k hk => ?_⟩
    have := h.cells (g := g) rfl k (.int .i64 (nth xs k)) (by rw [List.getElem?_map, List.getElem?_eq_getElem hk, nth_getElem xs k hk]; rfl)
    rw [Addr.add_lit] at this
    simpa using this
end Go.Proofs.YtonfnhonbnfdoaaGreat

/- The iterator's own contract: corners$1, for every loop body that keeps the cells but its own boxes. -/
namespace Go.Proofs.YtonfnhonbnfdoaaGreat
open Go Go.RowKit Go.Proofs Go.Shelf
attribute [local go_sem] Oper.semAt_some

/-- How far the loops have come. -/
noncomputable def preL (T : Tbl) (sx sy : List Int) (i k : Nat) : List Pt := cornersL T (sx.take i) sy ++ (sy.take k).map (mkPt T (nth sx i))
theorem preL_zero (T : Tbl) (sx sy : List Int) : preL T sx sy 0 0 = [] := by simp [preL, cornersL]
theorem preL_k (T : Tbl) (sx sy : List Int) (i k : Nat) (hk : k < sy.length) : preL T sx sy i (k + 1) = preL T sx sy i k ++ [mkPt T (nth sx i) (nth sy k)] := by
  unfold preL; rw [take_snoc sy k hk]; simp
theorem preL_i (T : Tbl) (sx sy : List Int) (i : Nat) (hi : i < sx.length) : preL T sx sy (i + 1) 0 = preL T sx sy i sy.length := by
  unfold preL; rw [take_snoc sx i hi]; simp [cornersL]
theorem preL_end (T : Tbl) (sx sy : List Int) : preL T sx sy sx.length 0 = cornersL T sx sy := by simp [preL]
theorem cornersL_len (T : Tbl) (sx sy : List Int) : (cornersL T sx sy).length = sx.length * sy.length := by
  induction sx with
  | nil => simp [cornersL]
  | cons a l ih =>
    have : cornersL T (a :: l) sy = sy.map (mkPt T a) ++ cornersL T l sy := by simp [cornersL]
    rw [this, List.length_append, ih]; simp [Nat.add_mul, Nat.add_comm]
theorem preL_lt (T : Tbl) (sx sy : List Int) (i k : Nat) (hi : i < sx.length) (hk : k < sy.length) : (preL T sx sy i k).length < (cornersL T sx sy).length := by
  have h1 : (preL T sx sy i k).length = i * sy.length + k := by
    unfold preL
    rw [List.length_append, cornersL_len, List.length_map, List.length_take, List.length_take, Nat.min_eq_left (by omega), Nat.min_eq_left (by omega)]
  rw [h1, cornersL_len]
  have h2 : (i + 1) * sy.length ≤ sx.length * sy.length := Nat.mul_le_mul_right _ (by omega)
  rw [Nat.add_mul] at h2
  omega

theorem stopsL_pos (xs : List Int) (lo hi : Int) : 0 < (stopsL xs lo hi).length := by simp [stopsL, stopsF]
theorem stopsL_le (xs : List Int) (lo hi : Int) (h : xs.length ≤ 12) : (stopsL xs lo hi).length ≤ 14 := by
  have := stopsF_len xs lo hi xs.length
  unfold stopsL; rw [List.length_append]; split <;> simp <;> omega
theorem stopsL_in {xs : List Int} {lo hi : Int} (hlh : lo ≤ hi) {k : Nat} (hk : k < (stopsL xs lo hi).length) : lo ≤ nth (stopsL xs lo hi) k ∧ nth (stopsL xs lo hi) k ≤ hi := by
  have hm := nth_mem _ k hk
  generalize nth (stopsL xs lo hi) k = z at *
  unfold stopsL stopsF at hm
  simp only [List.mem_append, List.mem_cons, List.mem_filter, Bool.and_eq_true, decide_eq_true_eq] at hm
  rcases hm with (rfl | ⟨_, h1, h2⟩) | h
  · omega
  · omega
  · split at h
    · simp at h; omega
    · simp at h

set_option maxRecDepth 100000 in
set_option maxHeartbeats 4000000 in
theorem corners1_in (n : Nat) (hn : 1 ≤ n) (l bt bx by_ n₀ : Nat) (S : Nat → Prop) (hS : ∀ k, S k → n₀ ≤ k) (x y v : Value) (T : Tbl) (xl xh yl yh : Int) (J Jx : List Pt → World → Prop)
    (ht : tblB T = true) (hvx : xl ≤ xh) (hvy : yl ≤ yh) (hlx : liesB T.X xl xh = true) (hly : liesB T.Y yl yh = true)
    (W : World) (hn₀ : n₀ ≤ W.heap.size) (hSW : ∀ k, S k → k < W.heap.size)
    (hJ : AbidesFrom W.heap.size J)
    (hY : ∀ pre p W1, J pre W1 → pre.length < (cornersL T (stopsL T.X xl xh) (stopsL T.Y yl yh)).length → YieldAt Fence.wide (n - 1) Tryz.prog l (encPt p) W1 fun e W' =>
      (e = .returned (.bool true) ∧ J (pre ++ [p]) W' ∧ KeepC S W1 W') ∨ (e = .returned (.bool false) ∧ Jx (pre ++ [p]) W'))
    (t0 : W.cell? ⟨bt, 0, none⟩ = some x) (t1 : W.cell? ⟨bt, 1, none⟩ = some y) (t2 : W.cell? ⟨bt, 2, none⟩ = some v) (hbt : ¬ S bt)
    (x0 : W.cell? ⟨bx, 0, none⟩ = some (.int .i64 xl)) (x1 : W.cell? ⟨bx, 1, none⟩ = some (.int .i64 xh)) (hbx : ¬ S bx)
    (y0 : W.cell? ⟨by_, 0, none⟩ = some (.int .i64 yl)) (y1 : W.cell? ⟨by_, 1, none⟩ = some (.int .i64 yh)) (hby : ¬ S by_)
    (W₀ : World) (hW₀ : W₀.heap.size = n₀) (hT : TblAt W₀ x y v T) (hTB : Below n₀ W₀ W) (h0 : J [] W) :
    CallsIn Fence.wide n Tryz.prog 148 #[.func (.yield l) #[] #[], .pointer (some ⟨bt, 0, none⟩), .pointer (some ⟨bx, 0, none⟩), .pointer (some ⟨by_, 0, none⟩)] W fun e W' => (∃ v, e = .returned v) ∧
      ((∃ ys, ys = cornersL T (stopsL T.X xl xh) (stopsL T.Y yl yh) ∧ J ys W') ∨ (∃ pre, True ∧ Jx pre W')) := by
  have hX := tblB_X ht
  have hYY := tblB_Y ht
  have lX := axisB_len hX
  have lY := axisB_len hYY
  have HT := Lib.hid ht
  have hTK : ∀ w', KeepC S W w' → TblAt w' x y v T := fun w' hk => hT.keep (KeepC.trans (⟨by rw [hW₀]; exact hn₀, fun k c t f hk _ => (hTB.block k (by rw [← hW₀]; exact (Array.getElem?_eq_some_iff.1 hk).1)).trans hk⟩ : KeepC S W₀ W) hk) (fun k hs => by rw [hW₀]; exact hS k hs)
  clear hT hTB hW₀
  generalize hsx : stopsL T.X xl xh = sx at *
  generalize hsy : stopsL T.Y yl yh = sy at *
  have px : 0 < sx.length := by rw [← hsx]; exact stopsL_pos _ _ _
  have py : 0 < sy.length := by rw [← hsy]; exact stopsL_pos _ _ _
  have qx : sx.length ≤ 14 := by rw [← hsx]; exact stopsL_le _ _ _ (by omega)
  have qy : sy.length ≤ 14 := by rw [← hsy]; exact stopsL_le _ _ _ (by omega)
  have hon : ∀ i k, i < sx.length → k < sy.length → OnT T (nth sx i) (nth sy k) := by
    intro i k hi hk
    subst hsx; subst hsy
    have a := stopsL_in hvx hi
    have b := stopsL_in hvy hk
    simp only [liesB, Bool.and_eq_true, decide_eq_true_eq] at hlx hly
    exact ⟨by omega, by omega, by omega, by omega⟩
  have HSX := Lib.hid hsx
  have HSY := Lib.hid hsy
  clear hsx hsy ht hvx hvy hlx hly hX hYY
  have hHY := Lib.hid hY
  have hHJ := Lib.hid hJ
  have hHT := Lib.hid hTK
  have hHon := Lib.hid hon
  clear hY hJ hTK hon
  refine callsIn_of_wp Tryz.func148 rfl trivial ?_ rfl
  simp only [Tryz.ntmps148, List.size_toArray, List.length_cons, List.length_nil, Nat.reduceAdd, Nat.reduceSub, Array.replicate_succ, Array.replicate_zero, List.push_toArray, List.append_toArray, List.nil_append, List.cons_append]
  gi_wp2_with (refine ⟨trivial, ?_⟩; gi_at_call 149; refine (callsIn_wide.2 (stops_c _ T.X _ _ _ (hHT.out _ (KeepC.of_below (Below.refl _ _))).x (by omega))).mono ?_; rintro e w1 ⟨r1, rfl, hown1, hb1⟩; rw [HSX.out] at hown1; obtain ⟨g1, c1, rfl, hg1, hg1', hr1⟩ := row_form hown1 px)
  have k1 : KeepC S W w1 := KeepC.of_below hb1
  have j1 : J [] w1 := hHJ.out [] W w1 none h0 (grownBy_of_below hb1) (fun r e => by cases e)
  have hg1S : ¬ S g1 := fun h => by have := hSW g1 h; omega
  have HR1 := Lib.hid hr1
  clear hr1 h0 hown1
  gi_loopw [6, 14] (fun _ s wr => ∃ i : Nat, i ≤ sx.length ∧ s = .int .i64 i ∧ Hid (J (preL T sx sy i 0) wr) ∧ Hid (KeepC S w1 wr)) (fun _ s _ => sx.length - (intOf s).toNat)
  case atStart => exact ⟨0, by omega, rfl, by rw [preL_zero]; exact j1, ⟨Nat.le_refl _, fun _ _ _ _ h _ => h⟩⟩
  case round =>
    obtain ⟨i, hi, rfl, hJi, hKi⟩ := hrel
    have kW := k1.trans hKi.out
    by_cases hlt : i < sx.length
    · have ci := hKi.out.cell (HR1.out i hlt) hg1S
      have a1 := kW.cell t1 hbt
      have b0 := kW.cell y0 hby
      have b1 := kW.cell y1 hby
      gi_wp2_with (refine ⟨trivial, ?_⟩; gi_at_call 149; refine (callsIn_wide.2 (stops_c _ T.Y _ _ _ (hHT.out _ kW).y (by omega))).mono ?_; rintro e w2 ⟨r2, rfl, hown2, hb2⟩; rw [HSY.out] at hown2; obtain ⟨g2, c2, rfl, hg2, hg2', hr2⟩ := row_form hown2 py)
      have HR2 := Lib.hid hr2
      have k2 : KeepC S wr w2 := KeepC.of_below hb2
      have j2 : J (preL T sx sy i 0) w2 := hHJ.out _ wr w2 none hJi.out (grownBy_of_below hb2) (fun r e => by cases e)
      have hg2S : ¬ S g2 := fun h => by have := hSW g2 h; have := kW.1; omega
      have hw1 := kW.1
      clear hr2 hown2 ci a1 b0 b1
      obtain ⟨wo, rfl⟩ : ∃ wo : World, wo = wr := ⟨_, rfl⟩
      gi_loopw [8, 23, 30, 33, 34, 35, 36] (fun _ s _ _ _ _ _ wr => ∃ k : Nat, k ≤ sy.length ∧ s = .int .i64 k ∧ Hid (J (preL T sx sy i k) wr) ∧ Hid (KeepC S w2 wr)) (fun _ s _ _ _ _ _ _ => sy.length - (intOf s).toNat)
      case atStart => exact ⟨0, by omega, rfl, j2, ⟨Nat.le_refl _, fun _ _ _ _ h _ => h⟩⟩
      case round =>
        obtain ⟨k, hk, rfl, hJk, hKk⟩ := hrel
        have kW2 := (kW.trans k2).trans hKk.out
        by_cases hlt2 : k < sy.length
        · have ck := hKk.out.cell (HR2.out k hlt2) hg2S
          have a0 := kW2.cell t0 hbt
          have a1 := kW2.cell t1 hbt
          have a2 := kW2.cell t2 hbt
          have hP := hHon.out i k hlt hlt2
          gi_wp2_with (refine ⟨trivial, ?_⟩; gi_at_call 150; refine (callsIn_wide.2 (at_c _ _ _ T _ _ _ (hHT.out _ kW2) HT.out hP.1 hP.2.1 hP.2.2.1 hP.2.2.2)).mono ?_; rintro e w3 ⟨rfl, hb3⟩; have j3 : J (preL T sx sy i k) w3 := hHJ.out _ _ w3 none hJk.out (grownBy_of_below hb3) (fun r e => by cases e); have k3 : KeepC S wr w3 := KeepC.of_below hb3; obtain ⟨fn, tmps, assign, body, hy, hR⟩ := hHY.out _ (mkPt T (nth sx i) (nth sy k)) w3 j3 (preL_lt T sx sy i k hlt hlt2); have mx := mkPt_x T (nth sx i) (nth sy k); have mn := mkPt_n HT.out hP; simp only [encPt, mx.1, mx.2, mn.1, mn.2, numP, denP] at hy; clear mx mn)
          refine hR.mono ?_
          rintro e W3 (⟨rfl, hJ3, hk3⟩ | ⟨rfl, hJx3⟩)
          · have hpk := preL_k T sx sy i k hlt2
            have HPK := Lib.hid hpk
            clear hpk hy
            gi_wp2
            go_roundw
            case rel => exact ⟨k + 1, by omega, by go_num, by rw [HPK.out]; exact hJ3, (hKk.out.trans k3).trans hk3⟩
            case measure => simp [intOf]; omega
          · clear hy
            gi_wp2
            refine bodyPost_ret (results_none rfl _ _ _) rfl ?_
            exact ⟨⟨_, rfl⟩, .inr ⟨_, trivial, hJx3⟩⟩
        · obtain rfl : k = sy.length := by omega
          have hpi := preL_i T sx sy i hlt
          have HPI := Lib.hid hpi
          clear hpi
          gi_wp2
          go_roundw
          case rel => exact ⟨i + 1, by omega, by go_num, by rw [HPI.out]; exact hJk.out, (hKi.out.trans k2).trans hKk.out⟩
          case measure => simp [intOf]; omega
    · obtain rfl : i = sx.length := by omega
      gi_wp2
      go_end0
      exact ⟨⟨_, rfl⟩, .inl ⟨_, rfl, by rw [← preL_end]; exact hJi.out⟩⟩
end Go.Proofs.YtonfnhonbnfdoaaGreat

namespace Go.Proofs.YtonfnhonbnfdoaaGreat
open Go Go.RowKit Go.Proofs Go.Shelf
attribute [local go_sem] Oper.semAt_some

/-- Block g is just these cells, none frozen. -/
def Blk (W : World) (g : Nat) (t : TypeId) (cs : Array Value) : Prop := W.heap[g]? = some (.cells cs t (0, 0))
theorem Blk.lt {W : World} {g : Nat} {t : TypeId} {cs : Array Value} (h : Blk W g t cs) : g < W.heap.size := (Array.getElem?_eq_some_iff.1 h).1
theorem Blk.cell {W : World} {g : Nat} {t : TypeId} {cs : Array Value} (h : Blk W g t cs) (i : Nat) : W.cell? ⟨g, i, none⟩ = cs[i]? := by simp [World.cell?, show W.heap[g]? = _ from h]
theorem Blk.frozen {W : World} {g : Nat} {t : TypeId} {cs : Array Value} (h : Blk W g t cs) (i : Nat) : W.frozen? ⟨g, i, none⟩ = false := by simp [World.frozen?, show W.heap[g]? = _ from h]
theorem Blk.new (W : World) (t : TypeId) (cs : Array Value) : Blk (W.alloc (.cells cs t)) W.heap.size t cs := World.alloc_heap_new W _
theorem Blk.alloc {W : World} {g : Nat} {t : TypeId} {cs : Array Value} (h : Blk W g t cs) (o : Obj) : Blk (W.alloc o) g t cs := (Below.heap_alloc W o g h.lt).trans h
theorem Blk.below {W W' : World} {g : Nat} {t : TypeId} {cs : Array Value} (h : Blk W g t cs) (hb : Below W.heap.size W W') : Blk W' g t cs := (hb.block g h.lt).trans h
theorem Blk.set_ {W : World} {g : Nat} {t : TypeId} {cs : Array Value} (h : Blk W g t cs) (i : Nat) (u : Value) : Blk (W.setCell ⟨g, i, none⟩ u) g t (cs.setIfInBounds i u) := by
  obtain ⟨hlt, hk⟩ := Array.getElem?_eq_some_iff.1 h
  show (W.heap.modify g _)[g]? = _
  rw [Array.getElem?_eq_getElem (by rw [Array.size_modify]; exact hlt), Array.getElem_modify_self, hk]
  rfl
theorem Blk.far {W : World} {g : Nat} {t : TypeId} {cs : Array Value} (h : Blk W g t cs) {p : Addr} (hp : g ≠ p.block) (u : Value) : Blk (W.setCell p u) g t cs := (Below.heap_setCell W p u g hp).trans h
theorem blk_own {β : Type} (g : Nat) (t : TypeId) (f : β → Array Value) : Own (fun s W => Blk W g t (f s)) := fun s X Y row hs hg hrow => by
  refine (hg.block g (Blk.lt hs) (fun e => ?_)).trans hs
  obtain ⟨o, ho, hc⟩ := hrow g e.symm
  rw [show X.heap[g]? = _ from hs] at ho
  cases ho; cases hc

theorem kf_below {B : Nat} {W W' : World} (h : Below W.heap.size W W') : KeepsFrom B W W' := ⟨h.size, fun k _ _ hk _ => (h.block k (Array.getElem?_eq_some_iff.1 hk).1).trans hk⟩
theorem kc_alloc {S : Nat → Prop} (W : World) (o : Obj) : KeepC S W (W.alloc o) := KeepC.of_below (Below.alloc (Below.refl _ _) (Nat.le_refl _) _)
theorem kf_set {B : Nat} (W : World) (a : Addr) (u : Value) : KeepsFrom B W (W.setCell a u) := (KeepsOthers.setCell W a u).from B
theorem kc_set {S : Nat → Prop} (W : World) (a : Addr) (u : Value) (hs : S a.block) : KeepC S W (W.setCell a u) :=
  ⟨by simp, fun k c t f hk hn => (Below.heap_setCell W a u k (fun e => hn (e ▸ hs))).trans hk⟩

theorem corners_c (x y v : Value) (xl xh yl yh : Int) (w : World) :
   Calls Tryz.prog 115 #[.agg #[x, y, v], .agg #[.int .i64 xl, .int .i64 xh], .agg #[.int .i64 yl, .int .i64 yh]] w fun e w' =>
     e = .returned (.func (.func 148) #[] #[.pointer (some ⟨w.heap.size, 0, none⟩), .pointer (some ⟨w.heap.size + 1, 0, none⟩), .pointer (some ⟨w.heap.size + 1 + 1, 0, none⟩)]) ∧
     ((w.alloc (.cells #[x, y, v] 87)).alloc (.cells #[.int .i64 xl, .int .i64 xh] 23)).alloc (.cells #[.int .i64 yl, .int .i64 yh] 23) = w' := by
  go_enter Tryz.func115, Tryz.ntmps115
  go_wp2
  go_ret
  exact ⟨rfl, rfl⟩

theorem pt4 {W : World} {g : Nat} {t : TypeId} {a b c d : Int} (h : Blk W g t #[.int .i64 a, .int .i64 b, .int .i64 c, .int .i64 d]) :
    W.cell? ⟨g, 0, none⟩ = some (.int .i64 a) ∧ W.cell? ⟨g, 1, none⟩ = some (.int .i64 b) ∧ W.cell? ⟨g, 2, none⟩ = some (.int .i64 c) ∧ W.cell? ⟨g, 3, none⟩ = some (.int .i64 d) ∧ ∀ i, W.frozen? ⟨g, i, none⟩ = false :=
  ⟨h.cell 0, h.cell 1, h.cell 2, h.cell 3, h.frozen⟩
theorem Blk.far' {W : World} {g f i : Nat} {t : TypeId} {cs : Array Value} (h : Blk W g t cs) (hf : g ≠ f) (u : Value) : Blk (W.setCell ⟨f, i, none⟩ u) g t cs := h.far (p := ⟨f, i, none⟩) hf u
theorem kc_refl (S : Nat → Prop) (W : World) : KeepC S W W := KeepC.of_below (Below.refl _ _)
theorem kc_set' {S : Nat → Prop} (W : World) (g i : Nat) (u : Value) (hs : S g) : KeepC S W (W.setCell ⟨g, i, none⟩ u) := kc_set W _ u hs
theorem bset {B g i : Nat} {W W' : World} (h : Below B W W') (hg : B ≤ g) (u : Value) : Below B W (W'.setCell ⟨g, i, none⟩ u) := h.setCell (p := ⟨g, i, none⟩) hg u
theorem set4 {W : World} {g : Nat} {t : TypeId} {a b c d : Int} (h : Blk W g t #[.int .i64 a, .int .i64 b, .int .i64 c, .int .i64 d]) (p : Pt) :
    Blk ((((W.setCell ⟨g, 0, none⟩ (.int .i64 p.x)).setCell ⟨g, 1, none⟩ (.int .i64 p.y)).setCell ⟨g, 2, none⟩ (.int .i64 p.n)).setCell ⟨g, 3, none⟩ (.int .i64 p.d)) g t #[.int .i64 p.x, .int .i64 p.y, .int .i64 p.n, .int .i64 p.d] :=
  (((h.set_ 0 _).set_ 1 _).set_ 2 _).set_ 3 _
theorem Blk.far4 {W : World} {g f : Nat} {t : TypeId} {cs : Array Value} (h : Blk W g t cs) (hf : g ≠ f) (p : Pt) :
    Blk ((((W.setCell ⟨f, 0, none⟩ (.int .i64 p.x)).setCell ⟨f, 1, none⟩ (.int .i64 p.y)).setCell ⟨f, 2, none⟩ (.int .i64 p.n)).setCell ⟨f, 3, none⟩ (.int .i64 p.d)) g t cs :=
  (((h.far hf _).far hf _).far hf _).far hf _
theorem heap4 {W : World} {D f : Nat} {o : Option Obj} (h : W.heap[D]? = o) (hf : D ≠ f) (p : Pt) :
    ((((W.setCell ⟨f, 0, none⟩ (.int .i64 p.x)).setCell ⟨f, 1, none⟩ (.int .i64 p.y)).setCell ⟨f, 2, none⟩ (.int .i64 p.n)).setCell ⟨f, 3, none⟩ (.int .i64 p.d)).heap[D]? = o :=
  (Below.heap_setCell _ _ _ _ hf).trans ((Below.heap_setCell _ _ _ _ hf).trans ((Below.heap_setCell _ _ _ _ hf).trans ((Below.heap_setCell _ _ _ _ hf).trans h)))
theorem below4 {B : Nat} {W W' : World} {f : Nat} (h : Below B W W') (hf : B ≤ f) (p : Pt) :
    Below B W ((((W'.setCell ⟨f, 0, none⟩ (.int .i64 p.x)).setCell ⟨f, 1, none⟩ (.int .i64 p.y)).setCell ⟨f, 2, none⟩ (.int .i64 p.n)).setCell ⟨f, 3, none⟩ (.int .i64 p.d)) :=
  bset (bset (bset (bset h hf _) hf _) hf _) hf _
theorem Blk.put {W : World} {g D : Nat} {t : TypeId} {cs : Array Value} (h : Blk W g t cs) (hg : g ≠ D) (o : Obj) : Blk (W.drew.putObj D o) g t cs := by
  show (W.heap.setIfInBounds D o)[g]? = _
  rw [Array.getElem?_setIfInBounds_ne (Ne.symm hg)]
  exact h
theorem cornersL_ne (T : Tbl) (sx sy : List Int) (h1 : 0 < sx.length) (h2 : 0 < sy.length) : cornersL T sx sy ≠ [] := by
  intro h
  have e := congrArg List.length h
  rw [cornersL_len] at e
  have := Nat.mul_pos h1 h2
  simp only [List.length_nil] at e
  omega
/-- The cells of a point that may not have come yet. -/
def ptCells : Option Pt → Array Value
  | none => #[.int .i64 0, .int .i64 0, .int .i64 0, .int .i64 0]
  | some p => #[.int .i64 p.x, .int .i64 p.y, .int .i64 p.n, .int .i64 p.d]

def ExtrP (T : Tbl) (xl xh yl yh : Int) (w : World) (e : Ending) (w' : World) : Prop :=
  ∃ p q : Pt, e = .returned (.tuple #[.agg #[.int .i64 p.x, .int .i64 p.y, .int .i64 p.n, .int .i64 p.d], .agg #[.int .i64 q.x, .int .i64 q.y, .int .i64 q.n, .int .i64 q.d]])
    ∧ leastO (cornersL T (stopsL T.X xl xh) (stopsL T.Y yl yh)) = some p ∧ mostO (cornersL T (stopsL T.X xl xh) (stopsL T.Y yl yh)) = some q ∧ Below w.heap.size w w'

set_option maxRecDepth 100000 in
set_option maxHeartbeats 8000000 in
theorem extremes_c (x y v : Value) (T : Tbl) (xl xh yl yh : Int) (w : World) (hT : TblAt w x y v T)
    (ht : tblB T = true) (hvx : xl ≤ xh) (hvy : yl ≤ yh) (hlx : liesB T.X xl xh = true) (hly : liesB T.Y yl yh = true) :
   Calls Tryz.prog 69 #[.agg #[x, y, v], .agg #[.int .i64 xl, .int .i64 xh], .agg #[.int .i64 yl, .int .i64 yh]] w (ExtrP T xl xh yl yh w) := by
  refine (callsIn_wide (n := 9)).1 ?_
  refine callsIn_of_wp_marks Tryz.func69 rfl trivial ?_ rfl
  simp only [Tryz.ntmps69, List.size_toArray, List.length_cons, List.length_nil, Nat.reduceAdd, Nat.reduceSub, Array.replicate_succ, Array.replicate_zero, List.push_toArray, List.append_toArray, List.nil_append, List.cons_append]
  gi_wp2_with (refine ⟨trivial, ?_⟩; gi_at_call 115; refine (callsIn_wide.2 (corners_c _ _ _ _ _ _ _ _)).mono ?_; rintro e w1 ⟨rfl, rfl⟩)
  have hsz : (((((((((w.alloc (.cells #[x, y, v] 87)).alloc (.cells #[.int .i64 xl, .int .i64 xh] 23)).alloc (.cells #[.int .i64 yl, .int .i64 yh] 23)).alloc (.cells #[.int .i64 0, .int .i64 0, .int .i64 0, .int .i64 0] 143)).alloc (.cells #[.int .i64 0, .int .i64 0, .int .i64 0, .int .i64 0] 143)).alloc (.cells #[.bool false] 4)).alloc (.cells #[x, y, v] 87)).alloc (.cells #[.int .i64 xl, .int .i64 xh] 23)).alloc (.cells #[.int .i64 yl, .int .i64 yh] 23)).heap.size = w.heap.size + 9 := by simp
  generalize hWa : w.alloc (.cells #[x, y, v] 87) = Wa at hsz ⊢
  generalize hWb : Wa.alloc (.cells #[.int .i64 xl, .int .i64 xh] 23) = Wb at hsz ⊢
  generalize hWc : Wb.alloc (.cells #[.int .i64 yl, .int .i64 yh] 23) = Wc at hsz ⊢
  have sc : Wc.heap.size = w.heap.size + 1 + 1 + 1 := by rw [← hWc, ← hWb, ← hWa]; simp
  have bc : Below w.heap.size w Wc := by rw [← hWc, ← hWb, ← hWa]; exact bal (bal (bal (Below.refl _ _) _) _) _
  have q1 := Blk.new Wc 143 #[.int .i64 0, .int .i64 0, .int .i64 0, .int .i64 0]
  generalize hWd : Wc.alloc (.cells #[.int .i64 0, .int .i64 0, .int .i64 0, .int .i64 0] 143) = Wd at hsz q1 ⊢
  have sd : Wd.heap.size = Wc.heap.size + 1 := by rw [← hWd]; simp
  have bd : Below w.heap.size w Wd := by rw [← hWd]; exact bal bc _
  have q2 := Blk.new Wd 143 #[.int .i64 0, .int .i64 0, .int .i64 0, .int .i64 0]
  replace q1 := q1.alloc (.cells #[.int .i64 0, .int .i64 0, .int .i64 0, .int .i64 0] 143)
  generalize hWe : Wd.alloc (.cells #[.int .i64 0, .int .i64 0, .int .i64 0, .int .i64 0] 143) = We at hsz q1 q2 ⊢
  have se : We.heap.size = Wd.heap.size + 1 := by rw [← hWe]; simp
  have be : Below w.heap.size w We := by rw [← hWe]; exact bal bd _
  have q3 := Blk.new We 4 #[.bool false]
  replace q1 := q1.alloc (.cells #[.bool false] 4)
  replace q2 := q2.alloc (.cells #[.bool false] 4)
  generalize hWf : We.alloc (.cells #[.bool false] 4) = Wf at hsz q1 q2 q3 ⊢
  have sf : Wf.heap.size = We.heap.size + 1 := by rw [← hWf]; simp
  have bf : Below w.heap.size w Wf := by rw [← hWf]; exact bal be _
  have r1 := ((Blk.new Wf 87 #[x, y, v]).alloc (.cells #[.int .i64 xl, .int .i64 xh] 23)).alloc (.cells #[.int .i64 yl, .int .i64 yh] 23)
  have r2 := (Blk.new (Wf.alloc (.cells #[x, y, v] 87)) 23 #[.int .i64 xl, .int .i64 xh]).alloc (.cells #[.int .i64 yl, .int .i64 yh] 23)
  have r3 := Blk.new ((Wf.alloc (.cells #[x, y, v] 87)).alloc (.cells #[.int .i64 xl, .int .i64 xh] 23)) 23 #[.int .i64 yl, .int .i64 yh]
  replace q1 := ((q1.alloc (.cells #[x, y, v] 87)).alloc (.cells #[.int .i64 xl, .int .i64 xh] 23)).alloc (.cells #[.int .i64 yl, .int .i64 yh] 23)
  replace q2 := ((q2.alloc (.cells #[x, y, v] 87)).alloc (.cells #[.int .i64 xl, .int .i64 xh] 23)).alloc (.cells #[.int .i64 yl, .int .i64 yh] 23)
  replace q3 := ((q3.alloc (.cells #[x, y, v] 87)).alloc (.cells #[.int .i64 xl, .int .i64 xh] 23)).alloc (.cells #[.int .i64 yl, .int .i64 yh] 23)
  have hB0 : Below w.heap.size w (((Wf.alloc (.cells #[x, y, v] 87)).alloc (.cells #[.int .i64 xl, .int .i64 xh] 23)).alloc (.cells #[.int .i64 yl, .int .i64 yh] 23)) := bal (bal (bal bf _) _) _
  simp only [World.size_alloc] at r2 r3
  generalize hWg : ((Wf.alloc (.cells #[x, y, v] 87)).alloc (.cells #[.int .i64 xl, .int .i64 xh] 23)).alloc (.cells #[.int .i64 yl, .int .i64 yh] 23) = W0 at hsz q1 q2 q3 r1 r2 r3 hB0 ⊢
  rw [sf, se, sd, sc] at r1 r2 r3
  rw [se, sd, sc] at q3
  rw [sd, sc] at q2
  rw [sc] at q1
  clear hWa hWb hWc hWd hWe hWf hWg sc sd se sf bc bd be bf
  clear Wa Wb Wc Wd We Wf
  have hsp : ∀ k, (w.heap.size + 1 + 1 + 1 ≤ k ∧ k ≤ w.heap.size + 1 + 1 + 1 + 1 + 1) → w.heap.size ≤ k := fun k h => by omega
  refine wpIn_rangeFunc_ownH (α := Pt) rfl (by omega) (gf := 148) (lb := #[.pointer (some ⟨w.heap.size + 1 + 1 + 1 + 1 + 1 + 1, 0, none⟩), .pointer (some ⟨w.heap.size + 1 + 1 + 1 + 1 + 1 + 1 + 1, 0, none⟩), .pointer (some ⟨w.heap.size + 1 + 1 + 1 + 1 + 1 + 1 + 1 + 1, 0, none⟩)]) rfl trivial (enters_of Tryz.func148 (by kernel_rfl) rfl)
    (encs := encPt) (Kp := KeepC (fun k => w.heap.size + 1 + 1 + 1 ≤ k ∧ k ≤ w.heap.size + 1 + 1 + 1 + 1 + 1)) (S := fun ys => ys = cornersL T (stopsL T.X xl xh) (stopsL T.Y yl yh)) (Sp := fun _ => True) (N := (cornersL T (stopsL T.X xl xh) (stopsL T.Y yl yh)).length)
    (fun l J Jx W hW hJ _ hY h0 => corners1_in 8 (by omega) l _ _ _ w.heap.size (fun k => w.heap.size + 1 + 1 + 1 ≤ k ∧ k ≤ w.heap.size + 1 + 1 + 1 + 1 + 1) hsp x y v T xl xh yl yh J Jx ht hvx hvy hlx hly W
      (by have := hB0.size; have := hW.size; omega) (fun k hk => by have := hW.size; omega) hJ hY
      ((r1.below hW).cell 0) ((r1.below hW).cell 1) ((r1.below hW).cell 2) (by omega) ((r2.below hW).cell 0) ((r2.below hW).cell 1) (by omega) ((r3.below hW).cell 0) ((r3.below hW).cell 1) (by omega) w rfl hT (hB0.trans (hW.mono hB0.size)) h0)
    KeepC.trans (fun W l o o' _ ho hc _ => KeepC.put W l o o' ho hc) (Below.refl _ _) (fun _ => rfl)
    (fun pre W => (Blk W (w.heap.size + 1 + 1 + 1) 143 (ptCells (leastO pre)) ∧ Blk W (w.heap.size + 1 + 1 + 1 + 1) 143 (ptCells (mostO pre)) ∧ Blk W (w.heap.size + 1 + 1 + 1 + 1 + 1) 4 #[.bool (!pre.isEmpty)]) ∧ Below w.heap.size w W)
    (fun _ _ _ => False)
    (OwnFrom.and (OwnFrom.and (Own.from (blk_own _ _ _) _) (OwnFrom.and (Own.from (blk_own _ _ _) _) (Own.from (blk_own _ _ _) _))) (ownFrom_below (Nat.le_refl _) (by omega)))
    (fun _ _ _ _ _ hs _ _ => hs)
    ⟨⟨q1, q2, q3⟩, hB0⟩
    (fun p a' W => ∃ Bx, w.heap.size + 1 + 1 + 1 + 1 + 1 < Bx ∧ Blk W Bx 143 #[.int .i64 p.x, .int .i64 p.y, .int .i64 p.n, .int .i64 p.d] ∧ a' = { tmps := #[.agg #[x, y, v], .agg #[.int .i64 xl, .int .i64 xh], .agg #[.int .i64 yl, .int .i64 yh], .pointer (some ⟨w.heap.size, 0, none⟩), .pointer (some ⟨w.heap.size + 1, 0, none⟩), .pointer (some ⟨w.heap.size + 1 + 1, 0, none⟩), .pointer (some ⟨w.heap.size + 1 + 1 + 1, 0, none⟩), .pointer (some ⟨w.heap.size + 1 + 1 + 1 + 1, 0, none⟩), .pointer (some ⟨w.heap.size + 1 + 1 + 1 + 1 + 1, 0, none⟩), .pointer (some ⟨Bx, 0, none⟩), .agg #[x, y, v], .agg #[.int .i64 xl, .int .i64 xh], .agg #[.int .i64 yl, .int .i64 yh], .func (.func 148) #[] #[.pointer (some ⟨w.heap.size + 1 + 1 + 1 + 1 + 1 + 1, 0, none⟩), .pointer (some ⟨w.heap.size + 1 + 1 + 1 + 1 + 1 + 1 + 1, 0, none⟩), .pointer (some ⟨w.heap.size + 1 + 1 + 1 + 1 + 1 + 1 + 1 + 1, 0, none⟩)], .agg #[.int .i64 p.x, .int .i64 p.y, .int .i64 p.n, .int .i64 p.d], undef, undef, undef, undef, undef, undef, undef, undef, undef, undef, undef, undef, undef, undef, undef, undef, undef, undef, undef, undef, undef, undef, undef, undef], defers := [] })
    (fun p a' _ X Y row hs hg hr => by obtain ⟨Bx, h1, h2, h3⟩ := hs; exact ⟨Bx, h1, blk_own Bx 143 (fun (_ : Unit) => #[.int .i64 p.x, .int .i64 p.y, .int .i64 p.n, .int .i64 p.d]) () X Y row h2 hg (fun r e => (hr r e).2), h3⟩)
    ?assign ?body ?done ?stop
  case assign =>
    rintro l pre p W K ⟨⟨b1, b2, b3⟩, hB1⟩ hK
    simp only [encPt]
    gi_wp2
    exact hK _ _ ((KeepsOthers.alloc _ _).from _) (kc_alloc _ _) ⟨⟨b1.alloc _, b2.alloc _, b3.alloc _⟩, bal hB1 _⟩ ⟨W.heap.size, by have := b3.lt; omega, Blk.new W _ _, rfl⟩
  case body =>
    rintro l pre p a' W hl ⟨r, hr⟩ ⟨⟨b1, b2, b3⟩, hB1⟩ ⟨Bx, hBx, bX, rfl⟩ hlt
    have bX0 := bX
    have hsW := hB1.size
    rcases pt4 bX with ⟨hX0, hX1, hX2, hX3, -⟩
    rcases List.eq_nil_or_concat pre with rfl | ⟨pre', p', hpre⟩
    · have hc3 : W.cell? ⟨w.heap.size + 1 + 1 + 1 + 1 + 1, 0, none⟩ = some (.bool false) := b3.cell 0
      have hf3 := b3.frozen 0
      rcases pt4 (a := 0) (b := 0) (c := 0) (d := 0) b1 with ⟨hl0, hl1, hl2, hl3, hlf⟩
      rcases pt4 (a := 0) (b := 0) (c := 0) (d := 0) b2 with ⟨hm0, hm1, hm2, hm3, hmf⟩
      gi_wp2_with (refine ⟨trivial, ?_⟩)
      exact ⟨(by repeat' (with_reducible first | exact KeepsFrom.refl _ _ | refine KeepsFrom.trans ?_ (kf_set _ _ _) | refine KeepsFrom.trans ?_ (kf_below (RowKit.Hid.out (by assumption))))), (by repeat' (with_reducible first | exact kc_refl _ _ | refine KeepC.trans ?_ (kc_set' _ _ _ _ ?_) | refine KeepC.trans ?_ (KeepC.of_below (RowKit.Hid.out (by assumption))) | (constructor <;> omega))), ⟨((set4 b1 p).far4 (by omega) p).far' (by omega) _, (set4 (b2.far4 (by omega) p) p).far' (by omega) _, ((b3.far4 (by omega) p).far4 (by omega) p).set_ 0 _⟩, (by repeat' (with_reducible first | assumption | refine bset ?_ ?_ _ | refine Below.trans ?_ (Below.mono (RowKit.Hid.out (by assumption)) ?_) | (simp; done) | omega | (simp; omega)))⟩
    · have hne : pre ≠ [] := by simp [hpre]
      obtain ⟨q, hq, -⟩ := leastO_some pre hne
      obtain ⟨s, hs, -⟩ := mostO_some pre hne
      have hpb : (!pre.isEmpty) = true := by cases pre <;> simp at hne ⊢
      rw [hpb] at b3
      rw [hq] at b1
      rw [hs] at b2
      have hc3 : W.cell? ⟨w.heap.size + 1 + 1 + 1 + 1 + 1, 0, none⟩ = some (.bool true) := b3.cell 0
      have hf3 := b3.frozen 0
      rcases pt4 (a := q.x) (b := q.y) (c := q.n) (d := q.d) b1 with ⟨hl0, hl1, hl2, hl3, hlf⟩
      rcases pt4 (a := s.x) (b := s.y) (c := s.n) (d := s.d) b2 with ⟨hm0, hm1, hm2, hm3, hmf⟩
      have hI1 : leastO (pre ++ [p]) = if cmpV p.n p.d q.n q.d < 0 then some p else some q := by rw [leastO_snoc, hq]; rfl
      have hI2 : mostO (pre ++ [p]) = if 0 < cmpV p.n p.d s.n s.d then some p else some s := by rw [mostO_snoc, hs]; rfl
      have hI3 : (!(pre ++ [p]).isEmpty) = true := by cases pre <;> rfl
      have m1 := Lib.hid b1
      have m2 := Lib.hid b2
      have m3 := Lib.hid b3
      have mX := Lib.hid bX
      clear hpb hpre hne hq hs b1 b2 b3 bX bX0
      cases h1 : decide (cmpV p.n p.d q.n q.d < 0) <;> cases h2 : decide (0 < cmpV p.n p.d s.n s.d)
      all_goals
        have E1 : RowKit.Hid (leastO (pre ++ [p]) = if cmpV p.n p.d q.n q.d < 0 then some p else some q) := Lib.hid hI1
        have E2 := Lib.hid hI2
        have E3 := Lib.hid hI3
        have H1 := Lib.hid h1
        have H2 := Lib.hid h2
        clear hI1 hI2 hI3
        gi_wp2_with (refine ⟨trivial, ?_⟩; gi_at_call 116; refine (CallsIn.inRound l (callsIn_wide.2 (compare_c _ _ _ _ _ (Pt.hn _) (Pt.hd _) (Pt.hn _) (Pt.hd _)))).mono ?_; rintro e w1 ⟨rfl, hb⟩; first | (have n1 := Lib.hid ((m1.out).below hb); have n2 := Lib.hid ((m2.out).below hb); have n3 := Lib.hid ((m3.out).below hb); have nX := Lib.hid ((mX.out).below hb); clear m1 m2 m3 mX; have m1 := n1; have m2 := n2; have m3 := n3; have mX := nX; clear n1 n2 n3 nX; clear hX0 hX1 hX2 hX3 hm0 hm1 hm2 hm3 hmf hl0 hl1 hl2 hl3 hlf hc3 hf3; have hc3 := m3.out.cell 0; have hf3 := m3.out.frozen 0; rcases pt4 mX.out with ⟨hX0, hX1, hX2, hX3, -⟩; rcases pt4 m1.out with ⟨hl0, hl1, hl2, hl3, hlf⟩; rcases pt4 m2.out with ⟨hm0, hm1, hm2, hm3, hmf⟩; have hz := hb.size; (try simp at hz); have hK := Lib.hid hb; clear hb) | (have n1 := Lib.hid ((set4 m1.out p).below hb); have n2 := Lib.hid ((m2.out.far4 (by omega) p).below hb); have n3 := Lib.hid ((m3.out.far4 (by omega) p).below hb); have nX := Lib.hid ((mX.out.far4 (by omega) p).below hb); clear m1 m2 m3 mX; have m1 := n1; have m2 := n2; have m3 := n3; have mX := nX; clear n1 n2 n3 nX; clear hX0 hX1 hX2 hX3 hm0 hm1 hm2 hm3 hmf hl0 hl1 hl2 hl3 hlf hc3 hf3; have hc3 := m3.out.cell 0; have hf3 := m3.out.frozen 0; rcases pt4 mX.out with ⟨hX0, hX1, hX2, hX3, -⟩; rcases pt4 m1.out with ⟨hl0, hl1, hl2, hl3, hlf⟩; rcases pt4 m2.out with ⟨hm0, hm1, hm2, hm3, hmf⟩; have hz := hb.size; (try simp at hz); have hK := Lib.hid hb; clear hb))
      · refine ⟨(by repeat' (with_reducible first | exact KeepsFrom.refl _ _ | refine KeepsFrom.trans ?_ (kf_set _ _ _) | refine KeepsFrom.trans ?_ (kf_below (RowKit.Hid.out (by assumption))))), (by repeat' (with_reducible first | exact kc_refl _ _ | refine KeepC.trans ?_ (kc_set' _ _ _ _ ?_) | refine KeepC.trans ?_ (KeepC.of_below (RowKit.Hid.out (by assumption))) | (constructor <;> omega))), ⟨?_, ?_, ?_⟩, (by repeat' (with_reducible first | assumption | refine bset ?_ ?_ _ | refine Below.trans ?_ (Below.mono (RowKit.Hid.out (by assumption)) ?_) | (simp; done) | omega | (simp; omega)))⟩
        · rw [E1.out, if_neg (of_decide_eq_false H1.out)]; exact m1.out.far' (by omega) _
        · rw [E2.out, if_neg (of_decide_eq_false H2.out)]; exact m2.out.far' (by omega) _
        · rw [E3.out]; exact m3.out.set_ 0 _
      · refine ⟨(by repeat' (with_reducible first | exact KeepsFrom.refl _ _ | refine KeepsFrom.trans ?_ (kf_set _ _ _) | refine KeepsFrom.trans ?_ (kf_below (RowKit.Hid.out (by assumption))))), (by repeat' (with_reducible first | exact kc_refl _ _ | refine KeepC.trans ?_ (kc_set' _ _ _ _ ?_) | refine KeepC.trans ?_ (KeepC.of_below (RowKit.Hid.out (by assumption))) | (constructor <;> omega))), ⟨?_, ?_, ?_⟩, (by repeat' (with_reducible first | assumption | refine bset ?_ ?_ _ | refine Below.trans ?_ (Below.mono (RowKit.Hid.out (by assumption)) ?_) | (simp; done) | omega | (simp; omega)))⟩
        · rw [E1.out, if_neg (of_decide_eq_false H1.out)]; exact (m1.out.far4 (by omega) p).far' (by omega) _
        · rw [E2.out, if_pos (of_decide_eq_true H2.out)]; exact (set4 m2.out p).far' (by omega) _
        · rw [E3.out]; exact (m3.out.far4 (by omega) p).set_ 0 _
      · refine ⟨(by repeat' (with_reducible first | exact KeepsFrom.refl _ _ | refine KeepsFrom.trans ?_ (kf_set _ _ _) | refine KeepsFrom.trans ?_ (kf_below (RowKit.Hid.out (by assumption))))), (by repeat' (with_reducible first | exact kc_refl _ _ | refine KeepC.trans ?_ (kc_set' _ _ _ _ ?_) | refine KeepC.trans ?_ (KeepC.of_below (RowKit.Hid.out (by assumption))) | (constructor <;> omega))), ⟨?_, ?_, ?_⟩, (by repeat' (with_reducible first | assumption | refine bset ?_ ?_ _ | refine Below.trans ?_ (Below.mono (RowKit.Hid.out (by assumption)) ?_) | (simp; done) | omega | (simp; omega)))⟩
        · rw [E1.out, if_pos (of_decide_eq_true H1.out)]; exact m1.out.far' (by omega) _
        · rw [E2.out, if_neg (of_decide_eq_false H2.out)]; exact m2.out.far' (by omega) _
        · rw [E3.out]; exact m3.out.set_ 0 _
      · refine ⟨(by repeat' (with_reducible first | exact KeepsFrom.refl _ _ | refine KeepsFrom.trans ?_ (kf_set _ _ _) | refine KeepsFrom.trans ?_ (kf_below (RowKit.Hid.out (by assumption))))), (by repeat' (with_reducible first | exact kc_refl _ _ | refine KeepC.trans ?_ (kc_set' _ _ _ _ ?_) | refine KeepC.trans ?_ (KeepC.of_below (RowKit.Hid.out (by assumption))) | (constructor <;> omega))), ⟨?_, ?_, ?_⟩, (by repeat' (with_reducible first | assumption | refine bset ?_ ?_ _ | refine Below.trans ?_ (Below.mono (RowKit.Hid.out (by assumption)) ?_) | (simp; done) | omega | (simp; omega)))⟩
        · rw [E1.out, if_pos (of_decide_eq_true H1.out)]; exact (m1.out.far4 (by omega) p).far' (by omega) _
        · rw [E2.out, if_pos (of_decide_eq_true H2.out)]; exact (set4 m2.out p).far' (by omega) _
        · rw [E3.out]; exact (m3.out.far4 (by omega) p).set_ 0 _
  case done =>
    rintro D ys W hD rfl ⟨⟨b1, b2, b3⟩, hB1⟩ hK
    obtain ⟨q, hq, -⟩ := leastO_some _ (cornersL_ne T (stopsL T.X xl xh) (stopsL T.Y yl yh) (stopsL_pos _ _ _) (stopsL_pos _ _ _))
    obtain ⟨s, hs, -⟩ := mostO_some _ (cornersL_ne T (stopsL T.X xl xh) (stopsL T.Y yl yh) (stopsL_pos _ _ _) (stopsL_pos _ _ _))
    rw [hq] at b1
    rw [hs] at b2
    rcases pt4 (a := q.x) (b := q.y) (c := q.n) (d := q.d) b1 with ⟨hl0, hl1, hl2, hl3, hlf⟩
    rcases pt4 (a := s.x) (b := s.y) (c := s.n) (d := s.d) b2 with ⟨hm0, hm1, hm2, hm3, hmf⟩
    gi_wp2
    gi_region
    all_goals (try gi_wp2)
    have hsW := hB1.size
    have hDD : w.heap.size + 9 ≤ D := by omega
    have z1 := (set4 b1 q).far4 (f := w.heap.size + 1 + 1 + 1 + 1) (by omega) s
    have z2 := set4 (b2.far4 (f := w.heap.size + 1 + 1 + 1) (by omega) q) s
    have zD := heap4 (D := D) (f := w.heap.size + 1 + 1 + 1 + 1) (heap4 (D := D) (f := w.heap.size + 1 + 1 + 1) hK (by omega) q) (by omega) s
    have zB : Below w.heap.size w _ := below4 (f := w.heap.size + 1 + 1 + 1 + 1) (below4 (f := w.heap.size + 1 + 1 + 1) hB1 (by omega) q) (by omega) s
    generalize ((((((((W.setCell ⟨w.heap.size + 1 + 1 + 1, 0, none⟩ (.int .i64 q.x)).setCell ⟨w.heap.size + 1 + 1 + 1, 1, none⟩ (.int .i64 q.y)).setCell ⟨w.heap.size + 1 + 1 + 1, 2, none⟩ (.int .i64 q.n)).setCell ⟨w.heap.size + 1 + 1 + 1, 3, none⟩ (.int .i64 q.d)).setCell ⟨w.heap.size + 1 + 1 + 1 + 1, 0, none⟩ (.int .i64 s.x)).setCell ⟨w.heap.size + 1 + 1 + 1 + 1, 1, none⟩ (.int .i64 s.y)).setCell ⟨w.heap.size + 1 + 1 + 1 + 1, 2, none⟩ (.int .i64 s.n)).setCell ⟨w.heap.size + 1 + 1 + 1 + 1, 3, none⟩ (.int .i64 s.d)) = Z at *
    refine ⟨by simp, .inl ⟨_, _, rfl, run_takeDeferred (show Z.drew.heap[D]? = _ from zD), ?_⟩⟩
    have y1 : Blk (Z.drew.putObj D (.deferred none)) (w.heap.size + 1 + 1 + 1) 143 _ := Blk.put z1 (by omega) _
    have y2 : Blk (Z.drew.putObj D (.deferred none)) (w.heap.size + 1 + 1 + 1 + 1) 143 _ := Blk.put z2 (by omega) _
    have yB : Below w.heap.size w (Z.drew.putObj D (.deferred none)) := (Below.drew zB).trans (belowK_b (w := w) (Nat.le_refl _) Z.drew D _ _ (by omega) zD rfl rfl)
    generalize Z.drew.putObj D (.deferred none) = Y at *
    rcases pt4 y1 with ⟨k0, k1, k2, k3, -⟩
    rcases pt4 y2 with ⟨j0, j1, j2, j3, -⟩
    refine ⟨.tuple #[.agg #[.int .i64 q.x, .int .i64 q.y, .int .i64 q.n, .int .i64 q.d], .agg #[.int .i64 s.x, .int .i64 s.y, .int .i64 s.n, .int .i64 s.d]], ?_, q, s, rfl, hq, hs, yB⟩
    simp (maxDischargeDepth := 9) [results, Tryz.results69, go_sem, k0, k1, k2, k3, j0, j1, j2, j3]
  case stop =>
    rintro D c pre W _ _ h _
    exact h.elim
end Go.Proofs.YtonfnhonbnfdoaaGreat

namespace Go.Proofs.YtonfnhonbnfdoaaGreat
open Go Go.RowKit Go.Proofs

theorem Blk.newAt {g : Nat} (W : World) (t : TypeId) (cs : Array Value) (hg : g = W.heap.size) : Blk (W.alloc (.cells cs t)) g t cs := by rw [hg]; exact Blk.new W t cs
/-- Blocks made one after the other: what each holds, and that nothing else has changed. -/
theorem frm1 (w : World) (c1 : Array Value) (T1 : TypeId) : Blk (w.alloc (.cells c1 T1)) (w.heap.size) T1 c1 ∧ Below w.heap.size w (w.alloc (.cells c1 T1)) ∧ w.heap.size < (w.alloc (.cells c1 T1)).heap.size :=
  ⟨(Blk.newAt (g := w.heap.size) _ T1 c1 rfl), (bal (Below.refl _ _) _), Blk.lt (t := T1) (cs := c1) (Blk.newAt (g := w.heap.size) _ T1 c1 rfl)⟩
theorem frm2 (w : World) (c1 : Array Value) (T1 : TypeId) (c2 : Array Value) (T2 : TypeId) : Blk ((w.alloc (.cells c1 T1)).alloc (.cells c2 T2)) (w.heap.size) T1 c1 ∧ Blk ((w.alloc (.cells c1 T1)).alloc (.cells c2 T2)) (w.heap.size + 1) T2 c2 ∧ Below w.heap.size w ((w.alloc (.cells c1 T1)).alloc (.cells c2 T2)) ∧ w.heap.size + 1 < ((w.alloc (.cells c1 T1)).alloc (.cells c2 T2)).heap.size :=
  ⟨((Blk.newAt (g := w.heap.size) _ T1 c1 rfl).alloc _), (Blk.newAt (g := w.heap.size + 1) _ T2 c2 (by simp)), (bal (bal (Below.refl _ _) _) _), Blk.lt (t := T2) (cs := c2) (Blk.newAt (g := w.heap.size + 1) _ T2 c2 (by simp))⟩
theorem frm3 (w : World) (c1 : Array Value) (T1 : TypeId) (c2 : Array Value) (T2 : TypeId) (c3 : Array Value) (T3 : TypeId) : Blk (((w.alloc (.cells c1 T1)).alloc (.cells c2 T2)).alloc (.cells c3 T3)) (w.heap.size) T1 c1 ∧ Blk (((w.alloc (.cells c1 T1)).alloc (.cells c2 T2)).alloc (.cells c3 T3)) (w.heap.size + 1) T2 c2 ∧ Blk (((w.alloc (.cells c1 T1)).alloc (.cells c2 T2)).alloc (.cells c3 T3)) (w.heap.size + 1 + 1) T3 c3 ∧ Below w.heap.size w (((w.alloc (.cells c1 T1)).alloc (.cells c2 T2)).alloc (.cells c3 T3)) ∧ w.heap.size + 1 + 1 < (((w.alloc (.cells c1 T1)).alloc (.cells c2 T2)).alloc (.cells c3 T3)).heap.size :=
  ⟨(((Blk.newAt (g := w.heap.size) _ T1 c1 rfl).alloc _).alloc _), ((Blk.newAt (g := w.heap.size + 1) _ T2 c2 (by simp)).alloc _), (Blk.newAt (g := w.heap.size + 1 + 1) _ T3 c3 (by simp)), (bal (bal (bal (Below.refl _ _) _) _) _), Blk.lt (t := T3) (cs := c3) (Blk.newAt (g := w.heap.size + 1 + 1) _ T3 c3 (by simp))⟩
theorem frm4 (w : World) (c1 : Array Value) (T1 : TypeId) (c2 : Array Value) (T2 : TypeId) (c3 : Array Value) (T3 : TypeId) (c4 : Array Value) (T4 : TypeId) : Blk ((((w.alloc (.cells c1 T1)).alloc (.cells c2 T2)).alloc (.cells c3 T3)).alloc (.cells c4 T4)) (w.heap.size) T1 c1 ∧ Blk ((((w.alloc (.cells c1 T1)).alloc (.cells c2 T2)).alloc (.cells c3 T3)).alloc (.cells c4 T4)) (w.heap.size + 1) T2 c2 ∧ Blk ((((w.alloc (.cells c1 T1)).alloc (.cells c2 T2)).alloc (.cells c3 T3)).alloc (.cells c4 T4)) (w.heap.size + 1 + 1) T3 c3 ∧ Blk ((((w.alloc (.cells c1 T1)).alloc (.cells c2 T2)).alloc (.cells c3 T3)).alloc (.cells c4 T4)) (w.heap.size + 1 + 1 + 1) T4 c4 ∧ Below w.heap.size w ((((w.alloc (.cells c1 T1)).alloc (.cells c2 T2)).alloc (.cells c3 T3)).alloc (.cells c4 T4)) ∧ w.heap.size + 1 + 1 + 1 < ((((w.alloc (.cells c1 T1)).alloc (.cells c2 T2)).alloc (.cells c3 T3)).alloc (.cells c4 T4)).heap.size :=
  ⟨((((Blk.newAt (g := w.heap.size) _ T1 c1 rfl).alloc _).alloc _).alloc _), (((Blk.newAt (g := w.heap.size + 1) _ T2 c2 (by simp)).alloc _).alloc _), ((Blk.newAt (g := w.heap.size + 1 + 1) _ T3 c3 (by simp)).alloc _), (Blk.newAt (g := w.heap.size + 1 + 1 + 1) _ T4 c4 (by simp)), (bal (bal (bal (bal (Below.refl _ _) _) _) _) _), Blk.lt (t := T4) (cs := c4) (Blk.newAt (g := w.heap.size + 1 + 1 + 1) _ T4 c4 (by simp))⟩
theorem frm6 (w : World) (c1 : Array Value) (T1 : TypeId) (c2 : Array Value) (T2 : TypeId) (c3 : Array Value) (T3 : TypeId) (c4 : Array Value) (T4 : TypeId) (c5 : Array Value) (T5 : TypeId) (c6 : Array Value) (T6 : TypeId) : Blk ((((((w.alloc (.cells c1 T1)).alloc (.cells c2 T2)).alloc (.cells c3 T3)).alloc (.cells c4 T4)).alloc (.cells c5 T5)).alloc (.cells c6 T6)) (w.heap.size) T1 c1 ∧ Blk ((((((w.alloc (.cells c1 T1)).alloc (.cells c2 T2)).alloc (.cells c3 T3)).alloc (.cells c4 T4)).alloc (.cells c5 T5)).alloc (.cells c6 T6)) (w.heap.size + 1) T2 c2 ∧ Blk ((((((w.alloc (.cells c1 T1)).alloc (.cells c2 T2)).alloc (.cells c3 T3)).alloc (.cells c4 T4)).alloc (.cells c5 T5)).alloc (.cells c6 T6)) (w.heap.size + 1 + 1) T3 c3 ∧ Blk ((((((w.alloc (.cells c1 T1)).alloc (.cells c2 T2)).alloc (.cells c3 T3)).alloc (.cells c4 T4)).alloc (.cells c5 T5)).alloc (.cells c6 T6)) (w.heap.size + 1 + 1 + 1) T4 c4 ∧ Blk ((((((w.alloc (.cells c1 T1)).alloc (.cells c2 T2)).alloc (.cells c3 T3)).alloc (.cells c4 T4)).alloc (.cells c5 T5)).alloc (.cells c6 T6)) (w.heap.size + 1 + 1 + 1 + 1) T5 c5 ∧ Blk ((((((w.alloc (.cells c1 T1)).alloc (.cells c2 T2)).alloc (.cells c3 T3)).alloc (.cells c4 T4)).alloc (.cells c5 T5)).alloc (.cells c6 T6)) (w.heap.size + 1 + 1 + 1 + 1 + 1) T6 c6 ∧ Below w.heap.size w ((((((w.alloc (.cells c1 T1)).alloc (.cells c2 T2)).alloc (.cells c3 T3)).alloc (.cells c4 T4)).alloc (.cells c5 T5)).alloc (.cells c6 T6)) ∧ w.heap.size + 1 + 1 + 1 + 1 + 1 < ((((((w.alloc (.cells c1 T1)).alloc (.cells c2 T2)).alloc (.cells c3 T3)).alloc (.cells c4 T4)).alloc (.cells c5 T5)).alloc (.cells c6 T6)).heap.size :=
  ⟨((((((Blk.newAt (g := w.heap.size) _ T1 c1 rfl).alloc _).alloc _).alloc _).alloc _).alloc _), (((((Blk.newAt (g := w.heap.size + 1) _ T2 c2 (by simp)).alloc _).alloc _).alloc _).alloc _), ((((Blk.newAt (g := w.heap.size + 1 + 1) _ T3 c3 (by simp)).alloc _).alloc _).alloc _), (((Blk.newAt (g := w.heap.size + 1 + 1 + 1) _ T4 c4 (by simp)).alloc _).alloc _), ((Blk.newAt (g := w.heap.size + 1 + 1 + 1 + 1) _ T5 c5 (by simp)).alloc _), (Blk.newAt (g := w.heap.size + 1 + 1 + 1 + 1 + 1) _ T6 c6 (by simp)), (bal (bal (bal (bal (bal (bal (Below.refl _ _) _) _) _) _) _) _), Blk.lt (t := T6) (cs := c6) (Blk.newAt (g := w.heap.size + 1 + 1 + 1 + 1 + 1) _ T6 c6 (by simp))⟩

noncomputable def bndLo (T : Tbl) (xl xh yl yh : Int) : Int := match leastO (cornersL T (stopsL T.X xl xh) (stopsL T.Y yl yh)) with | some p => p.n / p.d | none => 0
noncomputable def bndHi (T : Tbl) (xl xh yl yh : Int) : Int := match mostO (cornersL T (stopsL T.X xl xh) (stopsL T.Y yl yh)) with | some p => cdiv p.n p.d | none => 0
theorem bndLo_eq {T : Tbl} {xl xh yl yh : Int} {p : Pt} (h : leastO (cornersL T (stopsL T.X xl xh) (stopsL T.Y yl yh)) = some p) : bndLo T xl xh yl yh = p.n / p.d := by unfold bndLo; rw [h]
theorem bndHi_eq {T : Tbl} {xl xh yl yh : Int} {p : Pt} (h : mostO (cornersL T (stopsL T.X xl xh) (stopsL T.Y yl yh)) = some p) : bndHi T xl xh yl yh = cdiv p.n p.d := by unfold bndHi; rw [h]

/-- A table on which a box lies. -/
structure Fits (T : Tbl) (xl xh yl yh : Int) : Prop where
  t : tblB T = true
  vx : vspan xl xh = true
  vy : vspan yl yh = true
  lx : liesB T.X xl xh = true
  ly : liesB T.Y yl yh = true
theorem vspan_le {l h : Int} (v : vspan l h = true) : l ≤ h := by unfold vspan at v; simp only [Bool.and_eq_true, inB, decide_eq_true_eq] at v; omega
theorem Fits.cp {T : Tbl} {xl xh yl yh : Int} (h : Fits T xl xh yl yh) : cpE T xl xh yl yh = 0 := by simp [cpE, h.t, h.vx, h.vy, h.lx, h.ly]

set_option maxHeartbeats 1600000 in
theorem Bound_c (x y v : Value) (T : Tbl) (xl xh yl yh : Int) (w : World) (hT : TblAt w x y v T) (hF : Fits T xl xh yl yh) :
   Calls Tryz.prog 34 #[.agg #[x, y, v], .agg #[.int .i64 xl, .int .i64 xh], .agg #[.int .i64 yl, .int .i64 yh]] w fun e w' => e = .returned (.tuple #[.agg #[.int .i64 (bndLo T xl xh yl yh), .int .i64 (bndHi T xl xh yl yh)], .int .i64 0]) ∧ Below w.heap.size w w' := by
  have e1 := hF.cp
  have HF := Lib.hid hF
  clear hF
  go_enter Tryz.func34, Tryz.ntmps34
  go_wp2_with (first | (go_at_call 68; (with_reducible refine (checkPoints_c x y v T xl xh yl yh _ (hT.below (by repeat' (first | exact Below.refl _ _ | assumption | refine Below.drew ?_ | refine bdn ?_ _ | refine bal ?_ _ | refine Below.setCell ?_ (by first | (simp; done) | omega | (simp; omega)) _)))).mono ?_); rintro e u1 ⟨rfl, hu1⟩; have uB := bthen (show Below w.heap.size w _ from (by repeat' (first | exact Below.refl _ _ | assumption | refine Below.drew ?_ | refine bdn ?_ _ | refine bal ?_ _ | refine Below.setCell ?_ (by first | (simp; done) | omega | (simp; omega)) _))) hu1; have hz0 := hu1.size; (try simp at hz0); have rB := Lib.hid (Blk.below (Blk.new _ 23 #[.int .i64 0, .int .i64 0]) hu1); obtain ⟨hc1, hf1⟩ := bcell hu1; clear hu1) | (go_at_call 69; (with_reducible refine (extremes_c x y v T xl xh yl yh _ (hT.below uB) HF.out.t (vspan_le HF.out.vx) (vspan_le HF.out.vy) HF.out.lx HF.out.ly).mono ?_); rintro e w1 ⟨p, q, rfl, hp, hq, hb1⟩; have hB1 := bthen uB hb1; have hz1 := hb1.size; have rC := Lib.hid (rB.out.below hb1); clear rB))
  have R := (rC.out.alloc (.cells #[.int .i64 p.x, .int .i64 p.y, .int .i64 p.n, .int .i64 p.d] 143)).alloc (.cells #[.int .i64 q.x, .int .i64 q.y, .int .i64 q.n, .int .i64 q.d] 143)
  have P1 := (Blk.new w1 143 #[.int .i64 p.x, .int .i64 p.y, .int .i64 p.n, .int .i64 p.d]).alloc (.cells #[.int .i64 q.x, .int .i64 q.y, .int .i64 q.n, .int .i64 q.d] 143)
  have P2 := Blk.new (w1.alloc (.cells #[.int .i64 p.x, .int .i64 p.y, .int .i64 p.n, .int .i64 p.d] 143)) 143 #[.int .i64 q.x, .int .i64 q.y, .int .i64 q.n, .int .i64 q.d]
  simp only [World.size_alloc] at R P2
  have BZ := bal (bal hB1 (.cells #[.int .i64 p.x, .int .i64 p.y, .int .i64 p.n, .int .i64 p.d] 143)) (.cells #[.int .i64 q.x, .int .i64 q.y, .int .i64 q.n, .int .i64 q.d] 143)
  have hn := bndLo_eq hp
  have hm := bndHi_eq hq
  have pn := p.hn
  have pd := p.hd
  have qn := q.hn
  have qd := q.hd
  generalize bndLo T xl xh yl yh = lo at *
  generalize bndHi T xl xh yl yh = hi at *
  subst hn
  subst hm
  generalize (w1.alloc (.cells #[.int .i64 p.x, .int .i64 p.y, .int .i64 p.n, .int .i64 p.d] 143)).alloc (.cells #[.int .i64 q.x, .int .i64 q.y, .int .i64 q.n, .int .i64 q.d] 143) = Z at *
  have f1 : ∀ r : After Z, r.w.cell? ⟨w1.heap.size, 2, none⟩ = some (.int .i64 p.n) := fun r => (P1.below r.below).cell 2
  have f2 : ∀ r : After Z, r.w.cell? ⟨w1.heap.size, 3, none⟩ = some (.int .i64 p.d) := fun r => (P1.below r.below).cell 3
  have f3 : ∀ r : After Z, r.w.cell? ⟨w1.heap.size + 1, 2, none⟩ = some (.int .i64 q.n) := fun r => (P2.below r.below).cell 2
  have f4 : ∀ r : After Z, r.w.cell? ⟨w1.heap.size + 1, 3, none⟩ = some (.int .i64 q.d) := fun r => (P2.below r.below).cell 3
  refine wp_region_aftert 11 (by kernel_rfl) (by kernel_rfl) ?_
  simp only [List.take_succ_cons, List.take_zero, List.drop_succ_cons, List.drop_zero]
  repeat (go_big_quiet_step (first | (go_at_call 70; (with_reducible refine qafter_same (floor_c p.n p.d _ (by omega) (by omega) pd.1 (by omega)))) | (go_at_call 71; (with_reducible refine qafter (up_c q.n q.d _ (by omega) (by omega) qd.1 (by omega))))))
  refine wpQuiet_nil ?_
  rintro _ ⟨r, rfl⟩
  have R' := R.below r.below
  have g0 : r.w.cell? ⟨w.heap.size + 1 + 1 + 1, 0, none⟩ = some (.int .i64 0) := R'.cell 0
  have g1 : r.w.cell? ⟨w.heap.size + 1 + 1 + 1, 1, none⟩ = some (.int .i64 0) := R'.cell 1
  have g2 := fun i => R'.frozen i
  clear f1 f2 f3 f4
  have BR := bthen BZ r.below
  go_wp2
  exact bodyPost_ret (v := .tuple #[.agg #[.int .i64 (p.n / p.d), .int .i64 (cdiv q.n q.d)], .int .i64 0]) (by simp (maxDischargeDepth := 9) [results, Tryz.results34, go_sem, g0, g1]) rfl ⟨by rw [bndLo_eq hp, bndHi_eq hq], bset (bset BR (by omega) _) (by omega) _⟩

end Go.Proofs.YtonfnhonbnfdoaaGreat

namespace Go.Proofs.YtonfnhonbnfdoaaGreat
open Go Go.RowKit Go.Proofs

set_option maxRecDepth 100000
set_option maxHeartbeats 4000000

/-- A slice's value. -/
def IsSl (v : Value) : Prop := ∃ a n c, v = .slice a n c

end Go.Proofs.YtonfnhonbnfdoaaGreat

namespace Go.Proofs.YtonfnhonbnfdoaaGreat
open Go Go.RowKit Go.Proofs

set_option maxRecDepth 100000
set_option maxHeartbeats 4000000

def lkE (T : Tbl) (xl xh yl yh : Int) : Bool := liesB T.X xl xh && liesB T.Y yl yh
end Go.Proofs.YtonfnhonbnfdoaaGreat

namespace Go.Proofs.YtonfnhonbnfdoaaGreat
open Go Go.RowKit Go.Proofs

structure Tabs where
  h : Tbl
  g : Tbl
  l : Tbl
  p : Tbl
  n : Tbl
  a : Tbl
  c : Tbl
  d : Tbl

structure RotAt (w : World) (hx hy hv gx gy gv lx ly lv px py pv nx ny nv ax ay av cx cy cv dx dy dv : Value) (cl bu : Int) (S : Tabs) : Prop where
  h : TblAt w hx hy hv S.h
  g : TblAt w gx gy gv S.g
  l : TblAt w lx ly lv S.l
  p : TblAt w px py pv S.p
  n : TblAt w nx ny nv S.n
  a : TblAt w ax ay av S.a
  c : TblAt w cx cy cv S.c
  d : TblAt w dx dy dv S.d
  cl : I64 cl
  bu : I64 bu
theorem RotAt.below {w w' : World} {hx hy hv gx gy gv lx ly lv px py pv nx ny nv ax ay av cx cy cv dx dy dv : Value} {cl bu : Int} {S : Tabs} (h : RotAt w hx hy hv gx gy gv lx ly lv px py pv nx ny nv ax ay av cx cy cv dx dy dv cl bu S) (hb : Below w.heap.size w w') : RotAt w' hx hy hv gx gy gv lx ly lv px py pv nx ny nv ax ay av cx cy cv dx dy dv cl bu S :=
  ⟨h.h.below hb, h.g.below hb, h.l.below hb, h.p.below hb, h.n.below hb, h.a.below hb, h.c.below hb, h.d.below hb, h.cl, h.bu⟩

theorem TblAt.s1 {w : World} {x y v : Value} {T : Tbl} (h : TblAt w x y v T) : IsSl x := by obtain ⟨A, c, e, -⟩ := h.x; exact ⟨_, _, _, e⟩
theorem TblAt.s2 {w : World} {x y v : Value} {T : Tbl} (h : TblAt w x y v T) : IsSl y := by obtain ⟨A, c, e, -⟩ := h.y; exact ⟨_, _, _, e⟩
theorem TblAt.s3 {w : World} {x y v : Value} {T : Tbl} (h : TblAt w x y v T) : IsSl v := by obtain ⟨A, c, vs, e, -⟩ := h.v; exact ⟨_, _, _, e⟩

set_option maxRecDepth 100000
set_option maxHeartbeats 4000000

end Go.Proofs.YtonfnhonbnfdoaaGreat

/- Contracts: needs, margin, rate of package rotor. -/
namespace Go.Proofs.YtonfnhonbnfdoaaGreat
open Go Go.RowKit Go.Proofs
set_option maxRecDepth 100000
set_option maxHeartbeats 4000000

end Go.Proofs.YtonfnhonbnfdoaaGreat

/- Contracts: the limits of a table, package rotor. -/
namespace Go.Proofs.YtonfnhonbnfdoaaGreat
open Go Go.RowKit Go.Proofs
set_option maxRecDepth 100000
set_option maxHeartbeats 4000000

end Go.Proofs.YtonfnhonbnfdoaaGreat

/- Contracts: slices.Equal, package rotor's Check. -/
namespace Go.Proofs.YtonfnhonbnfdoaaGreat
open Go Go.RowKit Go.Proofs
set_option maxRecDepth 100000
set_option maxHeartbeats 4000000

end Go.Proofs.YtonfnhonbnfdoaaGreat

namespace Go.Proofs.YtonfnhonbnfdoaaGreat
open Go Go.RowKit

/-- A part of an axis where a number is. -/
def InPart (l : List Int) (i : Nat) (x : Int) : Prop := i + 1 < l.length ∧ nth l i ≤ x ∧ x ≤ nth l (i + 1)
theorem inPart_cellP {l : List Int} {x : Int} (h : axisB l = true) (h0 : nth l 0 ≤ x) (h1 : x ≤ nth l (l.length - 1)) : InPart l (cellP l x) x :=
  ⟨cellP_lt h x, (cellP_in h h0 h1).1, (cellP_in h h0 h1).2⟩
theorem Fits.on {T : Tbl} {xl xh yl yh x y : Int} (h : Fits T xl xh yl yh) (hx : xl ≤ x ∧ x ≤ xh) (hy : yl ≤ y ∧ y ≤ yh) : OnT T x y := by
  have h1 := h.lx
  have h2 := h.ly
  unfold liesB at h1 h2
  simp only [Bool.and_eq_true, decide_eq_true_eq] at h1 h2
  exact ⟨by omega, by omega, by omega, by omega⟩

end Go.Proofs.YtonfnhonbnfdoaaGreat

namespace Go.Proofs.YtonfnhonbnfdoaaGreat
open Go Go.RowKit

theorem stops_lo {xs : List Int} {lo hi : Int} : lo ∈ stopsL xs lo hi := by simp [stopsL, stopsF]
theorem stops_hi {xs : List Int} {lo hi : Int} (h : lo ≤ hi) : hi ∈ stopsL xs lo hi := by
  by_cases e : lo < hi
  · simp [stopsL, e]
  · obtain rfl : lo = hi := by omega
    exact stops_lo
theorem stops_mid {xs : List Int} {lo hi x : Int} (hx : x ∈ xs) (h1 : lo < x) (h2 : x < hi) : x ∈ stopsL xs lo hi := by
  simp [stopsL, stopsF, hx, h1, h2]

/-- Two stops with a number between them, all in one part. -/
theorem between {xs : List Int} {lo hi x : Int} (h : axisB xs = true) (h0 : nth xs 0 ≤ x) (h1 : x ≤ nth xs (xs.length - 1)) (hl : lo ≤ x) (hh : x ≤ hi) :
    ∃ i s t, s ∈ stopsL xs lo hi ∧ t ∈ stopsL xs lo hi ∧ InPart xs i s ∧ InPart xs i t ∧ InPart xs i x ∧ s ≤ x ∧ x ≤ t := by
  obtain ⟨p1, p2, p3⟩ := inPart_cellP h h0 h1
  generalize cellP xs x = i at *
  have m0 := nth_mem xs i (by omega)
  have m1 := nth_mem xs (i + 1) p1
  have hs : ∃ s, s ∈ stopsL xs lo hi ∧ nth xs i ≤ s ∧ s ≤ x := by
    by_cases e : nth xs i ≤ lo
    · exact ⟨lo, stops_lo, e, hl⟩
    · by_cases e2 : nth xs i < hi
      · exact ⟨_, stops_mid m0 (by omega) e2, Int.le_refl _, p2⟩
      · exact ⟨hi, stops_hi (by omega), by omega, by omega⟩
  have ht : ∃ t, t ∈ stopsL xs lo hi ∧ t ≤ nth xs (i + 1) ∧ x ≤ t := by
    by_cases e : hi ≤ nth xs (i + 1)
    · exact ⟨hi, stops_hi (by omega), e, hh⟩
    · by_cases e2 : lo < nth xs (i + 1)
      · exact ⟨_, stops_mid m1 e2 (by omega), Int.le_refl _, p3⟩
      · exact ⟨lo, stops_lo, by omega, by omega⟩
  obtain ⟨s, s1, s2, s3⟩ := hs
  obtain ⟨t, t1, t2, t3⟩ := ht
  exact ⟨i, s, t, s1, t1, ⟨p1, s2, by omega⟩, ⟨p1, by omega, t2⟩, ⟨p1, p2, p3⟩, s3, t3⟩

end Go.Proofs.YtonfnhonbnfdoaaGreat

/- What the functions of package rotor return, told plainly. -/
namespace Go.Proofs.YtonfnhonbnfdoaaGreat
open Go Go.RowKit Go.Proofs

end Go.Proofs.YtonfnhonbnfdoaaGreat

/- Plain law: the greatest weight with a margin. -/
namespace Go.Proofs.YtonfnhonbnfdoaaGreat
open Go Go.RowKit Go.Proofs

end Go.Proofs.YtonfnhonbnfdoaaGreat

namespace Go.Proofs.YtonfnhonbnfdoaaGreat
open Go Go.RowKit Go.Proofs
set_option maxRecDepth 100000
set_option maxHeartbeats 4000000

theorem Blk.drew {W : World} {g : Nat} {t : TypeId} {cs : Array Value} (h : Blk W g t cs) : Blk W.drew g t cs := h
end Go.Proofs.YtonfnhonbnfdoaaGreat
