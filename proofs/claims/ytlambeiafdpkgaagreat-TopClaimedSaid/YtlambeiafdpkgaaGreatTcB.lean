import Derived.Test.YtlambeiafdpkgaaGreatTcA
import Derived.Test.YtlambeiafdpkgaaGreatJAE
set_option linter.all false
namespace Go.Proofs.YtlambeiafdpkgaaGreat
open Go Go.RowKit Go.Proofs
set_option maxRecDepth 100000
set_option maxHeartbeats 4000000
structure CasD where
 n : Nat
 any : Nat → Bool
 nn : Nat → Nat
 fn : Nat → Nat → Int
 nr : Nat → Nat
 fr : Nat → Nat → Int
 k : Nat
 lo : Nat → Int
 hi : Nat → Int
structure CasD.Ok (C : CasD) : Prop where
 n16 : C.n ≤ 16
 k12 : C.k ≤ 12
 nn : ∀ i, i < C.n → C.nn i ≤ 1000 ∧ ∀ j, j < C.nn i → prvI (C.fn i) j < C.fn i j ∧ C.fn i j < i
 nr : ∀ i, i < C.n → C.nr i ≤ 1000 ∧ ∀ j, j < C.nr i → prvI (C.fr i) j < C.fr i j ∧ C.fr i j < C.k
 p : ∀ i, i < C.k → 0 ≤ C.lo i ∧ C.lo i ≤ C.hi i ∧ C.hi i ≤ 2000
def PrfAt (w : World) (v : Value) (C : CasD) : Prop := ∃ A c, v = .slice A C.k c ∧ (0 < C.k → ∃ b off, A = some ⟨b, off, none⟩ ∧ b < w.heap.size ∧ ∀ i, i < C.k → w.cell? ⟨b, off + i * 2, none⟩ = some (.int .i64 (C.lo i)) ∧ w.cell? ⟨b, off + i * 2 + 1, none⟩ = some (.int .i64 (C.hi i)))
theorem PrfAt.below {w w' : World} {v : Value} {C : CasD} (h : PrfAt w v C) (hb : Below w.heap.size w w') : PrfAt w' v C := by
 obtain ⟨A, c, e, h⟩ := h
 refine ⟨A, c, e, fun hn => ?_⟩
 obtain ⟨b, off, e, hl, h⟩ := h hn
 exact ⟨b, off, e, Nat.lt_of_lt_of_le hl hb.size, fun k hk => ⟨(hb.cell (p := ⟨b, off + k * 2, none⟩) hl).trans (h k hk).1, (hb.cell (p := ⟨b, off + k * 2 + 1, none⟩) hl).trans (h k hk).2⟩⟩
def ClaAt (w : World) (v : Value) (C : CasD) : Prop := ∃ g off c, v = .slice (some ⟨g, off, none⟩) C.n c ∧ C.n ≤ c ∧ g < w.heap.size ∧ ∀ i, i < C.n → ∃ vN vR, w.cell? ⟨g, off + i * 3, none⟩ = some vN ∧ w.cell? ⟨g, off + i * 3 + 1, none⟩ = some vR ∧
 w.cell? ⟨g, off + i * 3 + 2, none⟩ = some (.bool (C.any i)) ∧ IL w vN (C.nn i) (C.fn i) ∧ IL w vR (C.nr i) (C.fr i)
theorem ClaAt.below {w w' : World} {v : Value} {C : CasD} (h : ClaAt w v C) (hb : Below w.heap.size w w') : ClaAt w' v C := by
 obtain ⟨g, off, c, e, hc, hl, h⟩ := h
 refine ⟨g, off, c, e, hc, Nat.lt_of_lt_of_le hl hb.size, fun i hi => ?_⟩
 obtain ⟨vN, vR, h0, h1, h2, h3, h4⟩ := h i hi
 exact ⟨vN, vR, (hb.cell (p := ⟨g, off + i * 3, none⟩) hl).trans h0, (hb.cell (p := ⟨g, off + i * 3 + 1, none⟩) hl).trans h1, (hb.cell (p := ⟨g, off + i * 3 + 2, none⟩) hl).trans h2, h3.below hb, h4.below hb⟩
def cntN (C : CasD) (t : Int) : Nat → Nat
 | 0 => 0
 | k + 1 => if inB t (C.lo k) (C.hi k) then cntN C t k ||| 2 ^ k else cntN C t k
theorem cntN_lt (C : CasD) (t : Int) (k : Nat) : cntN C t k < 2 ^ k := by
 induction k with
 | zero => exact Nat.one_pos
 | succ k ih =>
  have h1 : 2 ^ k < 2 ^ (k + 1) := Nat.pow_lt_pow_right (by decide) (Nat.lt_succ_self k)
  unfold cntN
  split
  ·exact Nat.or_lt_two_pow (Nat.lt_trans ih h1) h1
  ·exact Nat.lt_trans ih h1
theorem cntN_bit (C : CasD) (t : Int) (k j : Nat) : (cntN C t k).testBit j = (decide (j < k) && inB t (C.lo j) (C.hi j)) := by
 induction k with
 | zero => simp [cntN]
 | succ k ih =>
  unfold cntN
  split
  ·rename_i h
   rw [Nat.testBit_or, ih, Nat.testBit_two_pow]
   by_cases e : k = j
   ·subst e
    simp [h]
   ·rw [decide_eq_false e, Bool.or_false, show decide (j < k + 1) = decide (j < k) from by rw [Bool.eq_iff_iff]; simp; omega]
  ·rename_i h
   rw [ih]
   by_cases e : k = j
   ·subst e
    simp [h]
   ·rw [show decide (j < k + 1) = decide (j < k) from by rw [Bool.eq_iff_iff]; simp; omega]
theorem tcCounting_c (C : CasD) (vC vP : Value) (t : Int) (w : World) (h : PrfAt w vP C) (hk : C.k ≤ 12) :
  Calls Tryz.prog 38 #[.agg #[vC, vP], .int .i64 t] w fun e w' => e = .returned (.int .i64 (cntN C t C.k)) ∧ Below w.heap.size w w' := by
 obtain ⟨A, c, rfl, hA⟩ := h
 have HA := hI9 hA
 have HK := hI9 hk
 clear hA
 go_enter Tryz.func38, Tryz.ntmps38
 go_wp2
 go_loopw [4, 5, 6, 10] (fun s4 _ _ s10 wr => ∃ k : Nat, k ≤ C.k ∧ s10 = .int .i64 k ∧ s4 = .int .i64 (cntN C t k) ∧ Hid (Below w.heap.size w wr)) (fun _ _ _ i _ => C.k - (intOf i).toNat)
 case atStart => exact ⟨0, by omega, rfl, rfl, hI9 (bal (Below.refl _ _) _)⟩
 case round =>
  obtain ⟨k, hk, rfl, rfl, hB⟩ := hrel
  by_cases hlt : k < C.k
  ·obtain ⟨b, off, rfl, hb, hc⟩ := HA.out (by omega)
   have h0 := (hB.out.cell (p := ⟨b, off + k * 2, none⟩) hb).trans (hc k hlt).1
   have h1 := (hB.out.cell (p := ⟨b, off + k * 2 + 1, none⟩) hb).trans (hc k hlt).2
   have hbr := Nat.lt_of_lt_of_le hb hB.out.size
   have hN := cntN_lt C t k
   have hN60 : cntN C t k < 2 ^ 60 := Nat.lt_trans hN (Nat.pow_lt_pow_right (by decide) (by omega))
   have HW := hI9 (fun w1 => tcWith_c (cntN C t k) k w1 hN60 (by omega))
   have HE := hI9 (show cntN C t (k + 1) = if inB t (C.lo k) (C.hi k) then cntN C t k ||| 2 ^ k else cntN C t k from rfl)
   clear HA hc hN hN60
   generalize cntN C t k ||| 2 ^ k = Y at *
   generalize cntN C t k = X at *
   generalize C.lo k = lo at *
   generalize C.hi k = hi at *
   have hwi := fun w1 => tcWithin_c t lo hi w1
   cases hi : inB t lo hi
   ·rw [hi] at hwi
    have HWI := hI9 hwi
    have HE2 := hI9 (HE.out.trans (if_neg (by rw [hi]; decide)))
    clear hwi HE hi
    go_wp2_with (first | (go_at_call 74; (with_reducible refine (HWI.out _).mono ?_); rintro e w1 ⟨rfl, rfl⟩))
    go_roundw
    case rel => exact ⟨k + 1, by omega, by go_num, by rw [HE2.out], hI9 (bthen hB.out (by repeat' (first | exact Below.refl _ _ | assumption | refine Below.drew ?_ | refine bdn ?_ _ | refine bal ?_ _ | refine Below.setCell ?_ (by first | (simp; done) | omega | (simp; omega)) _)))⟩
    case measure => simp [intOf]; omega
   ·rw [hi] at hwi
    have HWI := hI9 hwi
    have HE2 := hI9 (HE.out.trans (if_pos (by rw [hi])))
    clear hwi HE hi
    go_wp2_with (first | (go_at_call 74; (with_reducible refine (HWI.out _).mono ?_); rintro e w1 ⟨rfl, rfl⟩) | (go_at_call 79; (with_reducible refine (HW.out _).mono ?_); rintro e w1 ⟨rfl, rfl⟩))
    go_roundw
    case rel => exact ⟨k + 1, by omega, by go_num, by rw [HE2.out], hI9 (bthen hB.out (by repeat' (first | exact Below.refl _ _ | assumption | refine Below.drew ?_ | refine bdn ?_ _ | refine bal ?_ _ | refine Below.setCell ?_ (by first | (simp; done) | omega | (simp; omega)) _)))⟩
    case measure => simp [intOf]; omega
  ·obtain rfl : k = C.k := by omega
   clear HA
   go_wp2
   go_ret
   exact ⟨rfl, hB.out⟩
theorem tcIx_c (A : Option Addr) (n c : Nat) (lo hi : Nat → Int) (g : Nat) (w : World) (hn : n ≤ 1000)
  (eg : ∀ args w, (callFunc g args).run Tryz.prog w = .ok (.enter g args) w)
  (hA : 0 < n → ∃ b off, A = some ⟨b, off, none⟩ ∧ b < w.heap.size ∧ ∀ i, i < n → w.cell? ⟨b, off + i * 2, none⟩ = some (.int .i64 (lo i)) ∧ w.cell? ⟨b, off + i * 2 + 1, none⟩ = some (.int .i64 (hi i)))
  (hp : ∀ i W, i < n → Below w.heap.size w W → Calls Tryz.prog g #[.agg #[.int .i64 (lo i), .int .i64 (hi i)]] W fun e w' => e = .returned (.bool false) ∧ Below W.heap.size W w') :
  Calls Tryz.prog 110 #[.slice A n c, .func (.func g) #[] #[]] w fun e w' => e = .returned (.int .i64 (-1)) ∧ Below w.heap.size w w' := by
 have HA := hI9 hA
 have HP := hI9 hp
 clear hA hp
 go_enter Tryz.func110, Tryz.ntmps110
 go_wp2
 go_loopw [5, 8] (fun _ s8 wr => ∃ k : Nat, k ≤ n ∧ s8 = .int .i64 k ∧ Hid (Below w.heap.size w wr)) (fun _ i _ => n - (intOf i).toNat)
 case atStart => exact ⟨0, by omega, rfl, hI9 (Below.refl _ _)⟩
 case round =>
  obtain ⟨k, hk, rfl, hB⟩ := hrel
  by_cases hlt : k < n
  ·obtain ⟨b, off, rfl, hb, hc⟩ := HA.out (by omega)
   have h0 := (hB.out.cell (p := ⟨b, off + k * 2, none⟩) hb).trans (hc k hlt).1
   have h1 := (hB.out.cell (p := ⟨b, off + k * 2 + 1, none⟩) hb).trans (hc k hlt).2
   have hcall := HP.out k wr hlt hB.out
   clear HA hc HP
   go_wp2_with (go_at_fn g; refine hcall.mono ?_; rintro e w1 ⟨rfl, hb1⟩)
   go_roundw
   case rel => exact ⟨k + 1, by omega, by go_num, hI9 (bthen hB.out hb1)⟩
   case measure => simp [intOf]; omega
  ·obtain rfl : k = n := by omega
   clear HA HP
   go_wp2
   go_ret
   exact ⟨rfl, hB.out⟩
theorem Tryz.entVa : ∀ args w, (callFunc 119 args).run Tryz.prog w = .ok (.enter 119 args) w := enters_of Tryz.func119 (by kernel_rfl) rfl
theorem tcValid1_c (lo hi : Int) (w : World) (h0 : 0 ≤ lo) (h1 : lo ≤ hi) (h2 : hi ≤ 2000) :
  Calls Tryz.prog 119 #[.agg #[.int .i64 lo, .int .i64 hi]] w fun e w' => e = .returned (.bool false) ∧ Below w.heap.size w w' := by
 have HP := hI9 (fun w1 => tcProof_c lo hi w1 h0 h1 h2)
 go_enter Tryz.func119, Tryz.ntmps119
 go_wp2_with (first | (go_at_call 120; (with_reducible refine (HP.out _).mono ?_); rintro e w1 ⟨rfl, hb1⟩; have hB1 := bthen (show Below w.heap.size w _ from (by repeat' (first | exact Below.refl _ _ | assumption | refine Below.drew ?_ | refine bdn ?_ _ | refine bal ?_ _ | refine Below.setCell ?_ (by first | (simp; done) | omega | (simp; omega)) _))) hb1; have hz1 := hb1.size; (try simp at hz1); obtain ⟨hc1, hf1⟩ := bcell hb1; first | (have hE1 := bthen2 hE (by repeat' (first | exact Below.refl _ _ | refine Below.drew ?_ | refine bdn ?_ _ | refine bal ?_ _ | refine Below.setCell ?_ (by first | (simp; done) | omega | (simp; omega)) _)) hb1; clear hE; have hE := hE1; clear hE1; obtain ⟨hd1, hg1⟩ := bcell hE) | (have hE := hb1)))
 go_ret
 exact ⟨rfl, (by repeat' (first | exact Below.refl _ _ | assumption | refine Below.drew ?_ | refine bdn ?_ _ | refine bal ?_ _ | refine Below.setCell ?_ (by first | (simp; done) | omega | (simp; omega)) _))⟩
theorem tcCf_c (A : Option Addr) (c : Nat) (C : CasD) (w : World) (hA : PrfAt w (.slice A C.k c) C) (hO : C.Ok) :
  Calls Tryz.prog 61 #[.slice A C.k c, .func (.func 119) #[] #[]] w fun e w' => e = .returned (.bool false) ∧ Below w.heap.size w w' := by
 have HI := hI9 (tcIx_c A C.k c C.lo C.hi 119 w (by have := hO.k12; omega) Tryz.entVa (by obtain ⟨A', c', e, h⟩ := hA; cases e; exact h) (fun i W hi hb => tcValid1_c (C.lo i) (C.hi i) W (hO.p i hi).1 (hO.p i hi).2.1 (hO.p i hi).2.2))
 clear hA hO
 go_enter Tryz.func61, Tryz.ntmps61
 go_wp2_with (first | (go_at_call 110; refine HI.out.mono ?_; rintro e w1 ⟨rfl, hb1⟩))
 go_ret
 exact ⟨rfl, hb1⟩
end Go.Proofs.YtlambeiafdpkgaaGreat
