import Derived.Test.YtlambeiafdpkgaaGreatTcE
set_option linter.all false
namespace Go.Proofs.YtlambeiafdpkgaaGreat
open Go Go.RowKit Go.Proofs
set_option maxRecDepth 100000
set_option maxHeartbeats 4000000
def caD (n1 n2 : Nat) (lo hi : Nat → Int) : CasD where
 n := 3
 any i := decide (i < 2)
 nn i := if i = 2 then 2 else 0
 fn _ j := j
 nr i := if i = 0 then n1 else if i = 1 then n2 else 0
 fr i j := if i = 0 then j else (n1 : Int) + j
 k := n1 + n2
 lo := lo
 hi := hi
def inW (lo hi : Nat → Int) (a n : Nat) (t : Int) : Bool := (List.range n).any fun j => inB t (lo (a + j)) (hi (a + j))
def bothB (n1 n2 : Nat) (lo hi : Nat → Int) (t : Int) : Bool := inW lo hi 0 n1 t && inW lo hi n1 n2 t
def caH (n1 n2 : Nat) (lo hi : Nat → Int) (t : Int) (i : Nat) : Bool := if i = 0 then inW lo hi 0 n1 t else if i = 1 then inW lo hi n1 n2 t else bothB n1 n2 lo hi t
theorem any_congr {n : Nat} {P Q : Nat → Bool} (h : ∀ j, j < n → P j = Q j) : (List.range n).any P = (List.range n).any Q := by
 rw [Bool.eq_iff_iff, List.any_eq_true, List.any_eq_true]
 constructor
 ·rintro ⟨x, hx, h2⟩; exact ⟨x, hx, by rw [← h x (List.mem_range.1 hx)]; exact h2⟩
 ·rintro ⟨x, hx, h2⟩; exact ⟨x, hx, by rw [h x (List.mem_range.1 hx)]; exact h2⟩
theorem caH_eq (n1 n2 : Nat) (lo hi : Nat → Int) (t : Int) : ∀ i, i < 3 → caH n1 n2 lo hi t i = clV (caD n1 n2 lo hi) (cntN (caD n1 n2 lo hi) t (caD n1 n2 lo hi).k) (caH n1 n2 lo hi t) i := by
 intro i hi3
 match i, hi3 with
 | 0, _ =>
  show inW lo hi 0 n1 t = exB (clF _ _ _ 0) true (0 + n1)
  rw [Nat.zero_add]
  unfold inW exB
  refine any_congr fun j hj => ?_
  show _ = ((joF 0 _ (fun j => (cntN _ t (n1 + n2)).testBit ((j : Int).toNat)) j) == true)
  rw [joF, if_neg (by omega), cntN_bit]
  show inB t (lo (0 + j)) (hi (0 + j)) = ((decide (j - 0 < n1 + n2) && inB t (lo (j - 0)) (hi (j - 0))) == true)
  rw [Nat.zero_add, Nat.sub_zero, decide_eq_true (by omega)]
  simp
 | 1, _ =>
  show inW lo hi n1 n2 t = exB (clF _ _ _ 1) true (0 + n2)
  rw [Nat.zero_add]
  unfold inW exB
  refine any_congr fun j hj => ?_
  show _ = ((joF 0 _ (fun j => (cntN _ t (n1 + n2)).testBit (((n1 : Int) + (j : Int)).toNat)) j) == true)
  rw [joF, if_neg (by omega), cntN_bit, Nat.sub_zero, show ((n1 : Int) + (j : Int)).toNat = n1 + j by omega]
  show inB t (lo (n1 + j)) (hi (n1 + j)) = ((decide (n1 + j < n1 + n2) && inB t (lo (n1 + j)) (hi (n1 + j))) == true)
  rw [decide_eq_true (by omega)]
  simp
 | 2, _ =>
  show bothB n1 n2 lo hi t = !exB (clF _ _ _ 2) false (2 + 0)
  show (inW lo hi 0 n1 t && inW lo hi n1 n2 t) = !((List.range 2).any fun j => joF 2 (fun j => caH n1 n2 lo hi t ((j : Int).toNat)) _ j == false)
  simp [List.range_succ, joF, caH]
theorem caD_ok {n1 n2 : Nat} {lo hi : Nat → Int} (h12 : n1 + n2 ≤ 12) (hp : ∀ i, i < n1 + n2 → 0 ≤ lo i ∧ lo i ≤ hi i ∧ hi i ≤ 2000) : (caD n1 n2 lo hi).Ok where
 n16 := by show 3 ≤ 16; omega
 k12 := h12
 nn i hi := by
  show (if i = 2 then 2 else 0) ≤ 1000 ∧ ∀ j, j < (if i = 2 then 2 else 0) → prvI (fun j => (j : Int)) j < (j : Int) ∧ (j : Int) < (i : Int)
  by_cases h : i = 2
  ·subst h
   rw [if_pos rfl]
   refine ⟨by omega, fun j hj => ⟨?_, by omega⟩⟩
   cases j <;> simp only [prvI] <;> omega
  ·rw [if_neg h]
   exact ⟨by omega, fun j hj => absurd hj (by omega)⟩
 nr i hi := by
  match i, hi with
  | 0, _ =>
   show n1 ≤ 1000 ∧ ∀ j, j < n1 → prvI (fun j => (j : Int)) j < (j : Int) ∧ (j : Int) < ((n1 + n2 : Nat) : Int)
   refine ⟨by omega, fun j hj => ⟨?_, by omega⟩⟩
   cases j <;> simp only [prvI] <;> omega
  | 1, _ =>
   show n2 ≤ 1000 ∧ ∀ j, j < n2 → prvI (fun j => (n1 : Int) + (j : Int)) j < (n1 : Int) + (j : Int) ∧ (n1 : Int) + (j : Int) < ((n1 + n2 : Nat) : Int)
   refine ⟨by omega, fun j hj => ⟨?_, by omega⟩⟩
   cases j <;> simp only [prvI] <;> omega
  | 2, _ =>
   show 0 ≤ 1000 ∧ ∀ j, j < 0 → _
   exact ⟨by omega, fun j hj => absurd hj (by omega)⟩
 p i hi := hp i hi
theorem caD_sm {n1 n2 : Nat} {lo hi : Nat → Int} (h12 : n1 + n2 ≤ 12) : ∀ i, i < 3 → (caD n1 n2 lo hi).nn i ≤ 12 ∧ (caD n1 n2 lo hi).nr i ≤ 12 ∧ ((caD n1 n2 lo hi).nn i = 0 ∨ (caD n1 n2 lo hi).nr i = 0) := by
 intro i hi
 match i, hi with
 | 0, _ => exact ⟨by show 0 ≤ 12; omega, by show n1 ≤ 12; omega, .inl rfl⟩
 | 1, _ => exact ⟨by show 0 ≤ 12; omega, by show n2 ≤ 12; omega, .inl rfl⟩
 | 2, _ => exact ⟨by show 2 ≤ 12; omega, by show 0 ≤ 12; omega, .inr rfl⟩
theorem tcHoldsB_c (n1 n2 : Nat) (lo hi : Nat → Int) (vC vP : Value) (t : Int) (w : World) (h12 : n1 + n2 ≤ 12) (hp : ∀ i, i < n1 + n2 → 0 ≤ lo i ∧ lo i ≤ hi i ∧ hi i ≤ 2000) (hC : ClaAt w vC (caD n1 n2 lo hi)) :
  Calls Tryz.prog 37 #[.agg #[vC, vP], .int .i64 2, .int .i64 (cntN (caD n1 n2 lo hi) t (caD n1 n2 lo hi).k)] w fun e w' => e = .returned (.bool (bothB n1 n2 lo hi t)) ∧ Below w.heap.size w w' :=
 tcHolds_c (caD n1 n2 lo hi) vC vP (cntN (caD n1 n2 lo hi) t (caD n1 n2 lo hi).k) (caH n1 n2 lo hi t) w hC (caD_ok h12 hp) rfl (Nat.lt_trans (cntN_lt _ _ _) (Nat.pow_lt_pow_right (by decide) (by show n1 + n2 < 60; omega))) (caD_sm h12) (caH_eq n1 n2 lo hi t)
def tcHoR (vCP : Value) (t p : Int) (b : Bool) : Nat → Value → World → Prop
 | 0, v, _ => v = vCP
 | 1, v, _ => v = .int .i64 2
 | 2, v, _ => v = vCP
 | 3, v, _ => v = .int .i64 t
 | 4, v, _ => v = .int .i64 p
 | 5, v, _ => v = .bool b
 | _, _, _ => True
theorem tcHoR_below {vCP : Value} {t p : Int} {b : Bool} (k : Nat) (v : Value) (w w' : World) (hb : Below w.heap.size w w') (h : tcHoR vCP t p b k v w) : tcHoR vCP t p b k v w' := by
 unfold tcHoR at *
 split at h <;> first | exact h
theorem tcHoldsX_c (n1 n2 : Nat) (lo hi : Nat → Int) (vC vP : Value) (t : Int) (w : World) (h12 : n1 + n2 ≤ 12) (hp : ∀ i, i < n1 + n2 → 0 ≤ lo i ∧ lo i ≤ hi i ∧ hi i ≤ 2000) (hC : ClaAt w vC (caD n1 n2 lo hi)) (hP : PrfAt w vP (caD n1 n2 lo hi)) (h0 : 0 ≤ t) (h2 : t ≤ 2000) :
  Calls Tryz.prog 12 #[.agg #[vC, vP], .int .i64 2, .int .i64 t] w fun e w' => e = .returned (.tuple #[.bool (bothB n1 n2 lo hi t), .int .i64 0]) ∧ Below w.heap.size w w' := by
 have HC := hI9 hC
 have HP := hI9 hP
 have HCK := hI9 (fun (W : World) (hb : Below w.heap.size w W) => tcCheck_c (caD n1 n2 lo hi) vC vP 2 t W (hC.below hb) (hP.below hb) (caD_ok h12 hp) (by omega) (by show (2 : Int) < ((3 : Nat) : Int); omega) h0 h2)
 have HCN := hI9 (fun (W : World) (hb : Below w.heap.size w W) => tcCounting_c (caD n1 n2 lo hi) vC vP t W (hP.below hb) h12)
 have HHO := hI9 (fun (W : World) (hb : Below w.heap.size w W) => tcHoldsB_c n1 n2 lo hi vC vP t W h12 hp (hC.below hb))
 obtain ⟨g, off, c, rfl, -⟩ := hC
 obtain ⟨A, c', rfl, -⟩ := hP
 clear hp h0 h2 HC HP
 generalize bothB n1 n2 lo hi t = b at *
 generalize (((cntN (caD n1 n2 lo hi) t (caD n1 n2 lo hi).k) : Nat) : Int) = p at *
 generalize (caD n1 n2 lo hi).n = N at *
 generalize (caD n1 n2 lo hi).k = K at *
 go_enter Tryz.func12, Tryz.ntmps12
 go_wp2_with (first | (go_at_call 36; (with_reducible refine (HCK.out _ (bal (Below.refl _ _) _)).mono ?_); rintro e w1 ⟨rfl, hb1⟩; have HB := hI9 (bthen (bal (Below.refl _ w) _) hb1); have HX := hI9 (Blk.below (Blk.new w 57 #[.slice (some ⟨g, off, none⟩) N c, .slice A K c']) hb1); clear hb1))
 refine wp_region_spec 6 (tcHoR (.agg #[.slice (some ⟨g, off, none⟩) N c, .slice A K c']) t p b) (fun i => false) (by kernel_rfl) (by kernel_rfl) tcHoR_below ?hop1 ?htail1
 case hop1 =>
  simp only [List.take_succ_cons, List.take_zero, allOps]
  refine ⟨?_, ?_, ?_, ?_, ?_, ?_, trivial⟩
  all_goals intro u A w1 hA hb hd
  all_goals simp only [putAll, dstOf, gtA, gtS, gtZ, Option.bind_some, Option.bind, Act.put, List.setIfInBounds_toArray, List.set_cons_succ, List.set_cons_zero] at hA; subst hA
  all_goals have HB1 := hI9 hb
  ·clear hb hd
   have x0 := (HX.out.below HB1.out).cell 0
   have x1 := (HX.out.below HB1.out).cell 1
   go_wp2
   exact ⟨_, rfl, Below.refl _ _, rfl, fun h => absurd h (by decide)⟩
  ·clear hb hd
   go_wp2
   exact ⟨_, rfl, Below.refl _ _, rfl, fun h => absurd h (by decide)⟩
  ·clear hb hd
   have x0 := (HX.out.below HB1.out).cell 0
   have x1 := (HX.out.below HB1.out).cell 1
   go_wp2
   exact ⟨_, rfl, Below.refl _ _, rfl, fun h => absurd h (by decide)⟩
  ·clear hb hd
   go_wp2
   exact ⟨_, rfl, Below.refl _ _, rfl, fun h => absurd h (by decide)⟩
  ·have d2 : u 2 = _ := hd 2 (by omega) (by kernel_rfl)
   have d3 : u 3 = _ := hd 3 (by omega) (by kernel_rfl)
   clear hb hd
   rw [d2, d3]
   clear d2 d3
   go_wp2_with (go_at_call 38; (with_reducible refine (HCN.out _ (bthen HB.out HB1.out)).mono ?_); rintro e w2 ⟨rfl, hb2⟩)
   exact ⟨_, rfl, hb2, rfl, fun h => absurd h (by decide)⟩
  ·have d0 : u 0 = _ := hd 0 (by omega) (by kernel_rfl)
   have d1 : u 1 = _ := hd 1 (by omega) (by kernel_rfl)
   have d4 : u 4 = _ := hd 4 (by omega) (by kernel_rfl)
   clear hb hd
   rw [d0, d1, d4]
   clear d0 d1 d4
   go_wp2_with (go_at_call 37; (with_reducible refine (HHO.out _ (bthen HB.out HB1.out)).mono ?_); rintro e w2 ⟨rfl, hb2⟩)
   exact ⟨_, rfl, hb2, rfl, fun h => absurd h (by decide)⟩
 case htail1 =>
  intro u A w1 hA hb hd hf
  simp only [putAll, dstOf, gtA, gtS, gtZ, Option.bind_some, Option.bind, Act.put, List.setIfInBounds_toArray, List.set_cons_succ, List.set_cons_zero] at hA; subst hA
  have e0 : u 0 = _ := hd 0 (by omega)
  have e1 : u 1 = _ := hd 1 (by omega)
  have e2 : u 2 = _ := hd 2 (by omega)
  have e3 : u 3 = _ := hd 3 (by omega)
  have e4 : u 4 = _ := hd 4 (by omega)
  have e5 : u 5 = _ := hd 5 (by omega)
  first | rw [e0, e1, e2, e3, e4, e5] | simp only [e0, e1, e2, e3, e4, e5]
  clear e0 e1 e2 e3 e4 e5
  clear hd hf
  go_wp2
  go_ret2
  exact ⟨rfl, bthen HB.out hb⟩
def untR (B : Int → Bool) : Nat → Int → Int
 | 0, t => t
 | f + 1, t => if B t then untR B f (t + 1) else t
theorem untR_ge (B : Int → Bool) : ∀ f t, t ≤ untR B f t := by
 intro f
 induction f with
 | zero => intro t; exact Int.le_refl _
 | succ f ih => intro t; unfold untR; split; exact Int.le_trans (by omega) (ih (t + 1)); exact Int.le_refl _
def untV (B : Int → Bool) (t : Int) : Int := untR B (2001 - t).toNat t
theorem untV_step {B : Int → Bool} {t : Int} (h : t ≤ 2000) : untV B t = if B t then untV B (t + 1) else t := by
 unfold untV
 rw [show (2001 - t).toNat = (2001 - (t + 1)).toNat + 1 by omega]
 rfl
def tcUnR (vCP : Value) (t p : Int) (b : Bool) : Nat → Value → World → Prop
 | 0, v, _ => v = .int .i64 t
 | 1, v, _ => v = .bool true
 | 2, v, _ => v = .bool true
 | 3, v, _ => v = vCP
 | 4, v, _ => v = .int .i64 2
 | 5, v, _ => v = vCP
 | 6, v, _ => v = .int .i64 t
 | 7, v, _ => v = .int .i64 p
 | 8, v, _ => v = .bool b
 | _, _, _ => True
theorem tcUnR_below {vCP : Value} {t p : Int} {b : Bool} (k : Nat) (v : Value) (w w' : World) (hb : Below w.heap.size w w') (h : tcUnR vCP t p b k v w) : tcUnR vCP t p b k v w' := by
 unfold tcUnR at *
 split at h <;> first | exact h
def tcUzR (t : Int) : Nat → Value → World → Prop
 | 0, v, _ => v = .int .i64 t
 | 1, v, _ => v = .bool false
 | 2, v, _ => v = .bool false
 | _, _, _ => True
theorem tcUzR_below {t : Int} (k : Nat) (v : Value) (w w' : World) (hb : Below w.heap.size w w') (h : tcUzR t k v w) : tcUzR t k v w' := by
 unfold tcUzR at *
 split at h <;> first | exact h
def unE (B : Int → Bool) (t : Int) : Int := if B t then 0 else 3
def unV (B : Int → Bool) (t : Int) : Int := if B t then untV B t - 1 else 0
theorem tcUntil_c (n1 n2 : Nat) (lo hi : Nat → Int) (vC vP : Value) (t : Int) (w : World) (h12 : n1 + n2 ≤ 12) (hp : ∀ i, i < n1 + n2 → 0 ≤ lo i ∧ lo i ≤ hi i ∧ hi i ≤ 2000) (hC : ClaAt w vC (caD n1 n2 lo hi)) (hP : PrfAt w vP (caD n1 n2 lo hi)) (h0 : 0 ≤ t) (h2 : t ≤ 2000) :
  Calls Tryz.prog 13 #[.agg #[vC, vP], .int .i64 2, .int .i64 t] w fun e w' => e = .returned (.tuple #[.int .i64 (unV (bothB n1 n2 lo hi) t), .int .i64 (unE (bothB n1 n2 lo hi) t)]) ∧ Below w.heap.size w w' := by
 have HC := hI9 hC
 have HP := hI9 hP
 have HCK := hI9 (fun (W : World) (hb : Below w.heap.size w W) => tcCheck_c (caD n1 n2 lo hi) vC vP 2 t W (hC.below hb) (hP.below hb) (caD_ok h12 hp) (by omega) (by show (2 : Int) < ((3 : Nat) : Int); omega) h0 h2)
 have HCN := hI9 (fun (t : Int) (W : World) (hb : Below w.heap.size w W) => tcCounting_c (caD n1 n2 lo hi) vC vP t W (hP.below hb) h12)
 have HHO := hI9 (fun (t : Int) (W : World) (hb : Below w.heap.size w W) => tcHoldsB_c n1 n2 lo hi vC vP t W h12 hp (hC.below hb))
 obtain ⟨g, off, c, rfl, -⟩ := hC
 obtain ⟨A, c', rfl, -⟩ := hP
 clear hp HC HP
 generalize bothB n1 n2 lo hi = B at *
 generalize hpc : (fun t => (((cntN (caD n1 n2 lo hi) t (caD n1 n2 lo hi).k) : Nat) : Int)) = pc
 have HPC := hI9 (show ∀ t, (((cntN (caD n1 n2 lo hi) t (caD n1 n2 lo hi).k) : Nat) : Int) = pc t from fun t => by rw [← hpc])
 clear hpc
 generalize (caD n1 n2 lo hi).n = N at *
 go_enter Tryz.func13, Tryz.ntmps13
 go_wp2_with (first | (go_at_call 36; (with_reducible refine (HCK.out _ (bal (Below.refl _ _) _)).mono ?_); rintro e w1 ⟨rfl, hb1⟩; have HB := hI9 (bthen (bal (Below.refl _ w) _) hb1); have HX := hI9 (Blk.below (Blk.new w 57 #[.slice (some ⟨g, off, none⟩) N c, .slice A (caD n1 n2 lo hi).k c']) hb1); clear hb1))
 clear HCK
 obtain ⟨U, hU⟩ : ∃ U, U = untV B t := ⟨_, rfl⟩
 have HU := hI9 hU
 have HU0 := hI9 hU
 clear hU
 go_loopw [9] (fun s9 wr => ∃ tt : Int, t ≤ tt ∧ tt ≤ 2001 ∧ s9 = .int .i64 tt ∧ Hid (untV B tt = U) ∧ Hid (tt = t ∨ B t = true) ∧ Hid (Below w.heap.size w wr) ∧ Hid (Blk wr w.heap.size 57 #[.slice (some ⟨g, off, none⟩) N c, .slice A (caD n1 n2 lo hi).k c'])) (fun i _ => (2001 - intOf i).toNat)
 case atStart => exact ⟨t, Int.le_refl _, by omega, rfl, hI9 HU.out.symm, hI9 (.inl rfl), HB, HX⟩
 case round =>
  clear HB HX HU
  obtain ⟨tt, ht0, ht1, rfl, HU, HT, HB, HX⟩ := hrel
  by_cases hlt : tt ≤ 2000
  ·have hst := untV_step (B := B) hlt
   rw [HU.out] at hst
   have hcn := HCN.out tt
   have hho := HHO.out tt
   rw [HPC.out] at hcn hho
   generalize pc tt = p at *
   cases hb : B tt
   ·rw [hb] at hst hho
    have HST := hI9 hst
    have HBT := hI9 hb
    have HCN2 := hI9 hcn
    have HHO2 := hI9 hho
    clear hst hho hcn hb HCN HHO HPC
    go_wp2_with (fail)
    refine wp_region_spec 9 (tcUnR (.agg #[.slice (some ⟨g, off, none⟩) N c, .slice A (caD n1 n2 lo hi).k c']) tt p false) (fun i => false) (by kernel_rfl) (by kernel_rfl) tcUnR_below ?hop2 ?htail2
    case hop2 =>
     simp only [List.take_succ_cons, List.take_zero, allOps]
     refine ⟨?_, ?_, ?_, ?_, ?_, ?_, ?_, ?_, ?_, trivial⟩
     all_goals intro u A w1 hA hb hd
     all_goals simp only [putAll, dstOf, gtA, gtS, gtZ, Option.bind_some, Option.bind, Act.put, List.setIfInBounds_toArray, List.set_cons_succ, List.set_cons_zero] at hA; subst hA
     all_goals have HB1 := hI9 hb
     ·clear hb hd
      go_wp2
      exact ⟨_, rfl, Below.refl _ _, rfl, fun h => absurd h (by decide)⟩
     ·have d0 : u 0 = _ := hd 0 (by omega) (by kernel_rfl)
      clear hb hd
      rw [d0]
      clear d0
      go_wp2
      exact ⟨_, rfl, Below.refl _ _, rfl, fun h => absurd h (by decide)⟩
     ·have d1 : u 1 = _ := hd 1 (by omega) (by kernel_rfl)
      clear hb hd
      rw [d1]
      clear d1
      go_wp2
      exact ⟨_, rfl, Below.refl _ _, rfl, fun h => absurd h (by decide)⟩
     ·have d2 : u 2 = _ := hd 2 (by omega) (by kernel_rfl)
      clear hb hd
      rw [d2]
      clear d2
      have x0 := (HX.out.below HB1.out).cell 0
      have x1 := (HX.out.below HB1.out).cell 1
      go_wp2
      exact ⟨_, rfl, Below.refl _ _, rfl, fun h => absurd h (by decide)⟩
     ·have d2 : u 2 = _ := hd 2 (by omega) (by kernel_rfl)
      clear hb hd
      rw [d2]
      clear d2
      go_wp2
      exact ⟨_, rfl, Below.refl _ _, rfl, fun h => absurd h (by decide)⟩
     ·have d2 : u 2 = _ := hd 2 (by omega) (by kernel_rfl)
      clear hb hd
      rw [d2]
      clear d2
      have x0 := (HX.out.below HB1.out).cell 0
      have x1 := (HX.out.below HB1.out).cell 1
      go_wp2
      exact ⟨_, rfl, Below.refl _ _, rfl, fun h => absurd h (by decide)⟩
     ·have d2 : u 2 = _ := hd 2 (by omega) (by kernel_rfl)
      clear hb hd
      rw [d2]
      clear d2
      go_wp2
      exact ⟨_, rfl, Below.refl _ _, rfl, fun h => absurd h (by decide)⟩
     ·have d2 : u 2 = _ := hd 2 (by omega) (by kernel_rfl)
      have d5 : u 5 = _ := hd 5 (by omega) (by kernel_rfl)
      have d6 : u 6 = _ := hd 6 (by omega) (by kernel_rfl)
      clear hb hd
      rw [d2, d5, d6]
      clear d2 d5 d6
      go_wp2_with (go_at_call 38; (with_reducible refine (HCN2.out _ (bthen HB.out HB1.out)).mono ?_); rintro e w2 ⟨rfl, hb2⟩)
      exact ⟨_, rfl, hb2, rfl, fun h => absurd h (by decide)⟩
     ·have d2 : u 2 = _ := hd 2 (by omega) (by kernel_rfl)
      have d3 : u 3 = _ := hd 3 (by omega) (by kernel_rfl)
      have d4 : u 4 = _ := hd 4 (by omega) (by kernel_rfl)
      have d7 : u 7 = _ := hd 7 (by omega) (by kernel_rfl)
      clear hb hd
      rw [d2, d3, d4, d7]
      clear d2 d3 d4 d7
      go_wp2_with (go_at_call 37; (with_reducible refine (HHO2.out _ (bthen HB.out HB1.out)).mono ?_); rintro e w2 ⟨rfl, hb2⟩)
      exact ⟨_, rfl, hb2, rfl, fun h => absurd h (by decide)⟩
    case htail2 =>
     intro u A w1 hA hb hd hf
     simp only [putAll, dstOf, gtA, gtS, gtZ, Option.bind_some, Option.bind, Act.put, List.setIfInBounds_toArray, List.set_cons_succ, List.set_cons_zero] at hA; subst hA
     have e0 : u 0 = _ := hd 0 (by omega)
     have e1 : u 1 = _ := hd 1 (by omega)
     have e2 : u 2 = _ := hd 2 (by omega)
     have e3 : u 3 = _ := hd 3 (by omega)
     have e4 : u 4 = _ := hd 4 (by omega)
     have e5 : u 5 = _ := hd 5 (by omega)
     have e6 : u 6 = _ := hd 6 (by omega)
     have e7 : u 7 = _ := hd 7 (by omega)
     have e8 : u 8 = _ := hd 8 (by omega)
     first | rw [e0, e1, e2, e3, e4, e5, e6, e7, e8] | simp only [e0, e1, e2, e3, e4, e5, e6, e7, e8]
     clear e0 e1 e2 e3 e4 e5 e6 e7 e8
     clear hd hf
     by_cases htt : tt = t
     ·subst htt
      go_wp2
      go_ret2
      exact ⟨by unfold unV unE; rw [HBT.out]; rfl, bthen HB.out hb⟩
     ·have hBt : B t = true := HT.out.resolve_left htt
      have hne : (tt == t) = false := by simpa using htt
      have HBt := hI9 hBt
      clear hBt
      go_wp2
      go_ret2
      exact ⟨by unfold unV unE; rw [HBt.out, ← HU0.out, HST.out]; rfl, bthen HB.out hb⟩
   ·rw [hb] at hst hho
    have HST := hI9 hst
    have HBT := hI9 (show B t = true from HT.out.elim (fun h => by rw [← h]; exact hb) id)
    have HCN2 := hI9 hcn
    have HHO2 := hI9 hho
    clear hst hho hcn hb HCN HHO HPC
    go_wp2_with (fail)
    refine wp_region_spec 9 (tcUnR (.agg #[.slice (some ⟨g, off, none⟩) N c, .slice A (caD n1 n2 lo hi).k c']) tt p true) (fun i => false) (by kernel_rfl) (by kernel_rfl) tcUnR_below ?hop3 ?htail3
    case hop3 =>
     simp only [List.take_succ_cons, List.take_zero, allOps]
     refine ⟨?_, ?_, ?_, ?_, ?_, ?_, ?_, ?_, ?_, trivial⟩
     all_goals intro u A w1 hA hb hd
     all_goals simp only [putAll, dstOf, gtA, gtS, gtZ, Option.bind_some, Option.bind, Act.put, List.setIfInBounds_toArray, List.set_cons_succ, List.set_cons_zero] at hA; subst hA
     all_goals have HB1 := hI9 hb
     ·clear hb hd
      go_wp2
      exact ⟨_, rfl, Below.refl _ _, rfl, fun h => absurd h (by decide)⟩
     ·have d0 : u 0 = _ := hd 0 (by omega) (by kernel_rfl)
      clear hb hd
      rw [d0]
      clear d0
      go_wp2
      exact ⟨_, rfl, Below.refl _ _, rfl, fun h => absurd h (by decide)⟩
     ·have d1 : u 1 = _ := hd 1 (by omega) (by kernel_rfl)
      clear hb hd
      rw [d1]
      clear d1
      go_wp2
      exact ⟨_, rfl, Below.refl _ _, rfl, fun h => absurd h (by decide)⟩
     ·have d2 : u 2 = _ := hd 2 (by omega) (by kernel_rfl)
      clear hb hd
      rw [d2]
      clear d2
      have x0 := (HX.out.below HB1.out).cell 0
      have x1 := (HX.out.below HB1.out).cell 1
      go_wp2
      exact ⟨_, rfl, Below.refl _ _, rfl, fun h => absurd h (by decide)⟩
     ·have d2 : u 2 = _ := hd 2 (by omega) (by kernel_rfl)
      clear hb hd
      rw [d2]
      clear d2
      go_wp2
      exact ⟨_, rfl, Below.refl _ _, rfl, fun h => absurd h (by decide)⟩
     ·have d2 : u 2 = _ := hd 2 (by omega) (by kernel_rfl)
      clear hb hd
      rw [d2]
      clear d2
      have x0 := (HX.out.below HB1.out).cell 0
      have x1 := (HX.out.below HB1.out).cell 1
      go_wp2
      exact ⟨_, rfl, Below.refl _ _, rfl, fun h => absurd h (by decide)⟩
     ·have d2 : u 2 = _ := hd 2 (by omega) (by kernel_rfl)
      clear hb hd
      rw [d2]
      clear d2
      go_wp2
      exact ⟨_, rfl, Below.refl _ _, rfl, fun h => absurd h (by decide)⟩
     ·have d2 : u 2 = _ := hd 2 (by omega) (by kernel_rfl)
      have d5 : u 5 = _ := hd 5 (by omega) (by kernel_rfl)
      have d6 : u 6 = _ := hd 6 (by omega) (by kernel_rfl)
      clear hb hd
      rw [d2, d5, d6]
      clear d2 d5 d6
      go_wp2_with (go_at_call 38; (with_reducible refine (HCN2.out _ (bthen HB.out HB1.out)).mono ?_); rintro e w2 ⟨rfl, hb2⟩)
      exact ⟨_, rfl, hb2, rfl, fun h => absurd h (by decide)⟩
     ·have d2 : u 2 = _ := hd 2 (by omega) (by kernel_rfl)
      have d3 : u 3 = _ := hd 3 (by omega) (by kernel_rfl)
      have d4 : u 4 = _ := hd 4 (by omega) (by kernel_rfl)
      have d7 : u 7 = _ := hd 7 (by omega) (by kernel_rfl)
      clear hb hd
      rw [d2, d3, d4, d7]
      clear d2 d3 d4 d7
      go_wp2_with (go_at_call 37; (with_reducible refine (HHO2.out _ (bthen HB.out HB1.out)).mono ?_); rintro e w2 ⟨rfl, hb2⟩)
      exact ⟨_, rfl, hb2, rfl, fun h => absurd h (by decide)⟩
    case htail3 =>
     intro u A w1 hA hb hd hf
     simp only [putAll, dstOf, gtA, gtS, gtZ, Option.bind_some, Option.bind, Act.put, List.setIfInBounds_toArray, List.set_cons_succ, List.set_cons_zero] at hA; subst hA
     have e0 : u 0 = _ := hd 0 (by omega)
     have e1 : u 1 = _ := hd 1 (by omega)
     have e2 : u 2 = _ := hd 2 (by omega)
     have e3 : u 3 = _ := hd 3 (by omega)
     have e4 : u 4 = _ := hd 4 (by omega)
     have e5 : u 5 = _ := hd 5 (by omega)
     have e6 : u 6 = _ := hd 6 (by omega)
     have e7 : u 7 = _ := hd 7 (by omega)
     have e8 : u 8 = _ := hd 8 (by omega)
     first | rw [e0, e1, e2, e3, e4, e5, e6, e7, e8] | simp only [e0, e1, e2, e3, e4, e5, e6, e7, e8]
     clear e0 e1 e2 e3 e4 e5 e6 e7 e8
     clear hd hf
     go_wp2
     go_roundw
     case rel => exact ⟨tt + 1, by omega, by omega, by first | rfl | go_num | (congr 1; omega), hI9 (by rw [HST.out]; rfl), hI9 (.inr HBT.out), hI9 (bthen HB.out hb), hI9 (HX.out.below hb)⟩
     case measure => simp [intOf]; omega
  ·obtain rfl : tt = 2001 := by omega
   have hBt : B t = true := HT.out.resolve_left (by omega)
   have HBt := hI9 hBt
   have hne : ((2001 : Int) == t) = false := by simp; omega
   clear hBt HCN HHO HPC
   go_wp2_with (fail)
   refine wp_region_spec 9 (tcUzR 2001) (fun i => false) (by kernel_rfl) (by kernel_rfl) tcUzR_below ?hop4 ?htail4
   case hop4 =>
    simp only [List.take_succ_cons, List.take_zero, allOps]
    refine ⟨?_, ?_, ?_, ?_, ?_, ?_, ?_, ?_, ?_, trivial⟩
    all_goals intro u A w1 hA hb hd
    all_goals simp only [putAll, dstOf, gtA, gtS, gtZ, Option.bind_some, Option.bind, Act.put, List.setIfInBounds_toArray, List.set_cons_succ, List.set_cons_zero] at hA; subst hA
    all_goals have HB1 := hI9 hb
    ·clear hb hd
     go_wp2
     exact ⟨_, rfl, Below.refl _ _, rfl, fun h => absurd h (by decide)⟩
    ·have d0 : u 0 = _ := hd 0 (by omega) (by kernel_rfl)
     clear hb hd
     rw [d0]
     clear d0
     go_wp2
     exact ⟨_, rfl, Below.refl _ _, rfl, fun h => absurd h (by decide)⟩
    ·have d1 : u 1 = _ := hd 1 (by omega) (by kernel_rfl)
     clear hb hd
     rw [d1]
     clear d1
     go_wp2
     exact ⟨_, rfl, Below.refl _ _, rfl, fun h => absurd h (by decide)⟩
    ·have d2 : u 2 = _ := hd 2 (by omega) (by kernel_rfl)
     clear hb hd
     rw [d2]
     clear d2
     go_wp2
     exact ⟨_, rfl, Below.refl _ _, trivial, fun h => absurd h (by decide)⟩
    ·have d2 : u 2 = _ := hd 2 (by omega) (by kernel_rfl)
     clear hb hd
     rw [d2]
     clear d2
     go_wp2
     exact ⟨_, rfl, Below.refl _ _, trivial, fun h => absurd h (by decide)⟩
    ·have d2 : u 2 = _ := hd 2 (by omega) (by kernel_rfl)
     clear hb hd
     rw [d2]
     clear d2
     go_wp2
     exact ⟨_, rfl, Below.refl _ _, trivial, fun h => absurd h (by decide)⟩
    ·have d2 : u 2 = _ := hd 2 (by omega) (by kernel_rfl)
     clear hb hd
     rw [d2]
     clear d2
     go_wp2
     exact ⟨_, rfl, Below.refl _ _, trivial, fun h => absurd h (by decide)⟩
    ·have d2 : u 2 = _ := hd 2 (by omega) (by kernel_rfl)
     clear hb hd
     rw [d2]
     clear d2
     go_wp2
     exact ⟨_, rfl, Below.refl _ _, trivial, fun h => absurd h (by decide)⟩
    ·have d2 : u 2 = _ := hd 2 (by omega) (by kernel_rfl)
     clear hb hd
     rw [d2]
     clear d2
     go_wp2
     exact ⟨_, rfl, Below.refl _ _, trivial, fun h => absurd h (by decide)⟩
   case htail4 =>
    intro u A w1 hA hb hd hf
    simp only [putAll, dstOf, gtA, gtS, gtZ, Option.bind_some, Option.bind, Act.put, List.setIfInBounds_toArray, List.set_cons_succ, List.set_cons_zero] at hA; subst hA
    have e0 : u 0 = _ := hd 0 (by omega)
    have e1 : u 1 = _ := hd 1 (by omega)
    have e2 : u 2 = _ := hd 2 (by omega)
    first | rw [e0, e1, e2] | simp only [e0, e1, e2]
    clear e0 e1 e2
    clear hd hf
    go_wp2
    go_ret2
    exact ⟨by unfold unV unE; rw [HBt.out, ← HU0.out, ← HU.out]; rfl, bthen HB.out hb⟩
end Go.Proofs.YtlambeiafdpkgaaGreat
