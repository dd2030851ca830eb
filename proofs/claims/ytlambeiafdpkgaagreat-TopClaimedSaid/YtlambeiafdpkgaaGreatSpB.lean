import Derived.Test.YtlambeiafdpkgaaGreatProg
import Derived.Test.YtlambeiafdpkgaaGreatBas
import Derived.Test.YtlambeiafdpkgaaGreatJAA
set_option linter.all false
namespace Go.Proofs.YtlambeiafdpkgaaGreat
open Go Go.RowKit Go.Proofs
def inB (n lo hi : Int) : Bool := decide (lo ≤ n) && decide (n ≤ hi)
theorem within_c (n lo hi : Int) (w : World) :
  Calls Tryz.prog 149 #[.int .i64 n, .int .i64 lo, .int .i64 hi] w fun e w' => e = .returned (.bool (inB n lo hi)) ∧ w = w' := by
 by_cases h : lo ≤ n
 ·go_enter Tryz.func149, Tryz.ntmps149
  go_wp2
  go_ret
  simp [inB, h]
 ·have h2 : decide (lo ≤ n) = false := by simpa using h
  go_enter Tryz.func149, Tryz.ntmps149
  go_wp2
  go_ret
  simp [inB, h2]
def vspan (lo hi : Int) : Bool := inB lo (-1000000) hi && decide (hi ≤ 1000000)
theorem valid_c (lo hi : Int) (w : World) :
  Calls Tryz.prog 154 #[.agg #[.int .i64 lo, .int .i64 hi]] w fun e w' => e = .returned (.bool (vspan lo hi)) ∧ Below w.heap.size w w' := by
 cases h : inB lo (-1000000) hi
 all_goals
  go_enter Tryz.func154, Tryz.ntmps154
  go_wp2_with (go_at_call 149; refine (within_c _ _ _ _).mono ?_; rintro e w1 ⟨rfl, rfl⟩)
  go_ret
  exact ⟨by simp [vspan, h], (Below.refl _ _).alloc (Nat.le_refl _) _⟩
theorem floor_c (num den : Int) (w : World) (h0 : -4000000000000000000 ≤ num) (h1 : num ≤ 4000000000000000000) (h2 : 1 ≤ den) (h3 : den ≤ 4000000000000000000) :
  Calls Tryz.prog 55 #[.int .i64 num, .int .i64 den] w fun e w' => e = .returned (.int .i64 (num / den)) ∧ w = w' := by
 have hb := ediv_bound h2 (show (0:Int) ≤ 4000000000000000000 by omega) h0 h1
 have HB := hI9 hb
 clear hb
 go_enter Tryz.func55, Tryz.ntmps55
 go_wp2
 ·have hm : num.tmod den < 0 := by assumption
  have e := fdiv_neg h2 hm
  have hb := HB.out
  rw [wrap64_in (by omega) (by omega), e]
  go_ret
  exact ⟨rfl, rfl⟩
 ·have hm : 0 ≤ num.tmod den := by assumption
  have e := fdiv_pos h2 hm
  rw [e]
  go_ret
  exact ⟨rfl, rfl⟩
theorem ceil_c (num den : Int) (w : World) (h0 : -4000000000000000000 ≤ num) (h1 : num ≤ 4000000000000000000) (h2 : 1 ≤ den) (h3 : den ≤ 4000000000000000000) :
  Calls Tryz.prog 107 #[.int .i64 num, .int .i64 den] w fun e w' => e = .returned (.int .i64 (cdiv num den)) ∧ w = w' := by
 have hb := ediv_bound (a := -num) h2 (show (0:Int) ≤ 4000000000000000000 by omega) (by omega) (by omega)
 go_enter Tryz.func107, Tryz.ntmps107
 go_wp2_with (go_at_call 55; refine (floor_c _ _ _ (by omega) (by omega) h2 h3).mono ?_; rintro e w1 ⟨rfl, rfl⟩)
 go_ret
 exact ⟨rfl, rfl⟩
end Go.Proofs.YtlambeiafdpkgaaGreat
namespace Go.Proofs.YtlambeiafdpkgaaGreat
open Go Go.RowKit Go.Proofs
theorem spanned1_c (lo hi : Int) (w : World) :
  Calls Tryz.prog 153 #[.agg #[.int .i64 lo, .int .i64 hi]] w fun e w' => e = .returned (.bool (!vspan lo hi)) ∧ Below w.heap.size w w' := by
 go_enter Tryz.func153, Tryz.ntmps153
 go_wp2_with (go_at_call 154; refine (valid_c _ _ _).mono ?_; rintro e w1 ⟨rfl, hb1⟩)
 go_ret
 exact ⟨rfl, ((Below.refl _ _).alloc (Nat.le_refl _) _).trans (hb1.mono (by simp))⟩
def anyBad (n : Nat) (lo hi : Nat → Int) : Bool := (List.range n).any fun i => !vspan (lo i) (hi i)
def spanE (bad : Bool) : Int := if bad then 10 else 0
theorem spanE_t : spanE true = 10 := rfl
theorem spanE_f : spanE false = 0 := rfl
theorem spanned_c (A : Option Addr) (n c : Nat) (lo hi : Nat → Int) (w : World) (hn : n ≤ 9223372036854775807) (hA : SpansAt w A n lo hi) :
  Calls Tryz.prog 103 #[.slice A n c] w fun e w' => e = .returned (.int .i64 (spanE (anyBad n lo hi))) ∧ Below w.heap.size w w' := by
 have hcf := cfSpan_c A n c lo hi 153 #[] (fun i => !vspan (lo i) (hi i)) w hn (enters_of Tryz.func153 (by kernel_rfl) rfl) hA
  (fun W i _ hb => by simpa using spanned1_c (lo i) (hi i) W)
 have hcf' : Calls Tryz.prog 61 #[.slice A n c, .func (.func 153) #[] #[]] w fun e w' => e = .returned (.bool (anyBad n lo hi)) ∧ Below w.heap.size w w' := hcf
 have HC := hI9 hcf'
 clear hcf hcf'
 cases h : anyBad n lo hi
 all_goals
  rw [h] at HC
  have HH := hI9 h
  clear h
  go_enter Tryz.func103, Tryz.ntmps103
  go_wp2_with (go_at_call 61; refine HC.out.mono ?_; rintro e w1 ⟨rfl, hb1⟩)
  go_ret
  exact ⟨rfl, hb1⟩
theorem spCheck_c (A : Option Addr) (n c : Nat) (lo hi : Nat → Int) (w : World) (hn : n ≤ 9223372036854775807) (hA : SpansAt w A n lo hi) :
  Calls Tryz.prog 163 #[.slice A n c] w fun e w' => e = .returned (.int .i64 (spanE (!inB n 1 3 || anyBad n lo hi))) ∧ Below w.heap.size w w' := by
 have hs := spanned_c A n c lo hi w hn hA
 have HC := hI9 hs
 clear hs
 cases h : inB n 1 3
 ·go_enter Tryz.func163, Tryz.ntmps163
  go_wp2_with (go_at_call 149; refine (within_c _ _ _ _).mono ?_; rintro e w1 ⟨rfl, rfl⟩)
  go_ret
  exact ⟨rfl, Below.refl _ _⟩
 ·go_enter Tryz.func163, Tryz.ntmps163
  go_wp2_with (first | (go_at_call 149; refine (within_c _ _ _ _).mono ?_; rintro e w1 ⟨rfl, rfl⟩) | (go_at_call 103; refine HC.out.mono ?_; rintro e w1 ⟨rfl, hb1⟩))
  go_ret
  exact ⟨rfl, hb1⟩
def okKnot (l : List Int) (i : Nat) : Bool := inB (nth l i) (-1000000) 1000000 && (i == 0 || inB (nth l i - nth l (i - 1)) 1 10000)
def axisB (l : List Int) : Bool := inB l.length 2 12 && (List.range l.length).all (okKnot l)
theorem inB_iff {n lo hi : Int} : inB n lo hi = true ↔ lo ≤ n ∧ n ≤ hi := by simp [inB]
theorem okKnot_range {l : List Int} {i : Nat} (h : okKnot l i = true) : -1000000 ≤ nth l i ∧ nth l i ≤ 1000000 := by
 unfold okKnot at h; simp only [Bool.and_eq_true] at h; exact inB_iff.1 h.1
theorem okKnot_zero {l : List Int} (h : inB (nth l 0) (-1000000) 1000000 = true) : okKnot l 0 = true := by simp [okKnot, h]
theorem okKnot_succ {l : List Int} {i : Nat} (h : inB (nth l i) (-1000000) 1000000 = true) (h2 : inB (nth l i - nth l (i - 1)) 1 10000 = true) : okKnot l i = true := by simp [okKnot, h, h2]
theorem axisB_no {l : List Int} {k : Nat} (hk : k < l.length) (h : okKnot l k = false) : axisB l = false := by
 unfold axisB; rw [Bool.and_eq_false_iff]; right
 rw [List.all_eq_false]; exact ⟨k, by simpa using hk, by simp [h]⟩
theorem axisB_yes {l : List Int} (h0 : inB l.length 2 12 = true) (h : ∀ k, k < l.length → okKnot l k = true) : axisB l = true := by
 unfold axisB; rw [h0, Bool.true_and, List.all_eq_true]; intro k hk; exact h k (by simpa using hk)
set_option maxHeartbeats 800000 in
theorem axis_c (v : Value) (xs : List Int) (w : World) (hv : Ints w v xs) :
  Calls Tryz.prog 151 #[v] w fun e w' => e = .returned (.bool (axisB xs)) ∧ w = w' := by
 obtain ⟨A, c, rfl, hc1, hc2, _, hA⟩ := hv
 have hc3 : xs.length ≤ 9223372036854775807 := by omega
 generalize hL : xs.length = n at *
 have HL := hI9 hL
 clear hL
 cases h0 : inB n 2 12
 ·go_enter Tryz.func151, Tryz.ntmps151
  go_wp2_with (go_at_call 149; refine (within_c _ _ _ _).mono ?_; rintro e w1 ⟨rfl, rfl⟩)
  go_ret
  exact ⟨ret_bool (by unfold axisB; rw [HL.out, h0]; rfl), rfl⟩
 ·go_enter Tryz.func151, Tryz.ntmps151
  go_wp2_with (go_at_call 149; refine (within_c _ _ _ _).mono ?_; rintro e w1 ⟨rfl, rfl⟩)
  have H0 := hI9 h0
  clear h0
  go_loop [3, 4, 11] (fun _ _ s => ∃ k : Nat, k ≤ n ∧ s = .int .i64 k ∧ Hid (∀ j, j < k → okKnot xs j = true)) (fun _ _ i => n - (intOf i).toNat)
  case atStart => exact ⟨0, by omega, rfl, fun j hj => absurd hj (by omega)⟩
  case round =>
   obtain ⟨k, hk, rfl, hF⟩ := hrel
   by_cases hlt : k < n
   ·obtain ⟨b, off, rfl, hb, hc⟩ := hA (by omega)
    have hck := hc k hlt
    cases h1 : inB (nth xs k) (-1000000) 1000000
    ·clear hc hA
     go_wp2_with (go_at_call 149; refine (within_c _ _ _ _).mono ?_; rintro e w1 ⟨rfl, rfl⟩)
     go_ret
     exact ⟨ret_bool (axisB_no (by rw [HL.out]; exact hlt) (show okKnot xs k = false by simp [okKnot, h1])).symm, rfl⟩
    ·have hr := inB_iff.1 h1
     by_cases hk0 : k = 0
     ·subst hk0
      simp only [Nat.add_zero] at hck
      clear hc hA
      go_wp2_with (go_at_call 149; refine (within_c _ _ _ _).mono ?_; rintro e w1 ⟨rfl, rfl⟩)
      go_round
      case rel => exact ⟨0 + 1, by omega, by go_num, fun j hj => by
       obtain rfl : j = 0 := by omega
       exact okKnot_zero h1⟩
      case measure => simp [intOf]; omega
     ·have hkp : 0 < k := by omega
      have hcp := hc (k - 1) (by omega)
      have hrp := okKnot_range (hF.out (k - 1) (by omega))
      clear hc hA
      cases h2 : inB (nth xs k - nth xs (k - 1)) 1 10000
      ·go_wp2_with (go_at_call 149; refine (within_c _ _ _ _).mono ?_; rintro e w1 ⟨rfl, rfl⟩)
       go_ret
       exact ⟨ret_bool (axisB_no (by rw [HL.out]; exact hlt) (show okKnot xs k = false by simp [okKnot, h1, h2, hk0])).symm, rfl⟩
      ·go_wp2_with (go_at_call 149; refine (within_c _ _ _ _).mono ?_; rintro e w1 ⟨rfl, rfl⟩)
       go_round
       case rel => exact ⟨k + 1, by omega, by go_num, fun j hj => by
        by_cases e : j = k
        ·subst e; exact okKnot_succ h1 h2
        ·exact hF.out j (by omega)⟩
       case measure => simp [intOf]; omega
   ·obtain rfl : k = n := by omega
    clear hA
    go_wp2
    go_ret
    exact ⟨ret_bool (axisB_yes (by rw [HL.out]; exact H0.out) (by rw [HL.out]; exact hF.out)).symm, rfl⟩
end Go.Proofs.YtlambeiafdpkgaaGreat
namespace Go.Proofs.YtlambeiafdpkgaaGreat
open Go Go.RowKit Go.Proofs
theorem out_c (n : Int) (w : World) :
  Calls Tryz.prog 148 #[.int .i64 n] w fun e w' => e = .returned (.bool (!inB n (-1000000) 1000000)) ∧ w = w' := by
 go_enter Tryz.func148, Tryz.ntmps148
 go_wp2_with (go_at_call 149; refine (within_c _ _ _ _).mono ?_; rintro e w1 ⟨rfl, rfl⟩)
 go_ret
 exact ⟨rfl, rfl⟩
def anyOut (r : List Int) : Bool := (List.range r.length).any fun i => !inB (nth r i) (-1000000) 1000000
def rowBad (ny : Nat) (r : List Int) : Bool := (r.length : Int) != (ny : Int) || anyOut r
theorem row_c (l : Value) (xs : List Int) (bt bo : Nat) (y : Value) (ny : Nat) (w : World) (hl : Ints w l xs)
  (hy : w.cell? ⟨bt, 1, none⟩ = some y) (hyl : ∃ A c, y = .slice A ny c) (hny : ny ≤ 9223372036854775807)
  (ho : w.cell? ⟨bo, 0, none⟩ = some (.func (.func 148) #[] #[])) :
  Calls Tryz.prog 150 #[l, .pointer (some ⟨bt, 0, none⟩), .pointer (some ⟨bo, 0, none⟩)] w fun e w' => e = .returned (.bool (rowBad ny xs)) ∧ Below w.heap.size w w' := by
 obtain ⟨A, c, rfl, hc1, hc2, _, hA⟩ := hl
 obtain ⟨yA, yc, rfl⟩ := hyl
 have hcf := cfInt_c A xs.length c (nth xs) 148 #[] (fun i => !inB (nth xs i) (-1000000) 1000000) w (by omega) (enters_of Tryz.func148 (by kernel_rfl) rfl) hA
  (fun W i _ hb => (out_c (nth xs i) W).mono fun e w' ⟨he, hw⟩ => ⟨he, hw ▸ Below.refl _ _⟩)
 have hcf' : Calls Tryz.prog 65 #[.slice A xs.length c, .func (.func 148) #[] #[]] w fun e w' => e = .returned (.bool (anyOut xs)) ∧ Below w.heap.size w w' := hcf
 have HC := hI9 hcf'
 clear hcf hcf'
 have hlen : xs.length ≤ 9223372036854775807 := by omega
 cases h : ((xs.length : Int) != (ny : Int))
 ·go_enter Tryz.func150, Tryz.ntmps150
  go_wp2_with (go_at_call 65; refine HC.out.mono ?_; rintro e w1 ⟨rfl, hb1⟩)
  go_ret
  exact ⟨ret_bool (by simp [rowBad, h]), hb1⟩
 ·go_enter Tryz.func150, Tryz.ntmps150
  go_wp2
  go_ret
  exact ⟨ret_bool (by simp [rowBad, h]), Below.refl _ _⟩
def anyRowBad (ny : Nat) (V : List (List Int)) : Bool := (List.range V.length).any fun i => rowBad ny (nthR V i)
def tblB (T : Tbl) : Bool := axisB T.X && axisB T.Y && !((T.V.length : Int) != (T.X.length : Int)) && !anyRowBad T.Y.length T.V
def tblE (b : Bool) : Int := if b then 0 else 11
theorem tblE_t : tblE true = 0 := rfl
theorem tblE_f : tblE false = 11 := rfl
set_option maxHeartbeats 800000 in
theorem CheckTable_c (x y v : Value) (T : Tbl) (w : World) (hT : TblAt w x y v T) :
  Calls Tryz.prog 102 #[.agg #[x, y, v]] w fun e w' => e = .returned (.int .i64 (tblE (tblB T))) ∧ Below w.heap.size w w' := by
 have hx := hT.x
 have hy := hT.y
 have hyl := hy.len
 have hxl := hx.len
 obtain ⟨A, c, vs, rfl, hv1, hv2, hv3, hv4⟩ := hT.v
 have hcf : ∀ W, Below w.heap.size w W → W.cell? ⟨w.heap.size, 1, none⟩ = some y → W.cell? ⟨w.heap.size + 1, 0, none⟩ = some (.func (.func 148) #[] #[]) →
   Hid (Calls Tryz.prog 152 #[.slice A T.V.length c, .func (.func 150) #[] #[.pointer (some ⟨w.heap.size, 0, none⟩), .pointer (some ⟨w.heap.size + 1, 0, none⟩)]] W fun e w' => e = .returned (.bool (anyRowBad T.Y.length T.V)) ∧ Below W.heap.size W w') := by
  intro W hW h1 h2
  have b1 := blk_lt h1
  have b2 := blk_lt h2
  refine cfRow_c A T.V.length c vs 150 #[.pointer (some ⟨w.heap.size, 0, none⟩), .pointer (some ⟨w.heap.size + 1, 0, none⟩)] (fun i => rowBad T.Y.length (nthR T.V i)) W (by omega)
   (enters_of Tryz.func150 (by kernel_rfl) rfl) (hv3.below hW) ?_
  intro W' i hi hb
  obtain ⟨yA, yc, hyv, _⟩ := hy
  refine row_c (vs i) (nthR T.V i) w.heap.size (w.heap.size + 1) y T.Y.length W' (((hv4 i hi).below hW).below hb) ?_ ⟨yA, yc, hyv⟩ hyl ?_
  ·exact (hb.cell (p := ⟨w.heap.size, 1, none⟩) b1).trans h1
  ·exact (hb.cell (p := ⟨w.heap.size + 1, 0, none⟩) b2).trans h2
 clear hv3 hv4
 obtain ⟨xA, xc, rfl, _⟩ := id hx
 obtain ⟨yA, yc, rfl, _⟩ := id hy
 clear hT
 cases h1 : axisB T.X
 ·go_enter Tryz.func102, Tryz.ntmps102
  go_wp2_with (first | (go_at_call 151; (with_reducible refine (axis_c _ T.X _ (hx.below (by repeat' (first | exact Below.refl _ _ | assumption | refine Below.drew ?_ | refine bdn ?_ _ | refine bal ?_ _ | refine Below.setCell ?_ (by first | (simp; done) | omega | (simp; omega)) _)))).mono ?_); rintro e w1 ⟨rfl, rfl⟩))
  go_ret
  exact ⟨ret_int (by simp [tblB, h1, tblE]), (by repeat' (first | exact Below.refl _ _ | assumption | refine Below.drew ?_ | refine bdn ?_ _ | refine bal ?_ _ | refine Below.setCell ?_ (by first | (simp; done) | omega | (simp; omega)) _))⟩
 ·cases h2 : axisB T.Y
  ·go_enter Tryz.func102, Tryz.ntmps102
   go_wp2_with (first | (go_at_call 151; (with_reducible refine (axis_c _ T.X _ (hx.below (by repeat' (first | exact Below.refl _ _ | assumption | refine Below.drew ?_ | refine bdn ?_ _ | refine bal ?_ _ | refine Below.setCell ?_ (by first | (simp; done) | omega | (simp; omega)) _)))).mono ?_); rintro e w1 ⟨rfl, rfl⟩) | (go_at_call 151; (with_reducible refine (axis_c _ T.Y _ (hy.below (by repeat' (first | exact Below.refl _ _ | assumption | refine Below.drew ?_ | refine bdn ?_ _ | refine bal ?_ _ | refine Below.setCell ?_ (by first | (simp; done) | omega | (simp; omega)) _)))).mono ?_); rintro e w1 ⟨rfl, rfl⟩))
   go_ret
   exact ⟨ret_int (by simp [tblB, h1, h2, tblE]), (by repeat' (first | exact Below.refl _ _ | assumption | refine Below.drew ?_ | refine bdn ?_ _ | refine bal ?_ _ | refine Below.setCell ?_ (by first | (simp; done) | omega | (simp; omega)) _))⟩
  ·cases h3 : ((T.V.length : Int) != (T.X.length : Int))
   ·have HC := hcf ((w.alloc (.cells #[.slice xA T.X.length xc, .slice yA T.Y.length yc, .slice A T.V.length c] 94)).alloc (.cells #[.func (.func 148) #[] #[]] 103)) (by repeat' (first | exact Below.refl _ _ | assumption | refine Below.drew ?_ | refine bdn ?_ _ | refine bal ?_ _ | refine Below.setCell ?_ (by first | (simp; done) | omega | (simp; omega)) _)) (by simp [World.cell?_alloc_old]) (by simpa using World.cell?_alloc_new (w.alloc (.cells #[.slice xA T.X.length xc, .slice yA T.Y.length yc, .slice A T.V.length c] 94)) #[.func (.func 148) #[] #[]] 103 0)
    clear hcf
    have h3' : (tblB T) = !anyRowBad T.Y.length T.V := by simp [tblB, h1, h2, h3]
    have H3 := hI9 h3'
    clear h3'
    cases h4 : anyRowBad T.Y.length T.V
    all_goals
     rw [h4] at HC H3
     clear h4
     go_enter Tryz.func102, Tryz.ntmps102
     go_wp2_with (first | (go_at_call 151; (with_reducible refine (axis_c _ T.X _ (hx.below (by repeat' (first | exact Below.refl _ _ | assumption | refine Below.drew ?_ | refine bdn ?_ _ | refine bal ?_ _ | refine Below.setCell ?_ (by first | (simp; done) | omega | (simp; omega)) _)))).mono ?_); rintro e w1 ⟨rfl, rfl⟩) | (go_at_call 151; (with_reducible refine (axis_c _ T.Y _ (hy.below (by repeat' (first | exact Below.refl _ _ | assumption | refine Below.drew ?_ | refine bdn ?_ _ | refine bal ?_ _ | refine Below.setCell ?_ (by first | (simp; done) | omega | (simp; omega)) _)))).mono ?_); rintro e w1 ⟨rfl, rfl⟩) | (go_at_call 152; refine HC.out.mono ?_; rintro e w1 ⟨rfl, hb1⟩))
     go_ret
     exact ⟨ret_int (by rw [H3.out]; rfl), bthen (by repeat' (first | exact Below.refl _ _ | assumption | refine Below.drew ?_ | refine bdn ?_ _ | refine bal ?_ _ | refine Below.setCell ?_ (by first | (simp; done) | omega | (simp; omega)) _)) hb1⟩
   ·go_enter Tryz.func102, Tryz.ntmps102
    go_wp2_with (first | (go_at_call 151; (with_reducible refine (axis_c _ T.X _ (hx.below (by repeat' (first | exact Below.refl _ _ | assumption | refine Below.drew ?_ | refine bdn ?_ _ | refine bal ?_ _ | refine Below.setCell ?_ (by first | (simp; done) | omega | (simp; omega)) _)))).mono ?_); rintro e w1 ⟨rfl, rfl⟩) | (go_at_call 151; (with_reducible refine (axis_c _ T.Y _ (hy.below (by repeat' (first | exact Below.refl _ _ | assumption | refine Below.drew ?_ | refine bdn ?_ _ | refine bal ?_ _ | refine Below.setCell ?_ (by first | (simp; done) | omega | (simp; omega)) _)))).mono ?_); rintro e w1 ⟨rfl, rfl⟩))
    go_ret
    exact ⟨ret_int (by simp [tblB, h1, h2, h3, tblE]), (by repeat' (first | exact Below.refl _ _ | assumption | refine Below.drew ?_ | refine bdn ?_ _ | refine bal ?_ _ | refine Below.setCell ?_ (by first | (simp; done) | omega | (simp; omega)) _))⟩
end Go.Proofs.YtlambeiafdpkgaaGreat
namespace Go.Proofs.YtlambeiafdpkgaaGreat
open Go Go.RowKit Go.Proofs
def liesB (xs : List Int) (lo hi : Int) : Bool := decide (nth xs 0 ≤ lo) && decide (hi ≤ nth xs (xs.length - 1))
theorem lies_c (v : Value) (xs : List Int) (lo hi : Int) (w : World) (hv : Ints w v xs) (h0 : 0 < xs.length) :
  Calls Tryz.prog 104 #[v, .agg #[.int .i64 lo, .int .i64 hi]] w fun e w' => e = .returned (.bool (liesB xs lo hi)) ∧ Below w.heap.size w w' := by
 obtain ⟨A, c, rfl, hc1, hc2, _, hA⟩ := hv
 obtain ⟨b, off, rfl, hb, hc⟩ := hA h0
 have c0 := hc 0 h0
 simp only [Nat.add_zero] at c0
 have c1 := hc (xs.length - 1) (by omega)
 clear hc hA
 have hi0 : (0 : Int) < (xs.length : Int) := by omega
 have hi1 : (xs.length : Int) ≤ 9223372036854775807 := by omega
 have ht : ((xs.length : Int) - 1).toNat = xs.length - 1 := by omega
 by_cases h : nth xs 0 ≤ lo
 ·go_enter Tryz.func104, Tryz.ntmps104
  go_wp2
  go_quiet (fail)
  go_wp2
  go_ret
  exact ⟨ret_bool (by simp [liesB, h]), (by repeat' (first | exact Below.refl _ _ | assumption | refine Below.drew ?_ | refine bdn ?_ _ | refine bal ?_ _ | refine Below.setCell ?_ (by first | (simp; done) | omega | (simp; omega)) _))⟩
 ·have hd : decide (nth xs 0 ≤ lo) = false := by simpa using h
  go_enter Tryz.func104, Tryz.ntmps104
  go_wp2
  go_quiet (fail)
  go_wp2
  go_ret
  exact ⟨ret_bool (by simp [liesB, hd]), (by repeat' (first | exact Below.refl _ _ | assumption | refine Below.drew ?_ | refine bdn ?_ _ | refine bal ?_ _ | refine Below.setCell ?_ (by first | (simp; done) | omega | (simp; omega)) _))⟩
theorem anyBad2 (lo hi : Nat → Int) : anyBad 2 lo hi = (!vspan (lo 0) (hi 0) || !vspan (lo 1) (hi 1)) := by
 simp [anyBad, List.range_succ]
theorem anyBad1 (lo hi : Nat → Int) : anyBad 1 lo hi = !vspan (lo 0) (hi 0) := by
 simp [anyBad, List.range_succ]
theorem spanned2_c (b c : Nat) (xl xh yl yh : Int) (w : World) (h0 : w.cell? ⟨b, 0, none⟩ = some (.int .i64 xl)) (h1 : w.cell? ⟨b, 1, none⟩ = some (.int .i64 xh))
  (h2 : w.cell? ⟨b, 2, none⟩ = some (.int .i64 yl)) (h3 : w.cell? ⟨b, 3, none⟩ = some (.int .i64 yh)) :
  Calls Tryz.prog 103 #[.slice (some ⟨b, 0, none⟩) 2 c] w fun e w' => e = .returned (.int .i64 (spanE (!vspan xl xh || !vspan yl yh))) ∧ Below w.heap.size w w' := by
 have h := spanned_c (some ⟨b, 0, none⟩) 2 c (fun i => if i = 0 then xl else yl) (fun i => if i = 0 then xh else yh) w (by omega)
  (fun _ => ⟨b, 0, rfl, blk_lt h0, fun k hk => by
   rcases (show k = 0 ∨ k = 1 by omega) with rfl | rfl
   ·simpa using ⟨h0, h1⟩
   ·simpa using ⟨h2, h3⟩⟩)
 rw [anyBad2] at h
 exact h
def cpE (T : Tbl) (xl xh yl yh : Int) : Int :=
 if tblB T then (if vspan xl xh && vspan yl yh then (if liesB T.X xl xh && liesB T.Y yl yh then 0 else 1) else 10) else 11
theorem axisB_len {l : List Int} (h : axisB l = true) : 2 ≤ l.length ∧ l.length ≤ 12 := by
 unfold axisB at h; simp only [Bool.and_eq_true] at h; have := inB_iff.1 h.1; omega
theorem tblB_X {T : Tbl} (h : tblB T = true) : axisB T.X = true := by unfold tblB at h; simp only [Bool.and_eq_true] at h; exact h.1.1.1
theorem tblB_Y {T : Tbl} (h : tblB T = true) : axisB T.Y = true := by unfold tblB at h; simp only [Bool.and_eq_true] at h; exact h.1.1.2
set_option maxHeartbeats 800000 in
theorem checkPoints_c (x y v : Value) (T : Tbl) (xl xh yl yh : Int) (w : World) (hT : TblAt w x y v T) :
  Calls Tryz.prog 53 #[.agg #[x, y, v], .agg #[.int .i64 xl, .int .i64 xh], .agg #[.int .i64 yl, .int .i64 yh]] w fun e w' => e = .returned (.int .i64 (cpE T xl xh yl yh)) ∧ Below w.heap.size w w' := by
 have e1 := tblE_t
 have e2 := tblE_f
 have e3 := spanE_t
 have e4 := spanE_f
 cases h1 : tblB T
 ·go_enter Tryz.func53, Tryz.ntmps53
  go_wp2_with (first | (go_at_call 102; (with_reducible refine (CheckTable_c _ _ _ T _ (hT.below (by repeat' (first | exact Below.refl _ _ | assumption | refine Below.drew ?_ | refine bdn ?_ _ | refine bal ?_ _ | refine Below.setCell ?_ (by first | (simp; done) | omega | (simp; omega)) _)))).mono ?_); rintro e w1 ⟨rfl, hb1⟩; have hB1 := bthen (show Below w.heap.size w _ from (by repeat' (first | exact Below.refl _ _ | assumption | refine Below.drew ?_ | refine bdn ?_ _ | refine bal ?_ _ | refine Below.setCell ?_ (by first | (simp; done) | omega | (simp; omega)) _))) hb1; have hz1 := hb1.size; (try simp at hz1); obtain ⟨hc1, hf1⟩ := bcell hb1; first | (have hE1 := bthen2 hE (by repeat' (first | exact Below.refl _ _ | refine Below.drew ?_ | refine bdn ?_ _ | refine bal ?_ _ | refine Below.setCell ?_ (by first | (simp; done) | omega | (simp; omega)) _)) hb1; clear hE; have hE := hE1; clear hE1; obtain ⟨hd1, hg1⟩ := bcell hE) | (have hE := hb1)))
  go_ret
  exact ⟨ret_int (by simp [cpE, h1]), (by repeat' (first | exact Below.refl _ _ | assumption | refine Below.drew ?_ | refine bdn ?_ _ | refine bal ?_ _ | refine Below.setCell ?_ (by first | (simp; done) | omega | (simp; omega)) _))⟩
 ·have hX := axisB_len (tblB_X h1)
  have hY := axisB_len (tblB_Y h1)
  cases h2 : vspan xl xh
  ·go_enter Tryz.func53, Tryz.ntmps53
   go_wp2_with (first | (go_at_call 102; (with_reducible refine (CheckTable_c _ _ _ T _ (hT.below (by repeat' (first | exact Below.refl _ _ | assumption | refine Below.drew ?_ | refine bdn ?_ _ | refine bal ?_ _ | refine Below.setCell ?_ (by first | (simp; done) | omega | (simp; omega)) _)))).mono ?_); rintro e w1 ⟨rfl, hb1⟩; have hB1 := bthen (show Below w.heap.size w _ from (by repeat' (first | exact Below.refl _ _ | assumption | refine Below.drew ?_ | refine bdn ?_ _ | refine bal ?_ _ | refine Below.setCell ?_ (by first | (simp; done) | omega | (simp; omega)) _))) hb1; have hz1 := hb1.size; (try simp at hz1); obtain ⟨hc1, hf1⟩ := bcell hb1; first | (have hE1 := bthen2 hE (by repeat' (first | exact Below.refl _ _ | refine Below.drew ?_ | refine bdn ?_ _ | refine bal ?_ _ | refine Below.setCell ?_ (by first | (simp; done) | omega | (simp; omega)) _)) hb1; clear hE; have hE := hE1; clear hE1; obtain ⟨hd1, hg1⟩ := bcell hE) | (have hE := hb1)) | (go_at_call 103; (with_reducible refine (spanned2_c _ _ xl xh yl yh _ (by simp) (by simp) (by simp) (by simp)).mono ?_); rintro e w1 ⟨rfl, hb1⟩; have hB1 := bthen (show Below w.heap.size w _ from (by repeat' (first | exact Below.refl _ _ | assumption | refine Below.drew ?_ | refine bdn ?_ _ | refine bal ?_ _ | refine Below.setCell ?_ (by first | (simp; done) | omega | (simp; omega)) _))) hb1; have hz1 := hb1.size; (try simp at hz1); obtain ⟨hc1, hf1⟩ := bcell hb1; first | (have hE1 := bthen2 hE (by repeat' (first | exact Below.refl _ _ | refine Below.drew ?_ | refine bdn ?_ _ | refine bal ?_ _ | refine Below.setCell ?_ (by first | (simp; done) | omega | (simp; omega)) _)) hb1; clear hE; have hE := hE1; clear hE1; obtain ⟨hd1, hg1⟩ := bcell hE) | (have hE := hb1)))
   go_ret
   exact ⟨ret_int (by simp [cpE, h1, h2]), (by repeat' (first | exact Below.refl _ _ | assumption | refine Below.drew ?_ | refine bdn ?_ _ | refine bal ?_ _ | refine Below.setCell ?_ (by first | (simp; done) | omega | (simp; omega)) _))⟩
  ·cases h3 : vspan yl yh
   ·go_enter Tryz.func53, Tryz.ntmps53
    go_wp2_with (first | (go_at_call 102; (with_reducible refine (CheckTable_c _ _ _ T _ (hT.below (by repeat' (first | exact Below.refl _ _ | assumption | refine Below.drew ?_ | refine bdn ?_ _ | refine bal ?_ _ | refine Below.setCell ?_ (by first | (simp; done) | omega | (simp; omega)) _)))).mono ?_); rintro e w1 ⟨rfl, hb1⟩; have hB1 := bthen (show Below w.heap.size w _ from (by repeat' (first | exact Below.refl _ _ | assumption | refine Below.drew ?_ | refine bdn ?_ _ | refine bal ?_ _ | refine Below.setCell ?_ (by first | (simp; done) | omega | (simp; omega)) _))) hb1; have hz1 := hb1.size; (try simp at hz1); obtain ⟨hc1, hf1⟩ := bcell hb1; first | (have hE1 := bthen2 hE (by repeat' (first | exact Below.refl _ _ | refine Below.drew ?_ | refine bdn ?_ _ | refine bal ?_ _ | refine Below.setCell ?_ (by first | (simp; done) | omega | (simp; omega)) _)) hb1; clear hE; have hE := hE1; clear hE1; obtain ⟨hd1, hg1⟩ := bcell hE) | (have hE := hb1)) | (go_at_call 103; (with_reducible refine (spanned2_c _ _ xl xh yl yh _ (by simp) (by simp) (by simp) (by simp)).mono ?_); rintro e w1 ⟨rfl, hb1⟩; have hB1 := bthen (show Below w.heap.size w _ from (by repeat' (first | exact Below.refl _ _ | assumption | refine Below.drew ?_ | refine bdn ?_ _ | refine bal ?_ _ | refine Below.setCell ?_ (by first | (simp; done) | omega | (simp; omega)) _))) hb1; have hz1 := hb1.size; (try simp at hz1); obtain ⟨hc1, hf1⟩ := bcell hb1; first | (have hE1 := bthen2 hE (by repeat' (first | exact Below.refl _ _ | refine Below.drew ?_ | refine bdn ?_ _ | refine bal ?_ _ | refine Below.setCell ?_ (by first | (simp; done) | omega | (simp; omega)) _)) hb1; clear hE; have hE := hE1; clear hE1; obtain ⟨hd1, hg1⟩ := bcell hE) | (have hE := hb1)))
    go_ret
    exact ⟨ret_int (by simp [cpE, h1, h2, h3]), (by repeat' (first | exact Below.refl _ _ | assumption | refine Below.drew ?_ | refine bdn ?_ _ | refine bal ?_ _ | refine Below.setCell ?_ (by first | (simp; done) | omega | (simp; omega)) _))⟩
   ·cases h4 : liesB T.X xl xh
    ·go_enter Tryz.func53, Tryz.ntmps53
     go_wp2_with (first | (go_at_call 102; (with_reducible refine (CheckTable_c _ _ _ T _ (hT.below (by repeat' (first | exact Below.refl _ _ | assumption | refine Below.drew ?_ | refine bdn ?_ _ | refine bal ?_ _ | refine Below.setCell ?_ (by first | (simp; done) | omega | (simp; omega)) _)))).mono ?_); rintro e w1 ⟨rfl, hb1⟩; have hB1 := bthen (show Below w.heap.size w _ from (by repeat' (first | exact Below.refl _ _ | assumption | refine Below.drew ?_ | refine bdn ?_ _ | refine bal ?_ _ | refine Below.setCell ?_ (by first | (simp; done) | omega | (simp; omega)) _))) hb1; have hz1 := hb1.size; (try simp at hz1); obtain ⟨hc1, hf1⟩ := bcell hb1; first | (have hE1 := bthen2 hE (by repeat' (first | exact Below.refl _ _ | refine Below.drew ?_ | refine bdn ?_ _ | refine bal ?_ _ | refine Below.setCell ?_ (by first | (simp; done) | omega | (simp; omega)) _)) hb1; clear hE; have hE := hE1; clear hE1; obtain ⟨hd1, hg1⟩ := bcell hE) | (have hE := hb1)) | (go_at_call 103; (with_reducible refine (spanned2_c _ _ xl xh yl yh _ (by simp) (by simp) (by simp) (by simp)).mono ?_); rintro e w1 ⟨rfl, hb1⟩; have hB1 := bthen (show Below w.heap.size w _ from (by repeat' (first | exact Below.refl _ _ | assumption | refine Below.drew ?_ | refine bdn ?_ _ | refine bal ?_ _ | refine Below.setCell ?_ (by first | (simp; done) | omega | (simp; omega)) _))) hb1; have hz1 := hb1.size; (try simp at hz1); obtain ⟨hc1, hf1⟩ := bcell hb1; first | (have hE1 := bthen2 hE (by repeat' (first | exact Below.refl _ _ | refine Below.drew ?_ | refine bdn ?_ _ | refine bal ?_ _ | refine Below.setCell ?_ (by first | (simp; done) | omega | (simp; omega)) _)) hb1; clear hE; have hE := hE1; clear hE1; obtain ⟨hd1, hg1⟩ := bcell hE) | (have hE := hb1)) | (go_at_call 104; (with_reducible refine (lies_c x T.X _ _ _ (hT.x.below (by repeat' (first | exact Below.refl _ _ | assumption | refine Below.drew ?_ | refine bdn ?_ _ | refine bal ?_ _ | refine Below.setCell ?_ (by first | (simp; done) | omega | (simp; omega)) _))) (by omega)).mono ?_); rintro e w1 ⟨rfl, hb1⟩; have hB1 := bthen (show Below w.heap.size w _ from (by repeat' (first | exact Below.refl _ _ | assumption | refine Below.drew ?_ | refine bdn ?_ _ | refine bal ?_ _ | refine Below.setCell ?_ (by first | (simp; done) | omega | (simp; omega)) _))) hb1; have hz1 := hb1.size; (try simp at hz1); obtain ⟨hc1, hf1⟩ := bcell hb1; first | (have hE1 := bthen2 hE (by repeat' (first | exact Below.refl _ _ | refine Below.drew ?_ | refine bdn ?_ _ | refine bal ?_ _ | refine Below.setCell ?_ (by first | (simp; done) | omega | (simp; omega)) _)) hb1; clear hE; have hE := hE1; clear hE1; obtain ⟨hd1, hg1⟩ := bcell hE) | (have hE := hb1)))
     go_ret
     exact ⟨ret_int (by simp [cpE, h1, h2, h3, h4]), (by repeat' (first | exact Below.refl _ _ | assumption | refine Below.drew ?_ | refine bdn ?_ _ | refine bal ?_ _ | refine Below.setCell ?_ (by first | (simp; done) | omega | (simp; omega)) _))⟩
    ·cases h5 : liesB T.Y yl yh
     all_goals
      go_enter Tryz.func53, Tryz.ntmps53
      go_wp2_with (first | (go_at_call 102; (with_reducible refine (CheckTable_c _ _ _ T _ (hT.below (by repeat' (first | exact Below.refl _ _ | assumption | refine Below.drew ?_ | refine bdn ?_ _ | refine bal ?_ _ | refine Below.setCell ?_ (by first | (simp; done) | omega | (simp; omega)) _)))).mono ?_); rintro e w1 ⟨rfl, hb1⟩; have hB1 := bthen (show Below w.heap.size w _ from (by repeat' (first | exact Below.refl _ _ | assumption | refine Below.drew ?_ | refine bdn ?_ _ | refine bal ?_ _ | refine Below.setCell ?_ (by first | (simp; done) | omega | (simp; omega)) _))) hb1; have hz1 := hb1.size; (try simp at hz1); obtain ⟨hc1, hf1⟩ := bcell hb1; first | (have hE1 := bthen2 hE (by repeat' (first | exact Below.refl _ _ | refine Below.drew ?_ | refine bdn ?_ _ | refine bal ?_ _ | refine Below.setCell ?_ (by first | (simp; done) | omega | (simp; omega)) _)) hb1; clear hE; have hE := hE1; clear hE1; obtain ⟨hd1, hg1⟩ := bcell hE) | (have hE := hb1)) | (go_at_call 103; (with_reducible refine (spanned2_c _ _ xl xh yl yh _ (by simp) (by simp) (by simp) (by simp)).mono ?_); rintro e w1 ⟨rfl, hb1⟩; have hB1 := bthen (show Below w.heap.size w _ from (by repeat' (first | exact Below.refl _ _ | assumption | refine Below.drew ?_ | refine bdn ?_ _ | refine bal ?_ _ | refine Below.setCell ?_ (by first | (simp; done) | omega | (simp; omega)) _))) hb1; have hz1 := hb1.size; (try simp at hz1); obtain ⟨hc1, hf1⟩ := bcell hb1; first | (have hE1 := bthen2 hE (by repeat' (first | exact Below.refl _ _ | refine Below.drew ?_ | refine bdn ?_ _ | refine bal ?_ _ | refine Below.setCell ?_ (by first | (simp; done) | omega | (simp; omega)) _)) hb1; clear hE; have hE := hE1; clear hE1; obtain ⟨hd1, hg1⟩ := bcell hE) | (have hE := hb1)) | (go_at_call 104; (with_reducible refine (lies_c x T.X _ _ _ (hT.x.below (by repeat' (first | exact Below.refl _ _ | assumption | refine Below.drew ?_ | refine bdn ?_ _ | refine bal ?_ _ | refine Below.setCell ?_ (by first | (simp; done) | omega | (simp; omega)) _))) (by omega)).mono ?_); rintro e w1 ⟨rfl, hb1⟩; have hB1 := bthen (show Below w.heap.size w _ from (by repeat' (first | exact Below.refl _ _ | assumption | refine Below.drew ?_ | refine bdn ?_ _ | refine bal ?_ _ | refine Below.setCell ?_ (by first | (simp; done) | omega | (simp; omega)) _))) hb1; have hz1 := hb1.size; (try simp at hz1); obtain ⟨hc1, hf1⟩ := bcell hb1; first | (have hE1 := bthen2 hE (by repeat' (first | exact Below.refl _ _ | refine Below.drew ?_ | refine bdn ?_ _ | refine bal ?_ _ | refine Below.setCell ?_ (by first | (simp; done) | omega | (simp; omega)) _)) hb1; clear hE; have hE := hE1; clear hE1; obtain ⟨hd1, hg1⟩ := bcell hE) | (have hE := hb1)) | (go_at_call 104; (with_reducible refine (lies_c y T.Y _ _ _ (hT.y.below (by repeat' (first | exact Below.refl _ _ | assumption | refine Below.drew ?_ | refine bdn ?_ _ | refine bal ?_ _ | refine Below.setCell ?_ (by first | (simp; done) | omega | (simp; omega)) _))) (by omega)).mono ?_); rintro e w1 ⟨rfl, hb1⟩; have hB1 := bthen (show Below w.heap.size w _ from (by repeat' (first | exact Below.refl _ _ | assumption | refine Below.drew ?_ | refine bdn ?_ _ | refine bal ?_ _ | refine Below.setCell ?_ (by first | (simp; done) | omega | (simp; omega)) _))) hb1; have hz1 := hb1.size; (try simp at hz1); obtain ⟨hc1, hf1⟩ := bcell hb1; first | (have hE1 := bthen2 hE (by repeat' (first | exact Below.refl _ _ | refine Below.drew ?_ | refine bdn ?_ _ | refine bal ?_ _ | refine Below.setCell ?_ (by first | (simp; done) | omega | (simp; omega)) _)) hb1; clear hE; have hE := hE1; clear hE1; obtain ⟨hd1, hg1⟩ := bcell hE) | (have hE := hb1)))
      go_ret
      exact ⟨ret_int (by simp [cpE, h1, h2, h3, h4, h5]), (by repeat' (first | exact Below.refl _ _ | assumption | refine Below.drew ?_ | refine bdn ?_ _ | refine bal ?_ _ | refine Below.setCell ?_ (by first | (simp; done) | omega | (simp; omega)) _))⟩
end Go.Proofs.YtlambeiafdpkgaaGreat
namespace Go.Proofs.YtlambeiafdpkgaaGreat
open Go Go.RowKit Go.Proofs
theorem nan1_c (n : Int) (w : World) : Calls Tryz.prog 201 #[.int .i64 n] w fun e w' => e = .returned (.bool false) ∧ w = w' := by
 have h : (n != n) = false := by simp
 go_enter Tryz.func201, Tryz.ntmps201
 go_wp2
 go_ret
 exact ⟨rfl, rfl⟩
theorem nan2_c (n : Int) (w : World) : Calls Tryz.prog 128 #[.int .i64 n] w fun e w' => e = .returned (.bool false) ∧ w = w' := by
 have h : (n != n) = false := by simp
 go_enter Tryz.func128, Tryz.ntmps128
 go_wp2
 go_ret
 exact ⟨rfl, rfl⟩
theorem less_c (a b : Int) (w : World) : Calls Tryz.prog 185 #[.int .i64 a, .int .i64 b] w fun e w' => e = .returned (.bool (decide (a < b))) ∧ w = w' := by
 go_enter Tryz.func185, Tryz.ntmps185
 go_wp2_with (first | (go_at_call 128; (with_reducible refine (nan2_c _ _).mono ?_); rintro e w1 ⟨rfl, rfl⟩))
 go_ret
 exact ⟨rfl, rfl⟩
def lowIx (f : Nat → Int) (n : Nat) (t : Int) : Nat := ((List.range n).find? fun j => decide (t ≤ f j)).getD n
theorem lowIx_eq {f : Nat → Int} {n r : Nat} {t : Int} (hr : r ≤ n) (h1 : ∀ j, j < r → f j < t) (h2 : r < n → t ≤ f r) : lowIx f n t = r := by
 unfold lowIx
 by_cases h : r < n
 ·have : (List.range n).find? (fun j => decide (t ≤ f j)) = some r := by
   rw [List.find?_range_eq_some]
   exact ⟨by simpa using h2 h, List.mem_range.2 h, fun j hj => by have := h1 j hj; simp; omega⟩
  rw [this]; rfl
 ·have : (List.range n).find? (fun j => decide (t ≤ f j)) = none := by
   rw [List.find?_eq_none]
   intro j hj
   have := h1 j (by have := List.mem_range.1 hj; omega)
   simp; omega
  rw [this]; simp; omega
def SomeB (r : Int) (w : World) (e : Ending) (w' : World) : Prop := ∃ b, e = .returned (.tuple #[.int .i64 r, .bool b]) ∧ w = w'
set_option maxHeartbeats 1600000 in
theorem bs_c (A : Option Addr) (n c : Nat) (f : Nat → Int) (t : Int) (w : World) (hn : n ≤ 1000000)
  (hA : CellsAt w A n (fun k => .int .i64 (f k))) (hf : ∀ i j, i ≤ j → j < n → f i ≤ f j) :
  Calls Tryz.prog 192 #[.slice A n c, .int .i64 t] w (SomeB (lowIx f n t) w) := by
 have HF := hI9 hf
 clear hf
 go_enter Tryz.func192, Tryz.ntmps192
 go_wp2
 go_loop [7, 8, 9] (fun s7 s8 _ => ∃ i j : Nat, s7 = .int .i64 i ∧ s8 = .int .i64 j ∧ i ≤ j ∧ j ≤ n ∧ Hid (∀ a, a < i → f a < t) ∧ Hid (∀ a, j ≤ a → a < n → t ≤ f a)) (fun s7 s8 _ => (intOf s8).toNat - (intOf s7).toNat)
 case atStart => exact ⟨0, n, rfl, rfl, by omega, by omega, fun a ha => absurd ha (by omega), fun a h1 h2 => absurd h1 (by omega)⟩
 case round =>
  obtain ⟨i, j, rfl, rfl, hij, hj, h1, h2⟩ := hrel
  by_cases hlt : i < j
  ·have hm1 : (i + j) / 2 < j := by omega
   have hm2 : i ≤ (i + j) / 2 := by omega
   obtain ⟨b, off, rfl, hb, hc⟩ := hA (by omega)
   have hcm := hc ((i + j) / 2) (by omega)
   clear hc hA
   by_cases hl : f ((i + j) / 2) < t
   ·go_wp2_with (first | (go_at_call 185; (with_reducible refine (less_c _ _ _).mono ?_); rintro e w1 ⟨rfl, rfl⟩))
    go_round
    case rel => exact ⟨(i + j) / 2 + 1, j, by go_num, rfl, by omega, by omega, fun a ha => by
     have := HF.out a ((i + j) / 2) (by omega) (by omega); omega, h2⟩
    case measure => simp [intOf]; omega
   ·go_wp2_with (first | (go_at_call 185; (with_reducible refine (less_c _ _ _).mono ?_); rintro e w1 ⟨rfl, rfl⟩))
    go_round
    case rel => exact ⟨i, (i + j) / 2, rfl, by go_num, by omega, by omega, h1, fun a ha1 ha2 => by
     have := HF.out ((i + j) / 2) a ha1 (by omega); omega⟩
    case measure => simp [intOf]; omega
  ·obtain rfl : i = j := by omega
   have hr := lowIx_eq (f := f) (n := n) (r := i) (t := t) hj h1.out (fun h => h2.out i (by omega) h)
   have HR := hI9 hr
   clear hr
   by_cases hi : i < n
   ·obtain ⟨b, off, rfl, hb, hc⟩ := hA (by omega)
    have hcm := hc i hi
    clear hc hA
    cases he : (f i == t)
    ·go_wp2_with (first | (go_at_call 201; (with_reducible refine (nan1_c _ _).mono ?_); rintro e w1 ⟨rfl, rfl⟩))
     go_ret2
     exact ⟨_, by rw [HR.out]; rfl, rfl⟩
    ·go_wp2_with (first | (go_at_call 201; (with_reducible refine (nan1_c _ _).mono ?_); rintro e w1 ⟨rfl, rfl⟩))
     go_ret2
     exact ⟨_, by rw [HR.out]; rfl, rfl⟩
   ·clear hA
    go_wp2
    go_ret2
    exact ⟨_, by rw [HR.out]; rfl, rfl⟩
end Go.Proofs.YtlambeiafdpkgaaGreat
