/- Texts joined: KAB. -/
import Derived.Test.YtlabfpjlckdmfaaGreatKAA
import Derived.Shelf.RegionOpenPlain
import Derived.Test.YtlabfpjlckdmfaaGreatKZA
import Derived.Deep.WholeRow
set_option linter.all false
namespace Go.Proofs.YtlabfpjlckdmfaaGreat
open Go Go.RowKit Go.Proofs
set_option maxRecDepth 100000
set_option maxHeartbeats 4000000
theorem Tryz.rowSpan : RowTy Tryz.prog 23 2 := ⟨by kernel_rfl, by kernel_rfl⟩
theorem Tryz.rowSky : RowTy Tryz.prog 25 8 := ⟨by kernel_rfl, by kernel_rfl⟩
theorem Tryz.rowSet : RowTy Tryz.prog 152 8 := ⟨by kernel_rfl, by kernel_rfl⟩
theorem Tryz.rowMet : RowTy Tryz.prog 29 14 := ⟨by kernel_rfl, by kernel_rfl⟩
theorem Tryz.rowWe : RowTy Tryz.prog 99 5 := ⟨by kernel_rfl, by kernel_rfl⟩
theorem Tryz.rowMin : RowTy Tryz.prog 31 5 := ⟨by kernel_rfl, by kernel_rfl⟩
theorem wwithin_c (n lo hi : Int) (w : World) :
  Calls Tryz.prog 69 #[.int .i64 n, .int .i64 lo, .int .i64 hi] w fun e w' => e = .returned (.bool (inB n lo hi)) ∧ w = w' := by
 by_cases h : lo ≤ n
 ·go_enter Tryz.func69, Tryz.ntmps69
  go_wp2
  go_ret
  exact ⟨ret_bool (by simp [inB, h]), rfl⟩
 ·have h2 : n < lo := by omega
  go_enter Tryz.func69, Tryz.ntmps69
  go_wp2
  go_ret
  exact ⟨ret_bool (by simp [inB]; omega), rfl⟩
theorem Blk.newA {g : Nat} (W : World) (t : TypeId) (cs : Array Value) (hg : g = W.heap.size) : Blk (W.alloc (.cells cs t)) g t cs := by rw [hg]; exact Blk.new W t cs
theorem vspan_iff' {l h : Int} : vspan l h = true ↔ -1000000 ≤ l ∧ l ≤ h ∧ h ≤ 1000000 := by
 unfold vspan inB; simp only [Bool.and_eq_true, decide_eq_true_eq]; omega
theorem ret2 {a b c d : Int} (h1 : a = c) (h2 : b = d) : Ending.returned (.agg #[.int .i64 a, .int .i64 b]) = .returned (.agg #[.int .i64 c, .int .i64 d]) := by rw [h1, h2]
def meE (al ah bl bh : Int) : Int := if max al bl ≤ min ah bh then 0 else 3
def meL (al ah bl bh : Int) : Int := if max al bl ≤ min ah bh then max al bl else 0
def meH (al ah bl bh : Int) : Int := if max al bl ≤ min ah bh then min ah bh else 0
theorem Meet_c (al ah bl bh : Int) (w : World) (ha : vspan al ah = true) (hb : vspan bl bh = true) :
  Calls Tryz.prog 134 #[.agg #[.int .i64 al, .int .i64 ah], .agg #[.int .i64 bl, .int .i64 bh]] w fun e w' => e = .returned (.tuple #[.agg #[.int .i64 (meL al ah bl bh), .int .i64 (meH al ah bl bh)], .int .i64 (meE al ah bl bh)]) ∧ Below w.heap.size w w' := by
 have e4 := spanE_f
 have mixed : Tryz.prog.follows Departure.mixedOrders = true := by kernel_rfl
 obtain ⟨v0, v1, v2⟩ := vspan_iff'.1 ha
 obtain ⟨v3, v4, v5⟩ := vspan_iff'.1 hb
 have C1 := hI9 (fun b c w h0 h1 h2 h3 => (show Calls Tryz.prog 119 #[.slice (some ⟨b, 0, none⟩) 2 c] w fun e w' => e = .returned (.int .i64 0) ∧ Below w.heap.size w w' by
  have := spanned2_c b c al ah bl bh w h0 h1 h2 h3
  rwa [ha, hb, show spanE (!true || !true) = 0 from rfl] at this))
 clear ha hb
 obtain ⟨x, hx⟩ : ∃ q, q = max al bl := ⟨_, rfl⟩
 obtain ⟨y, hy⟩ : ∃ q, q = min ah bh := ⟨_, rfl⟩
 have HX := hI9 hx
 have HY := hI9 hy
 unfold meL meH meE
 rw [← hx, ← hy]
 clear hx hy
 have hx := HX.out
 have hy := HY.out
 clear HX HY
 by_cases h1 : al < bl
 ·by_cases h2 : bh < ah
  ·have ex : x = bl := by omega
   have ey : y = bh := by omega
   clear hx hy
   subst x
   subst y
   have h : bl ≤ bh := by omega
   ·skip
    rw [if_pos h, if_pos h, if_pos h]
    have hn : ¬ bh < bl := by omega
    go_enter Tryz.func134, Tryz.ntmps134
    go_wp2_with (first | (go_at_call 119; (with_reducible refine (C1.out _ _ _ (by first | (simp; done) | (rw [cell_new_at _ _ _ _ _ (by simp)]; first | rfl | (simp; done))) (by first | (simp; done) | (rw [cell_new_at _ _ _ _ _ (by simp)]; first | rfl | (simp; done))) (by first | (simp; done) | (rw [cell_new_at _ _ _ _ _ (by simp)]; first | rfl | (simp; done))) (by first | (simp; done) | (rw [cell_new_at _ _ _ _ _ (by simp)]; first | rfl | (simp; done)))).mono ?_); rintro e w1 ⟨rfl, hb1⟩; have hB1 := hI9 (bthen (show Below w.heap.size w _ from (by repeat' (first | exact Below.refl _ _ | assumption | refine Below.drew ?_ | refine bdn ?_ _ | refine bal ?_ _ | refine Below.setCell ?_ (by first | (simp; done) | omega | (simp; omega)) _))) hb1); have rA := hI9 (Blk.below ((((Blk.newA (g := w.heap.size) _ 23 #[.int .i64 al, .int .i64 ah] (by simp)).alloc _).alloc _).alloc _) hb1); have rB := hI9 (Blk.below (((Blk.newA (g := w.heap.size + 1) _ 23 #[.int .i64 bl, .int .i64 bh] (by simp)).alloc _).alloc _) hb1); have rC := hI9 (Blk.below ((Blk.newA (g := w.heap.size + 1 + 1) _ 23 #[.int .i64 0, .int .i64 0] (by simp)).alloc _) hb1); have z1 := hB1.out.size; have a0 := rA.out.cell 0; have a1 := rA.out.cell 1; have b0 := rB.out.cell 0; have b1 := rB.out.cell 1; have g0 := rC.out.cell 0; have g1 := rC.out.cell 1; have g2 := fun i => rC.out.frozen i; clear hb1))
    go_big_region_o
    go_wp2
    exact bodyPost_ret (res_ct rfl _ _ _ 2 rfl ((rC.out.set_ 0 _).set_ 1 _) Tryz.rowSpan rfl) rfl ⟨rfl, bset (bset (Below.drew hB1.out) (by omega) _) (by omega) _⟩
  ·have h2' : ah ≤ bh := by omega
   have ex : x = bl := by omega
   have ey : y = ah := by omega
   clear hx hy
   subst x
   subst y
   by_cases h : bl ≤ ah
   ·skip
    rw [if_pos h, if_pos h, if_pos h]
    have hn : ¬ ah < bl := by omega
    go_enter Tryz.func134, Tryz.ntmps134
    go_wp2_with (first | (go_at_call 119; (with_reducible refine (C1.out _ _ _ (by first | (simp; done) | (rw [cell_new_at _ _ _ _ _ (by simp)]; first | rfl | (simp; done))) (by first | (simp; done) | (rw [cell_new_at _ _ _ _ _ (by simp)]; first | rfl | (simp; done))) (by first | (simp; done) | (rw [cell_new_at _ _ _ _ _ (by simp)]; first | rfl | (simp; done))) (by first | (simp; done) | (rw [cell_new_at _ _ _ _ _ (by simp)]; first | rfl | (simp; done)))).mono ?_); rintro e w1 ⟨rfl, hb1⟩; have hB1 := hI9 (bthen (show Below w.heap.size w _ from (by repeat' (first | exact Below.refl _ _ | assumption | refine Below.drew ?_ | refine bdn ?_ _ | refine bal ?_ _ | refine Below.setCell ?_ (by first | (simp; done) | omega | (simp; omega)) _))) hb1); have rA := hI9 (Blk.below ((((Blk.newA (g := w.heap.size) _ 23 #[.int .i64 al, .int .i64 ah] (by simp)).alloc _).alloc _).alloc _) hb1); have rB := hI9 (Blk.below (((Blk.newA (g := w.heap.size + 1) _ 23 #[.int .i64 bl, .int .i64 bh] (by simp)).alloc _).alloc _) hb1); have rC := hI9 (Blk.below ((Blk.newA (g := w.heap.size + 1 + 1) _ 23 #[.int .i64 0, .int .i64 0] (by simp)).alloc _) hb1); have z1 := hB1.out.size; have a0 := rA.out.cell 0; have a1 := rA.out.cell 1; have b0 := rB.out.cell 0; have b1 := rB.out.cell 1; have g0 := rC.out.cell 0; have g1 := rC.out.cell 1; have g2 := fun i => rC.out.frozen i; clear hb1))
    go_big_region_o
    go_wp2
    exact bodyPost_ret (res_ct rfl _ _ _ 2 rfl ((rC.out.set_ 0 _).set_ 1 _) Tryz.rowSpan rfl) rfl ⟨rfl, bset (bset (Below.drew hB1.out) (by omega) _) (by omega) _⟩
   ·skip
    rw [if_neg h, if_neg h, if_neg h]
    have hn : ah < bl := by omega
    go_enter Tryz.func134, Tryz.ntmps134
    go_wp2_with (first | (go_at_call 119; (with_reducible refine (C1.out _ _ _ (by first | (simp; done) | (rw [cell_new_at _ _ _ _ _ (by simp)]; first | rfl | (simp; done))) (by first | (simp; done) | (rw [cell_new_at _ _ _ _ _ (by simp)]; first | rfl | (simp; done))) (by first | (simp; done) | (rw [cell_new_at _ _ _ _ _ (by simp)]; first | rfl | (simp; done))) (by first | (simp; done) | (rw [cell_new_at _ _ _ _ _ (by simp)]; first | rfl | (simp; done)))).mono ?_); rintro e w1 ⟨rfl, hb1⟩; have hB1 := hI9 (bthen (show Below w.heap.size w _ from (by repeat' (first | exact Below.refl _ _ | assumption | refine Below.drew ?_ | refine bdn ?_ _ | refine bal ?_ _ | refine Below.setCell ?_ (by first | (simp; done) | omega | (simp; omega)) _))) hb1); have rA := hI9 (Blk.below ((((Blk.newA (g := w.heap.size) _ 23 #[.int .i64 al, .int .i64 ah] (by simp)).alloc _).alloc _).alloc _) hb1); have rB := hI9 (Blk.below (((Blk.newA (g := w.heap.size + 1) _ 23 #[.int .i64 bl, .int .i64 bh] (by simp)).alloc _).alloc _) hb1); have rC := hI9 (Blk.below ((Blk.newA (g := w.heap.size + 1 + 1) _ 23 #[.int .i64 0, .int .i64 0] (by simp)).alloc _) hb1); have z1 := hB1.out.size; have a0 := rA.out.cell 0; have a1 := rA.out.cell 1; have b0 := rB.out.cell 0; have b1 := rB.out.cell 1; have g0 := rC.out.cell 0; have g1 := rC.out.cell 1; have g2 := fun i => rC.out.frozen i; clear hb1))
    go_big_region_o
    go_wp2
    exact bodyPost_ret (res_ct rfl _ _ _ 2 rfl ((rC.out.set_ 0 _).set_ 1 _) Tryz.rowSpan rfl) rfl ⟨rfl, bset (bset (Below.drew hB1.out) (by omega) _) (by omega) _⟩
 ·have h1' : bl ≤ al := by omega
  by_cases h2 : bh < ah
  ·have ex : x = al := by omega
   have ey : y = bh := by omega
   clear hx hy
   subst x
   subst y
   by_cases h : al ≤ bh
   ·skip
    rw [if_pos h, if_pos h, if_pos h]
    have hn : ¬ bh < al := by omega
    go_enter Tryz.func134, Tryz.ntmps134
    go_wp2_with (first | (go_at_call 119; (with_reducible refine (C1.out _ _ _ (by first | (simp; done) | (rw [cell_new_at _ _ _ _ _ (by simp)]; first | rfl | (simp; done))) (by first | (simp; done) | (rw [cell_new_at _ _ _ _ _ (by simp)]; first | rfl | (simp; done))) (by first | (simp; done) | (rw [cell_new_at _ _ _ _ _ (by simp)]; first | rfl | (simp; done))) (by first | (simp; done) | (rw [cell_new_at _ _ _ _ _ (by simp)]; first | rfl | (simp; done)))).mono ?_); rintro e w1 ⟨rfl, hb1⟩; have hB1 := hI9 (bthen (show Below w.heap.size w _ from (by repeat' (first | exact Below.refl _ _ | assumption | refine Below.drew ?_ | refine bdn ?_ _ | refine bal ?_ _ | refine Below.setCell ?_ (by first | (simp; done) | omega | (simp; omega)) _))) hb1); have rA := hI9 (Blk.below ((((Blk.newA (g := w.heap.size) _ 23 #[.int .i64 al, .int .i64 ah] (by simp)).alloc _).alloc _).alloc _) hb1); have rB := hI9 (Blk.below (((Blk.newA (g := w.heap.size + 1) _ 23 #[.int .i64 bl, .int .i64 bh] (by simp)).alloc _).alloc _) hb1); have rC := hI9 (Blk.below ((Blk.newA (g := w.heap.size + 1 + 1) _ 23 #[.int .i64 0, .int .i64 0] (by simp)).alloc _) hb1); have z1 := hB1.out.size; have a0 := rA.out.cell 0; have a1 := rA.out.cell 1; have b0 := rB.out.cell 0; have b1 := rB.out.cell 1; have g0 := rC.out.cell 0; have g1 := rC.out.cell 1; have g2 := fun i => rC.out.frozen i; clear hb1))
    go_big_region_o
    go_wp2
    exact bodyPost_ret (res_ct rfl _ _ _ 2 rfl ((rC.out.set_ 0 _).set_ 1 _) Tryz.rowSpan rfl) rfl ⟨rfl, bset (bset (Below.drew hB1.out) (by omega) _) (by omega) _⟩
   ·skip
    rw [if_neg h, if_neg h, if_neg h]
    have hn : bh < al := by omega
    go_enter Tryz.func134, Tryz.ntmps134
    go_wp2_with (first | (go_at_call 119; (with_reducible refine (C1.out _ _ _ (by first | (simp; done) | (rw [cell_new_at _ _ _ _ _ (by simp)]; first | rfl | (simp; done))) (by first | (simp; done) | (rw [cell_new_at _ _ _ _ _ (by simp)]; first | rfl | (simp; done))) (by first | (simp; done) | (rw [cell_new_at _ _ _ _ _ (by simp)]; first | rfl | (simp; done))) (by first | (simp; done) | (rw [cell_new_at _ _ _ _ _ (by simp)]; first | rfl | (simp; done)))).mono ?_); rintro e w1 ⟨rfl, hb1⟩; have hB1 := hI9 (bthen (show Below w.heap.size w _ from (by repeat' (first | exact Below.refl _ _ | assumption | refine Below.drew ?_ | refine bdn ?_ _ | refine bal ?_ _ | refine Below.setCell ?_ (by first | (simp; done) | omega | (simp; omega)) _))) hb1); have rA := hI9 (Blk.below ((((Blk.newA (g := w.heap.size) _ 23 #[.int .i64 al, .int .i64 ah] (by simp)).alloc _).alloc _).alloc _) hb1); have rB := hI9 (Blk.below (((Blk.newA (g := w.heap.size + 1) _ 23 #[.int .i64 bl, .int .i64 bh] (by simp)).alloc _).alloc _) hb1); have rC := hI9 (Blk.below ((Blk.newA (g := w.heap.size + 1 + 1) _ 23 #[.int .i64 0, .int .i64 0] (by simp)).alloc _) hb1); have z1 := hB1.out.size; have a0 := rA.out.cell 0; have a1 := rA.out.cell 1; have b0 := rB.out.cell 0; have b1 := rB.out.cell 1; have g0 := rC.out.cell 0; have g1 := rC.out.cell 1; have g2 := fun i => rC.out.frozen i; clear hb1))
    go_big_region_o
    go_wp2
    exact bodyPost_ret (res_ct rfl _ _ _ 2 rfl ((rC.out.set_ 0 _).set_ 1 _) Tryz.rowSpan rfl) rfl ⟨rfl, bset (bset (Below.drew hB1.out) (by omega) _) (by omega) _⟩
  ·have h2' : ah ≤ bh := by omega
   have ex : x = al := by omega
   have ey : y = ah := by omega
   clear hx hy
   subst x
   subst y
   have h : al ≤ ah := by omega
   ·skip
    rw [if_pos h, if_pos h, if_pos h]
    have hn : ¬ ah < al := by omega
    go_enter Tryz.func134, Tryz.ntmps134
    go_wp2_with (first | (go_at_call 119; (with_reducible refine (C1.out _ _ _ (by first | (simp; done) | (rw [cell_new_at _ _ _ _ _ (by simp)]; first | rfl | (simp; done))) (by first | (simp; done) | (rw [cell_new_at _ _ _ _ _ (by simp)]; first | rfl | (simp; done))) (by first | (simp; done) | (rw [cell_new_at _ _ _ _ _ (by simp)]; first | rfl | (simp; done))) (by first | (simp; done) | (rw [cell_new_at _ _ _ _ _ (by simp)]; first | rfl | (simp; done)))).mono ?_); rintro e w1 ⟨rfl, hb1⟩; have hB1 := hI9 (bthen (show Below w.heap.size w _ from (by repeat' (first | exact Below.refl _ _ | assumption | refine Below.drew ?_ | refine bdn ?_ _ | refine bal ?_ _ | refine Below.setCell ?_ (by first | (simp; done) | omega | (simp; omega)) _))) hb1); have rA := hI9 (Blk.below ((((Blk.newA (g := w.heap.size) _ 23 #[.int .i64 al, .int .i64 ah] (by simp)).alloc _).alloc _).alloc _) hb1); have rB := hI9 (Blk.below (((Blk.newA (g := w.heap.size + 1) _ 23 #[.int .i64 bl, .int .i64 bh] (by simp)).alloc _).alloc _) hb1); have rC := hI9 (Blk.below ((Blk.newA (g := w.heap.size + 1 + 1) _ 23 #[.int .i64 0, .int .i64 0] (by simp)).alloc _) hb1); have z1 := hB1.out.size; have a0 := rA.out.cell 0; have a1 := rA.out.cell 1; have b0 := rB.out.cell 0; have b1 := rB.out.cell 1; have g0 := rC.out.cell 0; have g1 := rC.out.cell 1; have g2 := fun i => rC.out.frozen i; clear hb1))
    go_big_region_o
    go_wp2
    exact bodyPost_ret (res_ct rfl _ _ _ 2 rfl ((rC.out.set_ 0 _).set_ 1 _) Tryz.rowSpan rfl) rfl ⟨rfl, bset (bset (Below.drew hB1.out) (by omega) _) (by omega) _⟩
theorem only1_c (n : Int) (w : World) : Calls Tryz.prog 90 #[.int .i64 n] w fun e w' => e = .returned (.agg #[.int .i64 n, .int .i64 n]) ∧ Below w.heap.size w w' := by
 go_enter Tryz.func90, Tryz.ntmps90
 go_wp2
 exact bodyPost_ret (res_c rfl _ _ _ 2 rfl (Blk.new _ _ _) Tryz.rowSpan rfl) rfl ⟨rfl, bal (Below.refl _ _) _⟩
def neL (n d m : Int) : Int := min (max (n - d) 0) m
def neH (n d m : Int) : Int := max (min (n + d) m) 0
theorem near_c (n d m : Int) (w : World) (h0 : -1000000000 ≤ n) (h1 : n ≤ 1000000000) (h2 : -1000000000 ≤ d) (h3 : d ≤ 1000000000) (h4 : -1000000000 ≤ m) (h5 : m ≤ 1000000000) :
  Calls Tryz.prog 110 #[.int .i64 n, .int .i64 d, .int .i64 m] w fun e w' => e = .returned (.agg #[.int .i64 (neL n d m), .int .i64 (neH n d m)]) ∧ Below w.heap.size w w' := by
 go_enter Tryz.func110, Tryz.ntmps110
 go_wp2
 all_goals exact bodyPost_ret (res_c rfl _ _ _ 2 rfl (Blk.new _ _ _) Tryz.rowSpan rfl) rfl ⟨ret2 (by unfold neL; omega) (by unfold neH; omega), bal (Below.refl _ _) _⟩
def insB (lo hi m : Int) : Bool := vspan lo hi && (inB lo 0 m && decide (hi ≤ m))
theorem inside_c (lo hi m : Int) (w : World) :
  Calls Tryz.prog 89 #[.agg #[.int .i64 lo, .int .i64 hi], .int .i64 m] w fun e w' => e = .returned (.bool (insB lo hi m)) ∧ Below w.heap.size w w' := by
 have e3 := spanE_t
 have e4 := spanE_f
 unfold insB
 have hk : ∀ b c w, w.cell? ⟨b, 0, none⟩ = some (.int .i64 lo) → w.cell? ⟨b, 1, none⟩ = some (.int .i64 hi) → Calls Tryz.prog 105 #[.slice (some ⟨b, 0, none⟩) 1 c] w fun e w' => e = .returned (.int .i64 (spanE (!vspan lo hi))) ∧ Below w.heap.size w w' := by
  intro b c w h0 h1
  have h := spCheck_c (some ⟨b, 0, none⟩) 1 c (fun _ => lo) (fun _ => hi) w (by omega)
   (fun _ => ⟨b, 0, rfl, blk_lt h0, fun k hk => by
    obtain rfl : k = 0 := by omega
    exact ⟨(by simpa using h0), (by simpa using h1)⟩⟩)
  rw [anyBad1] at h
  exact h
 have HK := hI9 hk
 clear hk
 cases h1 : vspan lo hi
 ·go_enter Tryz.func89, Tryz.ntmps89
  go_wp2_with (first | (go_at_call 105; (with_reducible refine (HK.out _ _ _ (by simp) (by simp)).mono ?_); rintro e w1 ⟨rfl, hb1⟩; have hB1 := bthen (show Below w.heap.size w _ from (by repeat' (first | exact Below.refl _ _ | assumption | refine Below.drew ?_ | refine bdn ?_ _ | refine bal ?_ _ | refine Below.setCell ?_ (by first | (simp; done) | omega | (simp; omega)) _))) hb1; have hz1 := hb1.size; (try simp at hz1); obtain ⟨hc1, hf1⟩ := bcell hb1; first | (have hE1 := bthen2 hE (by repeat' (first | exact Below.refl _ _ | refine Below.drew ?_ | refine bdn ?_ _ | refine bal ?_ _ | refine Below.setCell ?_ (by first | (simp; done) | omega | (simp; omega)) _)) hb1; clear hE; have hE := hE1; clear hE1; obtain ⟨hd1, hg1⟩ := bcell hE) | (have hE := hb1)) | (go_at_call 69; (with_reducible refine (wwithin_c _ _ _ _).mono ?_); rintro e w1 ⟨rfl, rfl⟩))
  go_ret
  exact ⟨rfl, (by repeat' (first | exact Below.refl _ _ | assumption | refine Below.drew ?_ | refine bdn ?_ _ | refine bal ?_ _ | refine Below.setCell ?_ (by first | (simp; done) | omega | (simp; omega)) _))⟩
 ·go_enter Tryz.func89, Tryz.ntmps89
  go_wp2_with (first | (go_at_call 105; (with_reducible refine (HK.out _ _ _ (by simp) (by simp)).mono ?_); rintro e w1 ⟨rfl, hb1⟩; have hB1 := bthen (show Below w.heap.size w _ from (by repeat' (first | exact Below.refl _ _ | assumption | refine Below.drew ?_ | refine bdn ?_ _ | refine bal ?_ _ | refine Below.setCell ?_ (by first | (simp; done) | omega | (simp; omega)) _))) hb1; have hz1 := hb1.size; (try simp at hz1); obtain ⟨hc1, hf1⟩ := bcell hb1; first | (have hE1 := bthen2 hE (by repeat' (first | exact Below.refl _ _ | refine Below.drew ?_ | refine bdn ?_ _ | refine bal ?_ _ | refine Below.setCell ?_ (by first | (simp; done) | omega | (simp; omega)) _)) hb1; clear hE; have hE := hE1; clear hE1; obtain ⟨hd1, hg1⟩ := bcell hE) | (have hE := hb1)) | (go_at_call 69; (with_reducible refine (wwithin_c _ _ _ _).mono ?_); rintro e w1 ⟨rfl, rfl⟩))
  all_goals go_ret
  all_goals exact ⟨ret_bool (by simp_all), (by repeat' (first | exact Below.refl _ _ | assumption | refine Below.drew ?_ | refine bdn ?_ _ | refine bal ?_ _ | refine Below.setCell ?_ (by first | (simp; done) | omega | (simp; omega)) _))⟩
end Go.Proofs.YtlabfpjlckdmfaaGreat

namespace Go.Proofs.YtlabfpjlckdmfaaGreat
open Go Go.RowKit Go.Proofs
section
variable {P : Program} {ops : Array Oper}
theorem any_of_specsH (G : Nat → World → World → Prop) (J : World → Prop) (I : Nat → World → Prop) (hGs : ∀ i a b, G i a b → a.heap.size ≤ b.heap.size) (hJ : ∀ i a b, G i a b → J a → J b) (hI : ∀ k j a b, k ≠ j → k ∉ depsOf ops j → G j a b → I k a → I k b) {Q : Exit → Act → World → Prop} {R : Nat → Value → World → Prop} {fresh : Nat → Bool} {n : Nat} {a : Act} {w : World} {tail : List Oper}
  (hB : specB ops n = true) (hR : ∀ k j v a b, k ≠ j → G j a b → R k v a → R k v b)
  (hop : ∀ i oi, i < n → ops[i]? = some oi → ∀ (u : Nat → Value) (w1 : World), J w1 → I i w1 → (∀ k ∈ depsOf ops i, k < n → R k (u k) w1) → wpList P ops (EndOpG G Q R fresh ops i (putAll ops a u n) w1) [oi] (putAll ops a u n) w1)
  (htl : ∀ j, tail[j]? = ops[n + j]?) (htn : tail.length = ops.size - n)
  (htail : ∀ (u : Nat → Value) (w1 : World), J w1 → (∀ k, k < n → R k (u k) w1) → (∀ i j, i < n → j < n → i ≠ j → fresh i = true → fresh j = true → u i ≠ u j) → wpList P ops Q tail (putAll ops a u n) w1) :
  ∀ (m : Nat) (listed : Array Bool) (u : Nat → Value) (w1 : World), HeadInv .any ops n listed → ((List.range n).filter fun i => !listed.getD i false).length = m →
   SpecInvG I ops R fresh n listed u w1 → J w1 → wpAny P .any ops Q (m + (ops.size - n)) listed (putAll ops a u n) w1 := by
 simp only [specB, Bool.and_eq_true, decide_eq_true_eq] at hB
 obtain ⟨⟨⟨⟨⟨hn, hdist⟩, hforw⟩, hs⟩, hc⟩, hseq⟩ := hB
 intro m
 induction m with
 | zero =>
  intro listed u w1 inv hm sinv hb
  have all : ∀ i, i < n → listed.getD i false = true := by
   intro i hi
   have h0 := List.eq_nil_of_length_eq_zero hm
   rw [List.filter_eq_nil_iff] at h0
   have := h0 i (List.mem_range.2 hi)
   simpa using this
  have e := headDone_eq inv.size (by omega) all inv.tail
  subst e
  have := wpAny_of_seq (md := .any) (Q' := Q) tail n (headDone ops.size n) (putAll ops a u n) w1 htl (by rw [htn]; exact hseq)
   (htail u w1 hb (fun k hk => sinv.r k hk (all k hk)) (fun i j hi hj hij => sinv.d i j hi hj hij (all i hi) (all j hj)))
  rw [htn] at this
  rw [Nat.zero_add]
  exact this
 | succ m ih =>
  intro listed u w1 inv hm sinv hb
  obtain ⟨i0, hi0⟩ : ∃ i0, i0 ∈ (List.range n).filter fun i => !listed.getD i false := by
   cases hl : (List.range n).filter fun i => !listed.getD i false with
   | nil => rw [hl] at hm; simp at hm
   | cons x xs => exact ⟨x, by simp⟩
  obtain ⟨hi0n, hi0l⟩ := List.mem_filter.1 hi0
  have hi0n := List.mem_range.1 hi0n
  have hun : listed.getD i0 true = false := getD_in (by rw [inv.size]; omega) (by simpa using hi0l)
  have key : ∀ i ∈ Region.ready .any ops listed, i < n := fun i hi => Nat.lt_of_not_le fun h => tail_waits hs hc hn inv _ i0 rfl hi0n hun i h hi
  rw [show m + 1 + (ops.size - n) = (m + (ops.size - n)) + 1 by omega]
  refine ⟨fun h0 => ?_, fun i hi => ?_⟩
  ·exfalso
   have low : ∀ i, i < n → listed.getD i false = false → False := by
    intro i
    induction i using Nat.strongRecOn with
    | _ i ih =>
     intro hin hl
     have hoi : ops[i]? = some ops[i] := Array.getElem?_eq_getElem (by omega)
     by_cases hall : ∀ e ∈ (ops[i]'(by omega)).after, Region.binds .any e = true → listed.getD e.on false = true
     ·have : i ∈ Region.ready .any ops listed := mem_ready.2 ⟨getD_in (by rw [inv.size]; omega) hl, ops[i], hoi, hall⟩
      rw [h0] at this; cases this
     ·have hex : ∃ e ∈ (ops[i]'(by omega)).after, Region.binds .any e = true ∧ listed.getD e.on false = false := by
       refine Classical.byContradiction fun hne => hall fun e he hbe => ?_
       cases hx : listed.getD e.on false with
       | true => rfl
       | false => exact absurd ⟨e, he, hbe, hx⟩ hne
      obtain ⟨e, he, hbe, hx⟩ := hex
      have hlt := forwB_lt hforw hin hoi (List.mem_map.2 ⟨e, List.mem_filter.2 ⟨by simpa using he, hbe⟩, rfl⟩)
      exact ih e.on hlt (by omega) hx
   exact low i0 hi0n (by simpa using hi0l)
  ·have hin := key i hi
   obtain ⟨hil, oi, hoi, hall⟩ := mem_ready.1 hi
   refine wpOp_of_endG hoi (hop i oi hin hoi u w1 hb (sinv.o i hin (getD_both hil)) fun k hk hkn => ?_) fun v w' hb' hv hf => ?_
   ·have : ∃ e ∈ oi.after.toList, Region.binds .any e = true ∧ e.on = k := by
     unfold depsOf at hk; rw [hoi] at hk
     simp only [List.mem_map, List.mem_filter] at hk
     obtain ⟨e, ⟨he, hbe⟩, rfl⟩ := hk
     exact ⟨e, he, hbe, rfl⟩
    obtain ⟨e, he, hbe, rfl⟩ := this
    exact sinv.r _ hkn (hall e (by simpa using he) hbe)
   ·rw [← putAll_upd n hin hdist]
    have hl' : ∀ k, k ≠ i → (listed.setIfInBounds i true).getD k false = listed.getD k false := fun k hk => getD_set_ne false (Ne.symm hk)
    refine ih (listed.setIfInBounds i true) (upd u i v) w' (inv.set hi hin) ?_ ⟨?_, ?_, ?_, ?_⟩ (hJ i _ _ hb' hb)
    ·have := cnt_set (n := n) (p := fun k => !listed.getD k false) (q := fun k => !(listed.setIfInBounds i true).getD k false) hin (by simpa using getD_both hil) (by rw [getD_set_self (by rw [inv.size]; omega)]; rfl) (fun k hk => by rw [hl' k hk])
     omega
    ·intro k hk hkl
     by_cases e : k = i
     ·subst e; rw [getD_set_self (by rw [inv.size]; omega)] at hkl; cases hkl
     ·rw [hl' k e] at hkl; exact hI k i _ _ e (fun hc => by
       have : ∃ e ∈ oi.after.toList, Region.binds .any e = true ∧ e.on = k := by
        unfold depsOf at hc; rw [hoi] at hc
        simp only [List.mem_map, List.mem_filter] at hc
        obtain ⟨e2, ⟨he, hbe⟩, hk2⟩ := hc
        exact ⟨e2, he, hbe, hk2⟩
       obtain ⟨e3, he', hbe', hk3⟩ := this
       have h3 := hall e3 (by simpa using he') hbe'
       rw [hk3] at h3
       rw [hkl] at h3; cases h3) hb' (sinv.o k hk hkl)
    ·intro k hk hkl
     by_cases e : k = i
     ·subst e; rw [upd_same]; exact hv
     ·rw [upd_ne e]; rw [hl' k e] at hkl; exact hR _ i _ _ _ e hb' (sinv.r k hk hkl)
    ·intro k hk hkl hfk
     by_cases e : k = i
     ·subst e; rw [upd_same]; obtain ⟨g, g1, g2, g3⟩ := hf hfk; exact ⟨g, g1, g3⟩
     ·rw [upd_ne e]; rw [hl' k e] at hkl; obtain ⟨g, g1, g2⟩ := sinv.f k hk hkl hfk; exact ⟨g, g1, Nat.lt_of_lt_of_le g2 (hGs i _ _ hb')⟩
    ·intro j k hj hk hjk hjl hkl hfj hfk
     by_cases e : j = i
     ·subst e
      have e2 : k ≠ j := fun h => hjk h.symm
      rw [upd_same, upd_ne e2]; rw [hl' k e2] at hkl
      obtain ⟨g, g1, g2, g3⟩ := hf hfj
      obtain ⟨g', g1', g2'⟩ := sinv.f k hk hkl hfk
      rw [g1, g1']; intro h; injection h with h; injection h with h; injection h with h; omega
     ·by_cases e2 : k = i
      ·subst e2
       rw [upd_same, upd_ne e]; rw [hl' j e] at hjl
       obtain ⟨g, g1, g2, g3⟩ := hf hfk
       obtain ⟨g', g1', g2'⟩ := sinv.f j hj hjl hfj
       rw [g1, g1']; intro h; injection h with h; injection h with h; injection h with h; omega
      ·rw [upd_ne e, upd_ne e2]; rw [hl' j e] at hjl; rw [hl' k e2] at hkl
       exact sinv.d j k hj hk hjk hjl hkl hfj hfk
theorem wp_region_specsH {id : Nat} {Q : Exit → Act → World → Prop} {a : Act} {w : World} {l : List Oper} (G : Nat → World → World → Prop) (J : World → Prop) (I : Nat → World → Prop) (hGs : ∀ i a b, G i a b → a.heap.size ≤ b.heap.size) (hJ : ∀ i a b, G i a b → J a → J b) (hI : ∀ k j a b, k ≠ j → k ∉ depsOf l.toArray j → G j a b → I k a → I k b) (hJ0 : J w.drew) (hI0 : ∀ i, I i w.drew) (n : Nat) (R : Nat → Value → World → Prop) (fresh : Nat → Bool)
  (hm : P.follows .mixedOrders = true) (hB : specB l.toArray n = true) (hR : ∀ k j v a b, k ≠ j → G j a b → R k v a → R k v b)
  (hop : ∀ i oi, i < n → l.toArray[i]? = some oi → ∀ (u : Nat → Value) (w1 : World), J w1 → I i w1 → (∀ k ∈ depsOf l.toArray i, k < n → R k (u k) w1) → wpList P l.toArray (EndOpG G Q R fresh l.toArray i (putAll l.toArray a u n) w1) [oi] (putAll l.toArray a u n) w1)
  (htail : ∀ (u : Nat → Value) (w1 : World), J w1 → (∀ k, k < n → R k (u k) w1) → (∀ i j, i < n → j < n → i ≠ j → fresh i = true → fresh j = true → u i ≠ u j) → wpList P l.toArray Q (l.drop n) (putAll l.toArray a u n) w1) :
  (Code.region id l.toArray true).wp P Q a w := by
 have hn : n < l.toArray.size := by simp only [specB, Bool.and_eq_true, decide_eq_true_eq] at hB; exact hB.1.1.1.1.1
 have hn' : n < l.length := by simpa using hn
 refine wp_region_any hm ?_
 have inv0 : HeadInv .any l.toArray n (Array.replicate l.toArray.size false) :=
  ⟨by simp, fun j oj _ hl => (by rw [getD_replicate_false] at hl; cases hl), fun t _ ht => getD_in (by simpa using ht) (getD_replicate_false _ _)⟩
 have hcnt : ((List.range n).filter fun i => !(Array.replicate l.toArray.size false).getD i false).length = n := by
  rw [List.filter_eq_self.2 (fun i _ => by rw [getD_replicate_false]; rfl), List.length_range]
 have := any_of_specsH G J I hGs hJ hI (P := P) (Q := Q) (R := R) (fresh := fresh) (n := n) (a := a) (w := w) (tail := l.drop n) hB hR hop (fun j => by simp [List.getElem?_drop]) (by simp) htail n
  (Array.replicate l.toArray.size false) (slotOf l.toArray a) w.drew inv0 hcnt ⟨fun k _ _ => hI0 k, fun k _ hl => (by rw [getD_replicate_false] at hl; cases hl), fun k _ hl => (by rw [getD_replicate_false] at hl; cases hl), fun j k _ _ _ hl => (by rw [getD_replicate_false] at hl; cases hl)⟩ hJ0
 rw [putAll_slot, show n + (l.toArray.size - n) = l.toArray.size by omega] at this
 exact this
theorem wp_region_specH {id : Nat} {Q : Exit → Act → World → Prop} {a : Act} {w : World} {l : List Oper} (G : Nat → World → World → Prop) (J : World → Prop) (I : Nat → World → Prop) (hGs : ∀ i a b, G i a b → a.heap.size ≤ b.heap.size) (hJ : ∀ i a b, G i a b → J a → J b) (hI : ∀ k j a b, k ≠ j → k ∉ depsOf l.toArray j → G j a b → I k a → I k b) (hJ0 : J w.drew) (hI0 : ∀ i, I i w.drew) (n : Nat) (R : Nat → Value → World → Prop) (fresh : Nat → Bool)
  (hm : P.follows .mixedOrders = true) (hB : specB l.toArray n = true) (hR : ∀ k j v a b, k ≠ j → G j a b → R k v a → R k v b)
  (hop : allOps (fun i oi => ∀ (u : Nat → Value) (A : Act) (w1 : World), A = putAll l.toArray a u n → J w1 → I i w1 → (∀ k, k < n → (depsOf l.toArray i).contains k = true → R k (u k) w1) → wpList P l.toArray (EndOpG G Q R fresh l.toArray i A w1) [oi] A w1) 0 (l.take n))
  (htail : ∀ (u : Nat → Value) (A : Act) (w1 : World), A = putAll l.toArray a u n → J w1 → (∀ k, k < n → R k (u k) w1) → (∀ i j, i < n → j < n → i ≠ j → fresh i = true → fresh j = true → u i ≠ u j) → wpList P l.toArray Q (l.drop n) A w1) :
  (Code.region id l.toArray true).wp P Q a w :=
 wp_region_specsH G J I hGs hJ hI hJ0 hI0 n R fresh hm hB hR (fun i oi hi ho u w1 hb hi0 hd => by
  have := allOps_get _ _ hop i oi (by simpa [List.getElem?_take, hi] using ho) u (putAll l.toArray a u n) w1 rfl hb (by rw [Nat.zero_add]; exact hi0) (fun k hk hc => hd k (by simpa using hc) hk)
  rw [Nat.zero_add] at this
  exact this) (fun u w1 => htail u _ w1 rfl)
end
end Go.Proofs.YtlabfpjlckdmfaaGreat

namespace Go.Proofs.YtlabfpjlckdmfaaGreat
open Go Go.RowKit Go.Proofs
set_option maxRecDepth 100000
set_option maxHeartbeats 4000000
theorem isSl_one {v : Value} (h : IsSl v) : v.oneCell' = true := by obtain ⟨a, n, c, rfl⟩ := h; rfl
theorem RotAt.one {w : World} {hx hy hv gx gy gv lx ly lv px py pv nx ny nv ax ay av cx cy cv dx dy dv : Value} {cl bu : Int} {S : Tabs} (h : RotAt w hx hy hv gx gy gv lx ly lv px py pv nx ny nv ax ay av cx cy cv dx dy dv cl bu S) (wl wh tl th el eh nl nh : Int) : (#[hx, hy, hv, gx, gy, gv, lx, ly, lv, px, py, pv, nx, ny, nv, ax, ay, av, cx, cy, cv, dx, dy, dv, .int .i64 cl, .int .i64 bu, .int .i64 wl, .int .i64 wh, .int .i64 tl, .int .i64 th, .int .i64 el, .int .i64 eh, .int .i64 nl, .int .i64 nh] : Array Value).all (·.oneCell') = true := by
 rw [Array.all_eq_true_iff_forall_mem]
 intro x hx'
 simp only [List.mem_toArray, List.mem_cons, List.not_mem_nil, or_false] at hx'
 rcases hx' with rfl | rfl | rfl | rfl | rfl | rfl | rfl | rfl | rfl | rfl | rfl | rfl | rfl | rfl | rfl | rfl | rfl | rfl | rfl | rfl | rfl | rfl | rfl | rfl | rfl | rfl | rfl | rfl | rfl | rfl | rfl | rfl | rfl | rfl
 any_goals rfl
 ·exact isSl_one h.h.s1
 ·exact isSl_one h.h.s2
 ·exact isSl_one h.h.s3
 ·exact isSl_one h.g.s1
 ·exact isSl_one h.g.s2
 ·exact isSl_one h.g.s3
 ·exact isSl_one h.l.s1
 ·exact isSl_one h.l.s2
 ·exact isSl_one h.l.s3
 ·exact isSl_one h.p.s1
 ·exact isSl_one h.p.s2
 ·exact isSl_one h.p.s3
 ·exact isSl_one h.n.s1
 ·exact isSl_one h.n.s2
 ·exact isSl_one h.n.s3
 ·exact isSl_one h.a.s1
 ·exact isSl_one h.a.s2
 ·exact isSl_one h.a.s3
 ·exact isSl_one h.c.s1
 ·exact isSl_one h.c.s2
 ·exact isSl_one h.c.s3
 ·exact isSl_one h.d.s1
 ·exact isSl_one h.d.s2
 ·exact isSl_one h.d.s3
end Go.Proofs.YtlabfpjlckdmfaaGreat
