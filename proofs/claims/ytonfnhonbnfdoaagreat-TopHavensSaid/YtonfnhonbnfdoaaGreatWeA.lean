/- Contracts of the small functions of package weather: spans.Meet, near, one, inside, sky, only, cut. -/
import Derived.Test.YtonfnhonbnfdoaaGreatJAA
import Derived.Shelf.RegionOpenPlain
set_option linter.all false
namespace Go.Proofs.YtonfnhonbnfdoaaGreat
open Go Go.RowKit Go.Proofs
set_option maxRecDepth 100000
set_option maxHeartbeats 4000000

theorem Tryz.rowSpan : RowTy Tryz.prog 23 2 := ⟨by kernel_rfl, by kernel_rfl⟩
theorem Tryz.rowSky : RowTy Tryz.prog 25 8 := ⟨by kernel_rfl, by kernel_rfl⟩
theorem Tryz.rowSet : RowTy Tryz.prog 108 8 := ⟨by kernel_rfl, by kernel_rfl⟩
theorem Tryz.rowMet : RowTy Tryz.prog 29 14 := ⟨by kernel_rfl, by kernel_rfl⟩
theorem Tryz.rowFc : RowTy Tryz.prog 68 12 := ⟨by kernel_rfl, by kernel_rfl⟩
theorem Tryz.rowWe : RowTy Tryz.prog 57 5 := ⟨by kernel_rfl, by kernel_rfl⟩
theorem Tryz.rowMin : RowTy Tryz.prog 31 5 := ⟨by kernel_rfl, by kernel_rfl⟩

theorem wwithin_c (n lo hi : Int) (w : World) :
   Calls Tryz.prog 82 #[.int .i64 n, .int .i64 lo, .int .i64 hi] w fun e w' => e = .returned (.bool (inB n lo hi)) ∧ w = w' := by
  by_cases h : lo ≤ n
  · go_enter Tryz.func82, Tryz.ntmps82
    go_wp2
    go_ret
    exact ⟨ret_bool (by simp [inB, h]), rfl⟩
  · have h2 : n < lo := by omega
    go_enter Tryz.func82, Tryz.ntmps82
    go_wp2
    go_ret
    exact ⟨ret_bool (by simp [inB]; omega), rfl⟩

theorem Blk.newA {g : Nat} (W : World) (t : TypeId) (cs : Array Value) (hg : g = W.heap.size) : Blk (W.alloc (.cells cs t)) g t cs := by rw [hg]; exact Blk.new W t cs
theorem vspan_iff' {l h : Int} : vspan l h = true ↔ -1000000 ≤ l ∧ l ≤ h ∧ h ≤ 1000000 := by
  unfold vspan inB; simp only [Bool.and_eq_true, decide_eq_true_eq]; omega
theorem ret2 {a b c d : Int} (h1 : a = c) (h2 : b = d) : Ending.returned (.agg #[.int .i64 a, .int .i64 b]) = .returned (.agg #[.int .i64 c, .int .i64 d]) := by rw [h1, h2]
/-! ### Meet -/
def meE (al ah bl bh : Int) : Int := if max al bl ≤ min ah bh then 0 else 3
def meL (al ah bl bh : Int) : Int := if max al bl ≤ min ah bh then max al bl else 0
def meH (al ah bl bh : Int) : Int := if max al bl ≤ min ah bh then min ah bh else 0
theorem Meet_c (al ah bl bh : Int) (w : World) (ha : vspan al ah = true) (hb : vspan bl bh = true) :
   Calls Tryz.prog 156 #[.agg #[.int .i64 al, .int .i64 ah], .agg #[.int .i64 bl, .int .i64 bh]] w fun e w' => e = .returned (.tuple #[.agg #[.int .i64 (meL al ah bl bh), .int .i64 (meH al ah bl bh)], .int .i64 (meE al ah bl bh)]) ∧ Below w.heap.size w w' := by
  have e4 := spanE_f
  have mixed : Tryz.prog.follows Departure.mixedOrders = true := by kernel_rfl
  obtain ⟨v0, v1, v2⟩ := vspan_iff'.1 ha
  obtain ⟨v3, v4, v5⟩ := vspan_iff'.1 hb
  have C1 := Lib.hid (fun b c w h0 h1 h2 h3 => (show Calls Tryz.prog 113 #[.slice (some ⟨b, 0, none⟩) 2 c] w fun e w' => e = .returned (.int .i64 0) ∧ Below w.heap.size w w' by
    have := spanned2_c b c al ah bl bh w h0 h1 h2 h3
    rwa [ha, hb, show spanE (!true || !true) = 0 from rfl] at this))
  clear ha hb
  obtain ⟨x, hx⟩ : ∃ q, q = max al bl := ⟨_, rfl⟩
  obtain ⟨y, hy⟩ : ∃ q, q = min ah bh := ⟨_, rfl⟩
  have HX := Lib.hid hx
  have HY := Lib.hid hy
  unfold meL meH meE
  rw [← hx, ← hy]
  clear hx hy
  have hx := HX.out
  have hy := HY.out
  clear HX HY
  by_cases h1 : al < bl
  · by_cases h2 : bh < ah
    · have ex : x = bl := by omega
      have ey : y = bh := by omega
      clear hx hy
      subst x
      subst y
      have h : bl ≤ bh := by omega
      · skip
        rw [if_pos h, if_pos h, if_pos h]
        have hn : ¬ bh < bl := by omega
        go_enter Tryz.func156, Tryz.ntmps156
        go_wp2_with (first | (go_at_call 113; (with_reducible refine (C1.out _ _ _ (by first | (simp; done) | (rw [cell_new_at _ _ _ _ _ (by simp)]; first | rfl | (simp; done))) (by first | (simp; done) | (rw [cell_new_at _ _ _ _ _ (by simp)]; first | rfl | (simp; done))) (by first | (simp; done) | (rw [cell_new_at _ _ _ _ _ (by simp)]; first | rfl | (simp; done))) (by first | (simp; done) | (rw [cell_new_at _ _ _ _ _ (by simp)]; first | rfl | (simp; done)))).mono ?_); rintro e w1 ⟨rfl, hb1⟩; have hB1 := Lib.hid (bthen (show Below w.heap.size w _ from (by repeat' (first | exact Below.refl _ _ | assumption | refine Below.drew ?_ | refine bdn ?_ _ | refine bal ?_ _ | refine Below.setCell ?_ (by first | (simp; done) | omega | (simp; omega)) _))) hb1); have rA := Lib.hid (Blk.below ((((Blk.newA (g := w.heap.size) _ 23 #[.int .i64 al, .int .i64 ah] (by simp)).alloc _).alloc _).alloc _) hb1); have rB := Lib.hid (Blk.below (((Blk.newA (g := w.heap.size + 1) _ 23 #[.int .i64 bl, .int .i64 bh] (by simp)).alloc _).alloc _) hb1); have rC := Lib.hid (Blk.below ((Blk.newA (g := w.heap.size + 1 + 1) _ 23 #[.int .i64 0, .int .i64 0] (by simp)).alloc _) hb1); have z1 := hB1.out.size; have a0 := rA.out.cell 0; have a1 := rA.out.cell 1; have b0 := rB.out.cell 0; have b1 := rB.out.cell 1; have g0 := rC.out.cell 0; have g1 := rC.out.cell 1; have g2 := fun i => rC.out.frozen i; clear hb1))
        go_big_region_o
        go_wp2
        exact bodyPost_ret (res_ct rfl _ _ _ 2 rfl ((rC.out.set_ 0 _).set_ 1 _) Tryz.rowSpan rfl) rfl ⟨rfl, bset (bset (Below.drew hB1.out) (by omega) _) (by omega) _⟩
    · have h2' : ah ≤ bh := by omega
      have ex : x = bl := by omega
      have ey : y = ah := by omega
      clear hx hy
      subst x
      subst y
      by_cases h : bl ≤ ah
      · skip
        rw [if_pos h, if_pos h, if_pos h]
        have hn : ¬ ah < bl := by omega
        go_enter Tryz.func156, Tryz.ntmps156
        go_wp2_with (first | (go_at_call 113; (with_reducible refine (C1.out _ _ _ (by first | (simp; done) | (rw [cell_new_at _ _ _ _ _ (by simp)]; first | rfl | (simp; done))) (by first | (simp; done) | (rw [cell_new_at _ _ _ _ _ (by simp)]; first | rfl | (simp; done))) (by first | (simp; done) | (rw [cell_new_at _ _ _ _ _ (by simp)]; first | rfl | (simp; done))) (by first | (simp; done) | (rw [cell_new_at _ _ _ _ _ (by simp)]; first | rfl | (simp; done)))).mono ?_); rintro e w1 ⟨rfl, hb1⟩; have hB1 := Lib.hid (bthen (show Below w.heap.size w _ from (by repeat' (first | exact Below.refl _ _ | assumption | refine Below.drew ?_ | refine bdn ?_ _ | refine bal ?_ _ | refine Below.setCell ?_ (by first | (simp; done) | omega | (simp; omega)) _))) hb1); have rA := Lib.hid (Blk.below ((((Blk.newA (g := w.heap.size) _ 23 #[.int .i64 al, .int .i64 ah] (by simp)).alloc _).alloc _).alloc _) hb1); have rB := Lib.hid (Blk.below (((Blk.newA (g := w.heap.size + 1) _ 23 #[.int .i64 bl, .int .i64 bh] (by simp)).alloc _).alloc _) hb1); have rC := Lib.hid (Blk.below ((Blk.newA (g := w.heap.size + 1 + 1) _ 23 #[.int .i64 0, .int .i64 0] (by simp)).alloc _) hb1); have z1 := hB1.out.size; have a0 := rA.out.cell 0; have a1 := rA.out.cell 1; have b0 := rB.out.cell 0; have b1 := rB.out.cell 1; have g0 := rC.out.cell 0; have g1 := rC.out.cell 1; have g2 := fun i => rC.out.frozen i; clear hb1))
        go_big_region_o
        go_wp2
        exact bodyPost_ret (res_ct rfl _ _ _ 2 rfl ((rC.out.set_ 0 _).set_ 1 _) Tryz.rowSpan rfl) rfl ⟨rfl, bset (bset (Below.drew hB1.out) (by omega) _) (by omega) _⟩
      · skip
        rw [if_neg h, if_neg h, if_neg h]
        have hn : ah < bl := by omega
        go_enter Tryz.func156, Tryz.ntmps156
        go_wp2_with (first | (go_at_call 113; (with_reducible refine (C1.out _ _ _ (by first | (simp; done) | (rw [cell_new_at _ _ _ _ _ (by simp)]; first | rfl | (simp; done))) (by first | (simp; done) | (rw [cell_new_at _ _ _ _ _ (by simp)]; first | rfl | (simp; done))) (by first | (simp; done) | (rw [cell_new_at _ _ _ _ _ (by simp)]; first | rfl | (simp; done))) (by first | (simp; done) | (rw [cell_new_at _ _ _ _ _ (by simp)]; first | rfl | (simp; done)))).mono ?_); rintro e w1 ⟨rfl, hb1⟩; have hB1 := Lib.hid (bthen (show Below w.heap.size w _ from (by repeat' (first | exact Below.refl _ _ | assumption | refine Below.drew ?_ | refine bdn ?_ _ | refine bal ?_ _ | refine Below.setCell ?_ (by first | (simp; done) | omega | (simp; omega)) _))) hb1); have rA := Lib.hid (Blk.below ((((Blk.newA (g := w.heap.size) _ 23 #[.int .i64 al, .int .i64 ah] (by simp)).alloc _).alloc _).alloc _) hb1); have rB := Lib.hid (Blk.below (((Blk.newA (g := w.heap.size + 1) _ 23 #[.int .i64 bl, .int .i64 bh] (by simp)).alloc _).alloc _) hb1); have rC := Lib.hid (Blk.below ((Blk.newA (g := w.heap.size + 1 + 1) _ 23 #[.int .i64 0, .int .i64 0] (by simp)).alloc _) hb1); have z1 := hB1.out.size; have a0 := rA.out.cell 0; have a1 := rA.out.cell 1; have b0 := rB.out.cell 0; have b1 := rB.out.cell 1; have g0 := rC.out.cell 0; have g1 := rC.out.cell 1; have g2 := fun i => rC.out.frozen i; clear hb1))
        go_big_region_o
        go_wp2
        exact bodyPost_ret (res_ct rfl _ _ _ 2 rfl ((rC.out.set_ 0 _).set_ 1 _) Tryz.rowSpan rfl) rfl ⟨rfl, bset (bset (Below.drew hB1.out) (by omega) _) (by omega) _⟩
  · have h1' : bl ≤ al := by omega
    by_cases h2 : bh < ah
    · have ex : x = al := by omega
      have ey : y = bh := by omega
      clear hx hy
      subst x
      subst y
      by_cases h : al ≤ bh
      · skip
        rw [if_pos h, if_pos h, if_pos h]
        have hn : ¬ bh < al := by omega
        go_enter Tryz.func156, Tryz.ntmps156
        go_wp2_with (first | (go_at_call 113; (with_reducible refine (C1.out _ _ _ (by first | (simp; done) | (rw [cell_new_at _ _ _ _ _ (by simp)]; first | rfl | (simp; done))) (by first | (simp; done) | (rw [cell_new_at _ _ _ _ _ (by simp)]; first | rfl | (simp; done))) (by first | (simp; done) | (rw [cell_new_at _ _ _ _ _ (by simp)]; first | rfl | (simp; done))) (by first | (simp; done) | (rw [cell_new_at _ _ _ _ _ (by simp)]; first | rfl | (simp; done)))).mono ?_); rintro e w1 ⟨rfl, hb1⟩; have hB1 := Lib.hid (bthen (show Below w.heap.size w _ from (by repeat' (first | exact Below.refl _ _ | assumption | refine Below.drew ?_ | refine bdn ?_ _ | refine bal ?_ _ | refine Below.setCell ?_ (by first | (simp; done) | omega | (simp; omega)) _))) hb1); have rA := Lib.hid (Blk.below ((((Blk.newA (g := w.heap.size) _ 23 #[.int .i64 al, .int .i64 ah] (by simp)).alloc _).alloc _).alloc _) hb1); have rB := Lib.hid (Blk.below (((Blk.newA (g := w.heap.size + 1) _ 23 #[.int .i64 bl, .int .i64 bh] (by simp)).alloc _).alloc _) hb1); have rC := Lib.hid (Blk.below ((Blk.newA (g := w.heap.size + 1 + 1) _ 23 #[.int .i64 0, .int .i64 0] (by simp)).alloc _) hb1); have z1 := hB1.out.size; have a0 := rA.out.cell 0; have a1 := rA.out.cell 1; have b0 := rB.out.cell 0; have b1 := rB.out.cell 1; have g0 := rC.out.cell 0; have g1 := rC.out.cell 1; have g2 := fun i => rC.out.frozen i; clear hb1))
        go_big_region_o
        go_wp2
        exact bodyPost_ret (res_ct rfl _ _ _ 2 rfl ((rC.out.set_ 0 _).set_ 1 _) Tryz.rowSpan rfl) rfl ⟨rfl, bset (bset (Below.drew hB1.out) (by omega) _) (by omega) _⟩
      · skip
        rw [if_neg h, if_neg h, if_neg h]
        have hn : bh < al := by omega
        go_enter Tryz.func156, Tryz.ntmps156
        go_wp2_with (first | (go_at_call 113; (with_reducible refine (C1.out _ _ _ (by first | (simp; done) | (rw [cell_new_at _ _ _ _ _ (by simp)]; first | rfl | (simp; done))) (by first | (simp; done) | (rw [cell_new_at _ _ _ _ _ (by simp)]; first | rfl | (simp; done))) (by first | (simp; done) | (rw [cell_new_at _ _ _ _ _ (by simp)]; first | rfl | (simp; done))) (by first | (simp; done) | (rw [cell_new_at _ _ _ _ _ (by simp)]; first | rfl | (simp; done)))).mono ?_); rintro e w1 ⟨rfl, hb1⟩; have hB1 := Lib.hid (bthen (show Below w.heap.size w _ from (by repeat' (first | exact Below.refl _ _ | assumption | refine Below.drew ?_ | refine bdn ?_ _ | refine bal ?_ _ | refine Below.setCell ?_ (by first | (simp; done) | omega | (simp; omega)) _))) hb1); have rA := Lib.hid (Blk.below ((((Blk.newA (g := w.heap.size) _ 23 #[.int .i64 al, .int .i64 ah] (by simp)).alloc _).alloc _).alloc _) hb1); have rB := Lib.hid (Blk.below (((Blk.newA (g := w.heap.size + 1) _ 23 #[.int .i64 bl, .int .i64 bh] (by simp)).alloc _).alloc _) hb1); have rC := Lib.hid (Blk.below ((Blk.newA (g := w.heap.size + 1 + 1) _ 23 #[.int .i64 0, .int .i64 0] (by simp)).alloc _) hb1); have z1 := hB1.out.size; have a0 := rA.out.cell 0; have a1 := rA.out.cell 1; have b0 := rB.out.cell 0; have b1 := rB.out.cell 1; have g0 := rC.out.cell 0; have g1 := rC.out.cell 1; have g2 := fun i => rC.out.frozen i; clear hb1))
        go_big_region_o
        go_wp2
        exact bodyPost_ret (res_ct rfl _ _ _ 2 rfl ((rC.out.set_ 0 _).set_ 1 _) Tryz.rowSpan rfl) rfl ⟨rfl, bset (bset (Below.drew hB1.out) (by omega) _) (by omega) _⟩
    · have h2' : ah ≤ bh := by omega
      have ex : x = al := by omega
      have ey : y = ah := by omega
      clear hx hy
      subst x
      subst y
      have h : al ≤ ah := by omega
      · skip
        rw [if_pos h, if_pos h, if_pos h]
        have hn : ¬ ah < al := by omega
        go_enter Tryz.func156, Tryz.ntmps156
        go_wp2_with (first | (go_at_call 113; (with_reducible refine (C1.out _ _ _ (by first | (simp; done) | (rw [cell_new_at _ _ _ _ _ (by simp)]; first | rfl | (simp; done))) (by first | (simp; done) | (rw [cell_new_at _ _ _ _ _ (by simp)]; first | rfl | (simp; done))) (by first | (simp; done) | (rw [cell_new_at _ _ _ _ _ (by simp)]; first | rfl | (simp; done))) (by first | (simp; done) | (rw [cell_new_at _ _ _ _ _ (by simp)]; first | rfl | (simp; done)))).mono ?_); rintro e w1 ⟨rfl, hb1⟩; have hB1 := Lib.hid (bthen (show Below w.heap.size w _ from (by repeat' (first | exact Below.refl _ _ | assumption | refine Below.drew ?_ | refine bdn ?_ _ | refine bal ?_ _ | refine Below.setCell ?_ (by first | (simp; done) | omega | (simp; omega)) _))) hb1); have rA := Lib.hid (Blk.below ((((Blk.newA (g := w.heap.size) _ 23 #[.int .i64 al, .int .i64 ah] (by simp)).alloc _).alloc _).alloc _) hb1); have rB := Lib.hid (Blk.below (((Blk.newA (g := w.heap.size + 1) _ 23 #[.int .i64 bl, .int .i64 bh] (by simp)).alloc _).alloc _) hb1); have rC := Lib.hid (Blk.below ((Blk.newA (g := w.heap.size + 1 + 1) _ 23 #[.int .i64 0, .int .i64 0] (by simp)).alloc _) hb1); have z1 := hB1.out.size; have a0 := rA.out.cell 0; have a1 := rA.out.cell 1; have b0 := rB.out.cell 0; have b1 := rB.out.cell 1; have g0 := rC.out.cell 0; have g1 := rC.out.cell 1; have g2 := fun i => rC.out.frozen i; clear hb1))
        go_big_region_o
        go_wp2
        exact bodyPost_ret (res_ct rfl _ _ _ 2 rfl ((rC.out.set_ 0 _).set_ 1 _) Tryz.rowSpan rfl) rfl ⟨rfl, bset (bset (Below.drew hB1.out) (by omega) _) (by omega) _⟩
/-- The span of one number. -/
theorem only1_c (n : Int) (w : World) : Calls Tryz.prog 88 #[.int .i64 n] w fun e w' => e = .returned (.agg #[.int .i64 n, .int .i64 n]) ∧ Below w.heap.size w w' := by
  go_enter Tryz.func88, Tryz.ntmps88
  go_wp2
  exact bodyPost_ret (res_c rfl _ _ _ 2 rfl (Blk.new _ _ _) Tryz.rowSpan rfl) rfl ⟨rfl, bal (Below.refl _ _) _⟩
def neL (n d m : Int) : Int := min (max (n - d) 0) m
def neH (n d m : Int) : Int := max (min (n + d) m) 0
theorem near_c (n d m : Int) (w : World) (h0 : -1000000000 ≤ n) (h1 : n ≤ 1000000000) (h2 : -1000000000 ≤ d) (h3 : d ≤ 1000000000) (h4 : -1000000000 ≤ m) (h5 : m ≤ 1000000000) :
   Calls Tryz.prog 93 #[.int .i64 n, .int .i64 d, .int .i64 m] w fun e w' => e = .returned (.agg #[.int .i64 (neL n d m), .int .i64 (neH n d m)]) ∧ Below w.heap.size w w' := by
  go_enter Tryz.func93, Tryz.ntmps93
  go_wp2
  all_goals exact bodyPost_ret (res_c rfl _ _ _ 2 rfl (Blk.new _ _ _) Tryz.rowSpan rfl) rfl ⟨ret2 (by unfold neL; omega) (by unfold neH; omega), bal (Below.refl _ _) _⟩
def insB (lo hi m : Int) : Bool := vspan lo hi && (inB lo 0 m && decide (hi ≤ m))
theorem inside_c (lo hi m : Int) (w : World) :
   Calls Tryz.prog 87 #[.agg #[.int .i64 lo, .int .i64 hi], .int .i64 m] w fun e w' => e = .returned (.bool (insB lo hi m)) ∧ Below w.heap.size w w' := by
  have e3 := spanE_t
  have e4 := spanE_f
  unfold insB
  have hk : ∀ b c w, w.cell? ⟨b, 0, none⟩ = some (.int .i64 lo) → w.cell? ⟨b, 1, none⟩ = some (.int .i64 hi) → Calls Tryz.prog 127 #[.slice (some ⟨b, 0, none⟩) 1 c] w fun e w' => e = .returned (.int .i64 (spanE (!vspan lo hi))) ∧ Below w.heap.size w w' := by
    intro b c w h0 h1
    have h := spCheck_c (some ⟨b, 0, none⟩) 1 c (fun _ => lo) (fun _ => hi) w (by omega)
      (fun _ => ⟨b, 0, rfl, blk_lt h0, fun k hk => by
        obtain rfl : k = 0 := by omega
        exact ⟨(by simpa using h0), (by simpa using h1)⟩⟩)
    rw [anyBad1] at h
    exact h
  have HK := Lib.hid hk
  clear hk
  cases h1 : vspan lo hi
  · go_enter Tryz.func87, Tryz.ntmps87
    go_wp2_with (first | (go_at_call 127; (with_reducible refine (HK.out _ _ _ (by simp) (by simp)).mono ?_); rintro e w1 ⟨rfl, hb1⟩; have hB1 := bthen (show Below w.heap.size w _ from (by repeat' (first | exact Below.refl _ _ | assumption | refine Below.drew ?_ | refine bdn ?_ _ | refine bal ?_ _ | refine Below.setCell ?_ (by first | (simp; done) | omega | (simp; omega)) _))) hb1; have hz1 := hb1.size; (try simp at hz1); obtain ⟨hc1, hf1⟩ := bcell hb1; first | (have hE1 := bthen2 hE (by repeat' (first | exact Below.refl _ _ | refine Below.drew ?_ | refine bdn ?_ _ | refine bal ?_ _ | refine Below.setCell ?_ (by first | (simp; done) | omega | (simp; omega)) _)) hb1; clear hE; have hE := hE1; clear hE1; obtain ⟨hd1, hg1⟩ := bcell hE) | (have hE := hb1)) | (go_at_call 82; (with_reducible refine (wwithin_c _ _ _ _).mono ?_); rintro e w1 ⟨rfl, rfl⟩))
    go_ret
    exact ⟨rfl, (by repeat' (first | exact Below.refl _ _ | assumption | refine Below.drew ?_ | refine bdn ?_ _ | refine bal ?_ _ | refine Below.setCell ?_ (by first | (simp; done) | omega | (simp; omega)) _))⟩
  · go_enter Tryz.func87, Tryz.ntmps87
    go_wp2_with (first | (go_at_call 127; (with_reducible refine (HK.out _ _ _ (by simp) (by simp)).mono ?_); rintro e w1 ⟨rfl, hb1⟩; have hB1 := bthen (show Below w.heap.size w _ from (by repeat' (first | exact Below.refl _ _ | assumption | refine Below.drew ?_ | refine bdn ?_ _ | refine bal ?_ _ | refine Below.setCell ?_ (by first | (simp; done) | omega | (simp; omega)) _))) hb1; have hz1 := hb1.size; (try simp at hz1); obtain ⟨hc1, hf1⟩ := bcell hb1; first | (have hE1 := bthen2 hE (by repeat' (first | exact Below.refl _ _ | refine Below.drew ?_ | refine bdn ?_ _ | refine bal ?_ _ | refine Below.setCell ?_ (by first | (simp; done) | omega | (simp; omega)) _)) hb1; clear hE; have hE := hE1; clear hE1; obtain ⟨hd1, hg1⟩ := bcell hE) | (have hE := hb1)) | (go_at_call 82; (with_reducible refine (wwithin_c _ _ _ _).mono ?_); rintro e w1 ⟨rfl, rfl⟩))
    all_goals go_ret
    all_goals exact ⟨ret_bool (by simp_all), (by repeat' (first | exact Below.refl _ _ | assumption | refine Below.drew ?_ | refine bdn ?_ _ | refine bal ?_ _ | refine Below.setCell ?_ (by first | (simp; done) | omega | (simp; omega)) _))⟩
end Go.Proofs.YtonfnhonbnfdoaaGreat
