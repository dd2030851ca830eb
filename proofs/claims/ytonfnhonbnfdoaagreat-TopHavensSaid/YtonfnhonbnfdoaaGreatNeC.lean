/- Contracts: measures and planFar of the statements over several layers. -/
import Derived.Test.YtonfnhonbnfdoaaGreatNbD
import Derived.Test.YtonfnhonbnfdoaaGreatNbE
import Derived.Test.YtonfnhonbnfdoaaGreatJAN
set_option linter.all false
namespace Go.Proofs.YtonfnhonbnfdoaaGreat
open Go Go.RowKit Go.Proofs
set_option maxRecDepth 100000
set_option maxHeartbeats 8000000
theorem cellsM (zs : List Int) : ∀ v ∈ zs.map (Value.int .i64), v.cells = #[v] := by
  intro v hv; obtain ⟨z, _, rfl⟩ := List.mem_map.1 hv; rfl
theorem cellsMs (vs : List Value) (h : ∀ v ∈ vs, IsSl v) : ∀ v ∈ vs, v.cells = #[v] := by
  intro v hv; obtain ⟨a, n, c, rfl⟩ := h v hv; rfl
theorem Tryz.szIntM : (Tryz.prog.info? 3).map (·.size) = some 1 := by kernel_rfl
theorem Tryz.zIntM : ((Tryz.prog.info? 3).bind (·.zero)).isSome = true := by kernel_rfl
theorem Tryz.szIntsM : (Tryz.prog.info? 35).map (·.size) = some 1 := by kernel_rfl
theorem Tryz.zIntsM : ((Tryz.prog.info? 35).bind (·.zero)).isSome = true := by kernel_rfl
theorem Tryz.sizeTblM : (Tryz.prog.info? 87).map (·.size) = some 3 := by kernel_rfl
theorem Tryz.rowTblM : RowTy Tryz.prog 87 3 := ⟨by kernel_rfl, by kernel_rfl⟩
theorem all64 {xs : List Int} (h : (xs.all fun x => decide (-9223372036854775808 ≤ x) && decide (x ≤ 9223372036854775807)) = true) : ∀ x ∈ xs, I64 x := by
  intro x hx; rw [List.all_eq_true] at h; have := h x hx; simp only [Bool.and_eq_true, decide_eq_true_eq] at this; exact this
def msT : Tbl := ⟨[0, 10, 20], [0, 5], [[0, 10], [20, 30], [10, 50]]⟩
theorem ms_fits : Fits msT 5 15 0 5 := ⟨by kernel_rfl, by kernel_rfl, by kernel_rfl, by kernel_rfl, by kernel_rfl⟩
theorem ms_lo : bndLo msT 5 15 0 5 = 10 := by kernel_rfl
theorem ms_hi : bndHi msT 5 15 0 5 = 40 := by kernel_rfl
theorem msBound_c (x y v : Value) (w : World) (hT : TblAt w x y v msT) :
   Calls Tryz.prog 34 #[.agg #[x, y, v], .agg #[.int .i64 5, .int .i64 15], .agg #[.int .i64 0, .int .i64 5]] w fun e w' => e = .returned (.tuple #[.agg #[.int .i64 10, .int .i64 40], .int .i64 0]) ∧ RowKit.Below w.heap.size w w' := by
  have := Bound_c x y v msT 5 15 0 5 w hT ms_fits
  rwa [ms_lo, ms_hi] at this
theorem ints_blk {w : World} {g : Nat} {T : TypeId} (xs : List Int) (h : Blk w g T (xs.map (Value.int .i64)).toArray) (h64 : (xs.all fun x => decide (-9223372036854775808 ≤ x) && decide (x ≤ 9223372036854775807)) = true) (hl : xs.length ≤ 100) : Ints w (.slice (some ⟨g, 0, none⟩) xs.length xs.length) xs := by
  refine ⟨_, _, rfl, Nat.le_refl _, by omega, all64 h64, fun hp => ⟨g, 0, rfl, h.lt, fun k hk => ?_⟩⟩
  rw [Nat.zero_add, h.cell k]
  simp [nth, List.getD_eq_getElem?_getD, List.getElem?_eq_getElem hk]
theorem measures_c (w : World) : Calls Tryz.prog 11 #[] w fun e w' => e = .returned (.bool true) ∧ RowKit.Below w.heap.size w w' := by
  go_enter Tryz.func11, Tryz.ntmps11
  go_wp2_with (fail)
  obtain ⟨b1, b2, b3, b4, b5, b6, hb, hz⟩ := frm6 w #[.int .i64 0, .int .i64 10, .int .i64 20] 3 #[.int .i64 0, .int .i64 5] 3 #[.int .i64 0, .int .i64 10] 3 #[.int .i64 20, .int .i64 30] 3 #[.int .i64 10, .int .i64 50] 3 #[.slice (some ⟨w.heap.size + 1 + 1, 0, none⟩) 2 2, .slice (some ⟨w.heap.size + 1 + 1 + 1, 0, none⟩) 2 2, .slice (some ⟨w.heap.size + 1 + 1 + 1 + 1, 0, none⟩) 2 2] 35
  generalize World.alloc (World.alloc (World.alloc (World.alloc (World.alloc (World.alloc w _) _) _) _) _) _ = W at *
  have hT : TblAt W (.slice (some ⟨w.heap.size, 0, none⟩) 3 3) (.slice (some ⟨w.heap.size + 1, 0, none⟩) 2 2) (.slice (some ⟨w.heap.size + 1 + 1 + 1 + 1 + 1, 0, none⟩) 3 3) msT := by
    refine ⟨ints_blk [0, 10, 20] b1 rfl (by decide), ints_blk [0, 5] b2 rfl (by decide), ⟨_, 3, fun k => [Value.slice (some ⟨w.heap.size + 1 + 1, 0, none⟩) 2 2, .slice (some ⟨w.heap.size + 1 + 1 + 1, 0, none⟩) 2 2, .slice (some ⟨w.heap.size + 1 + 1 + 1 + 1, 0, none⟩) 2 2].getD k undef, rfl, by decide, by decide, fun hp => ⟨_, 0, rfl, b6.lt, fun k hk => ?_⟩, fun k hk => ?_⟩⟩
    · rw [Nat.zero_add, b6.cell k]
      match k, hk with
      | 0, _ => rfl
      | 1, _ => rfl
      | 2, _ => rfl
      | k + 3, hk => exact absurd hk (by show ¬ k + 3 < 3; omega)
    · match k, hk with
      | 0, _ => exact ints_blk [0, 10] b3 rfl (by decide)
      | 1, _ => exact ints_blk [20, 30] b4 rfl (by decide)
      | 2, _ => exact ints_blk [10, 50] b5 rfl (by decide)
      | k + 3, hk => exact absurd hk (by show ¬ k + 3 < 3; omega)
  refine (msBound_c _ _ _ _ (hT.below (bal (RowKit.Below.refl _ _) _))).mono ?_
  rintro e w1 ⟨rfl, hb1⟩
  have HB := Lib.hid (bthen (bal hb _) hb1)
  clear b1 b2 b3 b4 b5 b6 hb hz hT hb1
  go_wp2_with (fail)
  go_ret
  exact ⟨rfl, by first | exact HB.out | exact bal HB.out _⟩
def pfar (M : MetD) (n m : Nat) : Bool := M.far || (decide ((30 : Int) < (n : Int)) || decide ((12 : Int) < (m : Int)))
theorem planFar_c (M : MetD) (vF vS : Value) (lw ls lc : Int) (li lb : Bool) (A : Option Addr) (n c : Nat) (F : FliD) (AR : Option Addr) (cR : Nat) (w : World) (hM : MetAt w vF vS M) :
   Calls Tryz.prog 8 #[.agg #[.int .i64 M.places, .int .i64 M.any.a0, .int .i64 M.any.a1, .int .i64 M.any.a2, .int .i64 M.any.a3, .int .i64 M.any.a4, .int .i64 M.any.a5, .bool M.any.i, .bool M.any.s, .int .i64 M.mw, .int .i64 M.ms, .int .i64 M.mc, vF, vS, .int .i64 lw, .int .i64 ls, .int .i64 lc, .bool li, .bool lb, .slice A n c], .agg #[.slice AR F.m cR, .int .i64 F.dep, .int .i64 F.fuel, .int .i64 F.burn, .int .i64 F.res]] w fun e w' => e = .returned (.bool (pfar M n F.m)) ∧ RowKit.Below w.heap.size w w' := by
  have HM := Lib.hid hM
  have HFR := Lib.hid (fun w1 h => wFar_c M vF vS w1 h)
  obtain ⟨V, hV⟩ : ∃ V, V = pfar M n F.m := ⟨_, rfl⟩
  rw [← hV]
  have HV := Lib.hid hV
  clear hM hV
  have tok0 : True := trivial
  have tok3 : True := trivial
  go_enter Tryz.func8, Tryz.ntmps8
  go_wp2_with (first | (have _t := tok0; generalize hWX : World.alloc (World.alloc w _) _ = W; clear tok0; have _x := duo_r w #[.int .i64 M.places, .int .i64 M.any.a0, .int .i64 M.any.a1, .int .i64 M.any.a2, .int .i64 M.any.a3, .int .i64 M.any.a4, .int .i64 M.any.a5, .bool M.any.i, .bool M.any.s, .int .i64 M.mw, .int .i64 M.ms, .int .i64 M.mc, vF, vS, .int .i64 lw, .int .i64 ls, .int .i64 lc, .bool li, .bool lb, .slice A n c] #[.slice AR F.m cR, .int .i64 F.dep, .int .i64 F.fuel, .int .i64 F.burn, .int .i64 F.res] 34 37; rw [hWX] at _x; clear hWX; have HX := Lib.hid _x.1; have HY := Lib.hid _x.2.1; have HB := Lib.hid _x.2.2; clear _x) | (have _t := tok3; refine wpl_mid rfl 29 _ rfl w.heap.size 0 rfl 34 #[.int .i64 M.places, .int .i64 M.any.a0, .int .i64 M.any.a1, .int .i64 M.any.a2, .int .i64 M.any.a3, .int .i64 M.any.a4, .int .i64 M.any.a5, .bool M.any.i, .bool M.any.s, .int .i64 M.mw, .int .i64 M.ms, .int .i64 M.mc, vF, vS, .int .i64 lw, .int .i64 ls, .int .i64 lc, .bool li, .bool lb, .slice A n c] #[.int .i64 M.places, .int .i64 M.any.a0, .int .i64 M.any.a1, .int .i64 M.any.a2, .int .i64 M.any.a3, .int .i64 M.any.a4, .int .i64 M.any.a5, .bool M.any.i, .bool M.any.s, .int .i64 M.mw, .int .i64 M.ms, .int .i64 M.mc, vF, vS] 14 HX.out Tryz.rowMet [] [.int .i64 lw, .int .i64 ls, .int .i64 lc, .bool li, .bool lb, .slice A n c] rfl rfl rfl ?_; simp only [Act.put]; clear tok3))
  refine (HFR.out _ (HM.out.below HB.out)).mono ?_
  rintro e w1 ⟨rfl, hb1⟩
  have nHX := Lib.hid (HX.out.below hb1)
  have nHY := Lib.hid (HY.out.below hb1)
  have nHB := Lib.hid (bthen HB.out hb1)
  clear HX HY HB hb1
  have HX := nHX
  have HY := nHY
  have HB := nHB
  clear nHX nHY nHB
  have zHX := HX.out.lt
  have cHX19 := HX.out.cell 19
  have zHY := HY.out.lt
  have cHY0 := HY.out.cell 0
  simp only [List.getElem?_toArray, List.getElem?_cons_succ, List.getElem?_cons_zero] at cHX19 cHY0
  cases hB : M.far
  case true =>
    obtain rfl : V = true := by rw [HV.out]; unfold pfar; rw [hB]; rfl
    go_wp2_with (fail)
    go_ret
    exact ⟨by first | trivial | rfl, HB.out⟩
  by_cases h1 : (30 : Int) < (n : Int)
  case pos =>
    obtain rfl : V = true := by rw [HV.out]; unfold pfar; rw [hB, decide_eq_true h1]; rfl
    go_wp2_with (fail)
    go_ret
    exact ⟨by first | trivial | rfl, HB.out⟩
  by_cases h2 : (12 : Int) < (F.m : Int)
  case pos =>
    obtain rfl : V = true := by rw [HV.out]; unfold pfar; rw [hB, decide_eq_false h1, decide_eq_true h2]; rfl
    go_wp2_with (fail)
    go_ret
    exact ⟨by first | trivial | rfl, HB.out⟩
  obtain rfl : V = false := by rw [HV.out]; unfold pfar; rw [hB, decide_eq_false h1, decide_eq_false h2]; rfl
  go_wp2_with (fail)
  go_ret
  exact ⟨by show Ending.returned (Value.bool (decide _ || decide _)) = _; rw [decide_eq_false (by omega), decide_eq_false (by omega)]; rfl, HB.out⟩
end Go.Proofs.YtonfnhonbnfdoaaGreat
