/- Contract: proof of package route. -/
import Derived.Test.YtbgkbdhdkpjcdaaGreatNbC
set_option linter.all false
namespace Go.Proofs.YtbgkbdhdkpjcdaaGreat
open Go Go.RowKit Go.Proofs
set_option maxRecDepth 100000
set_option maxHeartbeats 8000000
/-- The best haven of each tick, n ticks from t on; else the first tick without one. -/
def prfR (bf : Int → Option HavD) : Nat → Int → List HavD → List HavD × Int × Bool
  | 0, _, l => (l, 0, true)
  | n + 1, t, l => match bf t with
    | none => ([], t, false)
    | some h => prfR bf n (t + 1) (l ++ [h])
def FliD.prf (F : FliD) (lt tt : Tab) (op : Nat → Int → Bool) (P : Nat) : List HavD × Int × Bool := prfR (fun t => bestL (F.havK lt tt op t false P)) (F.ticks lt) F.dep []
theorem fproof_c (M : MetD) (vF vS v vN : Value) (P : Nat) (lt tt : Tab) (F : FliD) (vR : Value) (lw ls lc : Int) (li lb : Bool) (w : World) (h : FliAt w v vN M vF vS P lt tt F vR lw ls lc li lb) (hM : MetAt w vF vS M) (hP : M.places = P) (hp8 : P ≤ 8) (hok : F.ok P lt) (hl : LegIn P lt) (htt : TabIn P 51200 tt) :
   Calls Tryz.prog 90 #[v] w fun e w' => ∃ vO, e = .returned (.tuple #[vO, .int .i64 (F.prf lt tt (opM M lw ls lc li lb) P).2.1, .bool (F.prf lt tt (opM M lw ls lc li lb) P).2.2]) ∧ RowKit.Below w.heap.size w w' ∧ SlH w' vO (F.prf lt tt (opM M lw ls lc li lb) P).1 := by
  obtain ⟨op, hop⟩ : ∃ op : Nat → Int → Bool, op = opM M lw ls lc li lb := ⟨_, rfl⟩
  have hhv := fun t w1 h hm h0 h1 => fhavens_c M vF vS v vN P lt tt F vR lw ls lc li lb t false w1 h hm hP hp8 hok hl htt h0 h1
  rw [← hop] at hhv ⊢
  have HHV := Lib.hid hhv
  have hnu := FliD.nums_iff.1 hok.1
  have har := fun w1 h => arrival_c M vF vS v vN P lt tt F vR lw ls lc li lb w1 h hnu.1.1
  have hen := hok.2.2
  have hdp : F.dep ≤ F.at_ lt (F.m - 1) := by
    have hmono : ∀ i, F.flown P lt (i + 1) → F.dep ≤ F.at_ lt i := by
      intro i
      induction i with
      | zero => intro _; exact Int.le_refl _
      | succ i ih =>
        intro hf
        have := ih ⟨fun j hj => hf.1 j (by omega), fun j hj => hf.2 j (by omega)⟩
        have := hf.2 i (by omega)
        show F.dep ≤ F.at_ lt i + lt (F.R i).toNat (F.R (i + 1)).toNat
        omega
    exact hmono _ ⟨fun j hj => hok.2.1.1 j (by omega), fun j hj => hok.2.1.2 j (by omega)⟩
  obtain ⟨ar, har0⟩ : ∃ ar, ar = F.at_ lt (F.m - 1) := ⟨_, rfl⟩
  rw [← har0] at har hen hdp
  obtain ⟨R, hR⟩ : ∃ R, R = F.prf lt tt op P := ⟨_, rfl⟩
  rw [← hR]
  have hR2 : prfR (fun t => bestL (F.havK lt tt op t false P)) ((ar - F.dep + 1).toNat - 0) (F.dep + (0 : Nat)) [] = R := by
    rw [hR]; unfold FliD.prf FliD.ticks FliD.arr; rw [← har0, Nat.sub_zero]; simp
  have HR := Lib.hid hR2
  have HAR0 := Lib.hid har0
  have HAR := Lib.hid har
  have HF := Lib.hid h
  have HM := Lib.hid hM
  obtain ⟨gx, vA, rfl, hx, hN, -⟩ := h
  obtain ⟨gN, gL, gT, cL, cT, rL, rT, loL, hiL, loT, hiT, rfl, n1, -, -⟩ := hN
  have x2 := hx.cell 2
  simp only [List.getElem?_toArray, List.getElem?_cons_succ, List.getElem?_cons_zero] at x2
  clear hM hP hok hl htt hop hhv har har0 hR hR2 hx n1
  obtain ⟨-, hd, -⟩ := hnu
  generalize hdv : F.dep = dep at *
  obtain ⟨n, hn⟩ : ∃ n, n = (ar - dep + 1).toNat := ⟨_, rfl⟩
  have hnz : (n : Int) = ar - dep + 1 := by omega
  rw [← hn] at HR
  have HD := Lib.hid hdv
  have hn2 : n ≤ 2001 := by omega
  clear hn hdv
  go_enter Tryz.func90, Tryz.ntmps90
  go_wp2_with (fail)
  go_loopg [2, 5] n (fun gy ov iv wr => ∃ (j : Nat) (l : List HavD), iv = .int .i64 (dep + j) ∧ j ≤ n ∧ n - j ≤ gy ∧ l.length ≤ j ∧ Hid (prfR (fun t => bestL (F.havK lt tt op t false P)) (n - j) (dep + j) l = R) ∧ Hid (HvK l ov w wr))
  case atStart => exact ⟨0, [], by first | rfl | simp, Nat.zero_le _, Nat.sub_le _ _, Nat.le_refl _, HR, Lib.hid ⟨RowKit.Below.refl _ _, World.ownsRow_nil _ _ _ _⟩⟩
  case round =>
    clear x2 HR
    obtain ⟨j, l, rfl, hj, hgy, hlj, HR, K0⟩ := hrel
    by_cases hlt : j < n
    case pos =>
      have hle : dep + (j : Int) ≤ ar := by omega
      have hjb : (j : Int) ≤ 2000 := by omega
      go_wp2_with (first | (go_at_call 93; refine (HAR.out _ (HF.out.below K0.out.b)).mono ?_; rintro e w2 ⟨rfl, hb2⟩; have nK := Lib.hid (K0.out.below hb2); clear hb2 K0; have K0 := nK; clear nK))
      refine (HHV.out _ _ (HF.out.below K0.out.b) (HM.out.below K0.out.b) (by omega) (by rw [← HAR0.out]; omega)).mono ?_
      rintro e w3 ⟨vO, rfl, hb3, hO⟩
      obtain ⟨AO, cO, rfl, -, -, hO⟩ := hO
      have hbe := hvbest_c AO cO _ w3 (by have := FliD.havK_len (F := F) (lt := lt) (tt := tt) (op := op) (t := dep + (j : Int)) (dry := false) P; omega) hO
      obtain ⟨i, hi⟩ : ∃ i, n - j = i + 1 := ⟨n - j - 1, by omega⟩
      have hRR := HR.out
      rw [hi] at hRR
      unfold prfR at hRR
      have nK := Lib.hid (K0.out.below hb3)
      clear hO hb3 K0 HR
      have K0 := nK
      clear nK
      cases hbs : bestL (F.havK lt tt op (dep + (j : Int)) false P) with
      | none =>
        rw [hbs] at hbe hRR
        obtain rfl : R = ([], dep + (j : Int), false) := hRR.symm
        simp only [Option.getD_none, Option.isSome_none] at hbe
        unfold hvC hvz at hbe
        go_wp2_with (fail)
        refine hbe.mono ?_
        clear hbe
        rintro e w4 ⟨rfl, hb4⟩
        have HB4 := Lib.hid (bthen K0.out.b hb4)
        clear hb4 K0
        go_wp2_with (fail)
        go_ret3
        exact ⟨_, rfl, bal HB4.out _, ⟨none, 0, rfl, Nat.le_refl _, by decide, fun h => absurd h (Nat.lt_irrefl _)⟩⟩
      | some x =>
        rw [hbs] at hbe hRR
        obtain ⟨xp, xt, xb⟩ := x
        simp only [Option.getD_some, Option.isSome_some] at hbe
        unfold hvC at hbe
        dsimp only at hbe hRR
        have HRR := Lib.hid hRR
        clear hRR hbs
        go_wp2_with (fail)
        refine hbe.mono ?_
        clear hbe
        rintro e w4 ⟨rfl, hb4⟩
        have nK := Lib.hid (K0.out.below (bal hb4 (.cells #[.int .i64 (xp : Int), .int .i64 xt, .bool xb] 47)))
        clear hb4 K0
        have hw4 : w.heap.size ≤ w4.heap.size + 1 := by have := nK.out.b.size; simp at this; omega
        go_wp2_with (first | (at_builtin; refine wpl_appH rfl _ _ rfl w.heap.size u2 l.length _ rfl (ownsRow_below nK.out.o (bal (RowKit.Below.refl _ _) _)) (w4.heap.size + 1) (xp : Int) xt xb rfl ?aZ ?cZ ?dZ (by omega) ?bZ ?_))
        (try case aZ => exact (Blk.newA (g := w4.heap.size + 1) _ _ _ (by simp)).cell 0)
        (try case cZ => exact (Blk.newA (g := w4.heap.size + 1) _ _ _ (by simp)).cell 1)
        (try case dZ => exact (Blk.newA (g := w4.heap.size + 1) _ _ _ (by simp)).cell 2)
        case bZ => simp; omega
        intro v' w6 ho hg
        have nK2 := Lib.hid (HvK.app (x := ⟨xp, xt, xb⟩) (nK.out.below (bal (RowKit.Below.refl _ _) _)) ho.out hg.out)
        go_wp2_with (fail)
        go_roundg (n - (j + 1))
        case measure => omega
        case rel => exact ⟨j + 1, l ++ [⟨xp, xt, xb⟩], by first | rfl | go_num | (congr 1; omega), by omega, by omega, by simp; omega, Lib.hid (by rw [show n - (j + 1) = i by omega, show dep + ((j + 1 : Nat) : Int) = dep + (j : Int) + 1 by omega]; exact HRR.out), nK2⟩
    obtain rfl : n = j := by omega
    have hgt : ¬ dep + (n : Int) ≤ ar := by omega
    have hRR := HR.out
    rw [Nat.sub_self] at hRR
    obtain rfl : R = (l, 0, true) := hRR.symm
    go_wp2_with (first | (go_at_call 93; refine (HAR.out _ (HF.out.below K0.out.b)).mono ?_; rintro e w2 ⟨rfl, hb2⟩; have nK := Lib.hid (K0.out.below hb2); clear hb2))
    go_ret3
    exact ⟨_, rfl, nK.out.b, SlH.of_owns nK.out.o⟩
end Go.Proofs.YtbgkbdhdkpjcdaaGreat
