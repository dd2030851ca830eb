/- Texts joined: JAS. -/
import Derived.Test.YtlabfpjlckdmfaaGreatNaO
import Derived.Test.YtlabfpjlckdmfaaGreatJAR
set_option linter.all false
namespace Go.Proofs.YtlabfpjlckdmfaaGreat
open Go Go.RowKit Go.Proofs
structure HavD where
 p : Nat
 t : Int
 b : Bool
def hvz : HavD := ⟨0, 0, false⟩
def hvx (l : List HavD) (i : Nat) : HavD := l.getD i hvz
def nHv (f : Nat → HavD) : Nat → Nat → Value
 | i, 0 => .int .i64 (f i).p
 | i, 1 => .int .i64 (f i).t
 | i, _ + 2 => .bool (f i).b
def minH (f : Nat → HavD) : Nat → HavD
 | 0 => f 0
 | i + 1 => if (f (i + 1)).t < (minH f i).t then f (i + 1) else minH f i
def bestL (l : List HavD) : Option HavD := if l.length = 0 then none else some (minH (hvx l) (l.length - 1))
def FliD.havB (F : FliD) (lt tt : Tab) (op : Nat → Int → Bool) (t : Int) (dry : Bool) (p : Nat) : Bool := (F.reach lt tt t p).2.2 && (op p (F.reach lt tt t p).1 && (dry || F.lasts (F.reach lt tt t p).1))
def FliD.hav1 (F : FliD) (lt tt : Tab) (t : Int) (p : Nat) : HavD := ⟨p, (F.reach lt tt t p).1, (F.reach lt tt t p).2.1⟩
def FliD.havK (F : FliD) (lt tt : Tab) (op : Nat → Int → Bool) (t : Int) (dry : Bool) : Nat → List HavD
 | 0 => []
 | k + 1 => if F.havB lt tt op t dry k then F.havK lt tt op t dry k ++ [F.hav1 lt tt t k] else F.havK lt tt op t dry k
theorem FliD.havK_len {F : FliD} {lt tt : Tab} {op : Nat → Int → Bool} {t : Int} {dry : Bool} : ∀ k, (F.havK lt tt op t dry k).length ≤ k
 | 0 => Nat.le_refl _
 | k + 1 => by
  have := FliD.havK_len (F := F) (lt := lt) (tt := tt) (op := op) (t := t) (dry := dry) k
  unfold FliD.havK
  split
  ·simp; omega
  ·omega
def FliD.leaR (F : FliD) (bf : Int → Option HavD) : Nat → Int → Int → Option Int
 | 0, _, m => some m
 | n + 1, t, m => match bf t with
  | none => none
  | some h => F.leaR bf n (t + 1) (max m (F.res + F.burn * (h.t - F.dep)))
def FliD.arr (F : FliD) (lt : Tab) : Int := F.at_ lt (F.m - 1)
def FliD.ticks (F : FliD) (lt : Tab) : Nat := (F.arr lt - F.dep + 1).toNat
def FliD.leaO (F : FliD) (lt tt : Tab) (op : Nat → Int → Bool) (P : Nat) : Option Int := F.leaR (fun t => bestL (F.havK lt tt op t true P)) (F.ticks lt) F.dep 0
def leaV : Option Int → Int × Int
 | none => (0, 3)
 | some n => if n ≤ 100000 then (n, 0) else (0, 3)
def besV : Option HavD → HavD × Int
 | none => (hvz, 3)
 | some h => (h, 0)
def hvL (l : List HavD) : List Value := l.flatMap fun h => [.int .i64 h.p, .int .i64 h.t, .bool h.b]
theorem hvL_snoc (l : List HavD) (h : HavD) : hvL (l ++ [h]) = hvL l ++ [.int .i64 h.p, .int .i64 h.t, .bool h.b] := by simp [hvL]
theorem hvL_take (l : List HavD) : ∀ n, n ≤ l.length → hvL (l.take n) = (List.range (n * 3)).map fun q => nHv (hvx l) (q / 3) (q % 3)
 | 0, _ => by simp [hvL]
 | n + 1, h => by
  have hn : n < l.length := by omega
  rw [List.take_succ_eq_append_getElem hn, hvL_snoc, hvL_take l n (by omega), show (n + 1) * 3 = n * 3 + 1 + 1 + 1 by omega, List.range_succ, List.range_succ, List.range_succ]
  simp only [List.map_append, List.map_cons, List.map_nil, List.append_assoc, List.cons_append, List.nil_append]
  rw [show n * 3 / 3 = n by omega, show n * 3 % 3 = 0 by omega, show (n * 3 + 1) / 3 = n by omega, show (n * 3 + 1) % 3 = 1 by omega, show (n * 3 + 1 + 1) / 3 = n by omega, show (n * 3 + 1 + 1) % 3 = 2 by omega]
  have e : hvx l n = l[n] := by simp [hvx, List.getD_eq_getElem?_getD, List.getElem?_eq_getElem hn]
  simp only [nHv, e]
theorem hvL_eq (l : List HavD) : hvL l = (List.range (l.length * 3)).map fun q => nHv (hvx l) (q / 3) (q % 3) := by
 have := hvL_take l l.length (Nat.le_refl _)
 rwa [List.take_length] at this
theorem FliD.reach_in {F : FliD} {P : Nat} {lt tt : Tab} {t : Int} {p : Nat} (hok : F.ok P lt) (hl : LegIn P lt) (htt : TabIn P 51200 tt) (hp : p < P) (h0 : F.dep ≤ t) (h1 : t ≤ F.at_ lt (F.m - 1)) : -1 ≤ (F.reach lt tt t p).1 ∧ (F.reach lt tt t p).1 ≤ 100000 := by
 obtain ⟨hnu, hfl, hend⟩ := hok
 obtain ⟨hm, hd, -⟩ := FliD.nums_iff.1 hnu
 have hix := FliD.ix_le (F := F) (lt := lt) (t := t) (F.m - 1)
 have hixa := FliD.ix_at (F := F) (lt := lt) h0 (F.m - 1)
 have hat := fun i (hi : i < F.m) => FliD.at_in hl hd i ⟨fun j hj => hfl.1 j (by omega), fun j hj => hfl.2 j (by omega)⟩
 have hb := fun i (hi : i < F.m) => htt.1 (F.R i).toNat (by have := hfl.1 i hi; omega) p hp
 unfold FliD.reach
 have a1 := hat _ (show F.ix lt t (F.m - 1) < F.m by omega)
 have b1 := hb _ (show F.ix lt t (F.m - 1) < F.m by omega)
 have hlt := FliD.ix_lt (F := F) (lt := lt) (t := t) (F.m - 1)
 generalize F.ix lt t (F.m - 1) = i at *
 dsimp only
 split
 ·dsimp only; omega
 ·rename_i hne
  have him : i < F.m - 1 := by
   rcases Nat.lt_or_ge i (F.m - 1) with q | q
   ·exact q
   ·have : i = F.m - 1 := by omega
    subst this
    omega
  have a2 := hat (i + 1) (by omega)
  have b2 := hb (i + 1) (by omega)
  split <;> (dsimp only; omega)
theorem FliD.reach_congr {F : FliD} {P : Nat} {lt tt t2 : Tab} {t : Int} {p : Nat} (hm : 1 ≤ F.m) (hf : ∀ j, j < F.m → 0 ≤ F.R j ∧ F.R j < P) (hp : p < P) (h : ∀ i j, i < P → j < P → tt i j = t2 i j) (h0 : F.dep ≤ t) (h1 : t ≤ F.at_ lt (F.m - 1)) : F.reach lt tt t p = F.reach lt t2 t p := by
 have hix := FliD.ix_le (F := F) (lt := lt) (t := t) (F.m - 1)
 have hixa := FliD.ix_at (F := F) (lt := lt) h0 (F.m - 1)
 unfold FliD.reach
 generalize F.ix lt t (F.m - 1) = i at *
 have e1 : tt (F.R i).toNat p = t2 (F.R i).toNat p := h _ _ (by have := hf i (by omega); omega) hp
 dsimp only
 rw [e1]
 by_cases hc : t = F.at_ lt i
 ·rw [if_pos hc, if_pos hc]
 ·rw [if_neg hc, if_neg hc]
  have him : i < F.m - 1 := by
   rcases Nat.lt_or_ge i (F.m - 1) with q | q
   ·exact q
   ·have : i = F.m - 1 := by omega
    subst this
    omega
  rw [h _ _ (by have := hf (i + 1) (by omega); omega) hp]
theorem FliD.havK_congr {F : FliD} {P : Nat} {lt tt t2 : Tab} {op o2 : Nat → Int → Bool} {t : Int} {dry : Bool} (hm : 1 ≤ F.m) (hf : ∀ j, j < F.m → 0 ≤ F.R j ∧ F.R j < P) (h : ∀ i j, i < P → j < P → tt i j = t2 i j) (h0 : F.dep ≤ t) (h1 : t ≤ F.at_ lt (F.m - 1)) (ho : ∀ p a, p < P → op p a = o2 p a) : ∀ k, k ≤ P → F.havK lt tt op t dry k = F.havK lt t2 o2 t dry k
 | 0, _ => rfl
 | k + 1, hk => by
  have e := FliD.reach_congr (F := F) (lt := lt) hm hf (show k < P by omega) h h0 h1
  unfold FliD.havK FliD.havB FliD.hav1
  rw [FliD.havK_congr hm hf h h0 h1 ho k (by omega), e, ho k _ (by omega)]
theorem FliD.leaR_congr {F : FliD} {bf b2 : Int → Option HavD} : ∀ (n : Nat) (t m : Int), (∀ q : Int, t ≤ q → q < t + (n : Nat) → bf q = b2 q) → F.leaR bf n t m = F.leaR b2 n t m
 | 0, _, _, _ => rfl
 | n + 1, t, m, h => by
  unfold FliD.leaR
  rw [h t (Int.le_refl _) (by omega)]
  cases b2 t with
  | none => rfl
  | some x => exact FliD.leaR_congr n (t + 1) _ (fun q h1 h2 => h q (by omega) (by omega))
def rlO (t : Tab) : Nat → Tab
 | 0 => t
 | y + 1 => fun i j => rlxV (rlO t y i y) (rlO t y y j) (rlO t y i j)
theorem flO_rl {n : Nat} {t : Tab} (h : ∀ i, i < n → t i i = 0) : ∀ y, y ≤ n → (∀ i j, i < n → j < n → flO n y t i j = rlO t y i j) ∧ (∀ i, i < n → flO n y t i i = 0)
 | 0, _ => ⟨fun _ _ _ _ => rfl, h⟩
 | y + 1, hy => by
  obtain ⟨h1, h2⟩ := flO_rl h y (by omega)
  have hA : ∀ i j, i < n → j < n → flO n (y + 1) t i j = rlxV (flO n y t i y) (flO n y t y j) (flO n y t i j) := fun i j hi hj => by
   show flA n y n (flO n y t) i j = _
   rw [flA_at (by omega) (h2 y (by omega)) n i j hj, if_pos hi]
  refine ⟨fun i j hi hj => ?_, fun i hi => ?_⟩
  ·rw [hA i j hi hj, h1 i y hi (by omega), h1 y j (by omega) hj, h1 i j hi hj]; rfl
  ·rw [hA i i hi hi, h2 i hi]
   unfold rlxV
   split
   ·rw [if_neg (by omega)]
   ·rfl
def rxD (i j : Nat) : Int := nth (nthR [[2, 10, 30, 0, 0, 10, 1000, 2000, 1000, 3000], [0, 25, 60, 0, 0, 10, 1000, 2000, 1000, 3000]] i) j
def rxM : MetD := ⟨3, ⟨0, 10, 5000, 9000, 1000, 3000, false, false⟩, 0, 0, 0, 2, rxD, fun _ _ => false, 0, fun _ _ => 0, fun _ _ => false⟩
def rxS (i j : Nat) : Int := nth (nthR [[0, 1, 10], [1, 2, 8]] i) j
def rxF : FliD := ⟨3, fun i => nth [0, 1, 2] i, 0, 100, 2, 20⟩
def rxT (i j : Nat) : Int := nth (nthR [[0, 10, 18], [10, 0, 8], [18, 8, 0]] i) j
def rxO (p : Nat) (a : Int) : Bool := decide (opE rxM 20 3000 500 p a = 0) && openB (rxM.skyF (rxM.cov p a 2)) 20 3000 500 false false
theorem rx_stab0 (key : Nat → Int) : stab key [] = [] := by simp [stab]
theorem rx_stab1 (key : Nat → Int) (x : Nat) : stab key [x] = [x] := by simp [stab]
theorem rx_may (p : Nat) (hp : p < 3) (a : Int) : rxM.may p a = rxM.skyF (rxM.cov p a 2) := by
 unfold MetD.may MetD.ordS MetD.sen MetD.ordF
 have e1 : (List.range rxM.m).filter (rxM.senP p a) = [] := rfl
 rw [e1, rx_stab0]
 show rxM.skyF (stab _ (rxM.cov p a 2)) = _
 have e2 : ∃ x, rxM.cov p a 2 = [] ∨ rxM.cov p a 2 = [x] := by
  unfold MetD.cov
  show ∃ x, [0, 1].filter (rxM.covP p a) = [] ∨ [0, 1].filter (rxM.covP p a) = [x]
  have c : rxM.covP p a 0 = false ∨ rxM.covP p a 1 = false := by
   rcases (show p = 0 ∨ p ≠ 0 by omega) with q | q
   ·subst q; left; rfl
   ·right
    show (decide ((0 : Int) = p) && _) = false
    rw [decide_eq_false (by omega)]; rfl
  rcases c with c | c
  ·cases d : rxM.covP p a 1
   ·exact ⟨0, Or.inl (by simp [c, d])⟩
   ·exact ⟨1, Or.inr (by simp [c, d])⟩
  ·cases d : rxM.covP p a 0
   ·exact ⟨0, Or.inl (by simp [c, d])⟩
   ·exact ⟨0, Or.inr (by simp [c, d])⟩
 obtain ⟨x, e2 | e2⟩ := e2 <;> rw [e2]
 ·rw [rx_stab0]
 ·rw [rx_stab1]
theorem rx_open (p : Nat) (hp : p < 3) (a : Int) : openV rxM 20 3000 500 false false p a = rxO p a := by
 unfold openV rxO
 rw [rx_may p hp a]
theorem rx_dg : ∀ i, i < 3 → dgK (lgT rxS 2) 3 i i = 0 := fun i hi => by unfold dgK; rw [if_pos ⟨rfl, hi⟩]
theorem rx_tim (i j : Nat) (hi : i < 3) (hj : j < 3) : timT rxS 2 3 i j = rxT i j := by
 unfold timT
 rw [(flO_rl rx_dg 3 (Nat.le_refl _)).1 i j hi hj]
 have h : ∀ i, i < 3 → ∀ j, j < 3 → rlO (dgK (lgT rxS 2) 3) 3 i j = rxT i j := by decide +kernel
 exact h i hi j hj
theorem rx_route : ∀ j, j < rxF.m → 0 ≤ rxF.R j ∧ rxF.R j < (3 : Nat) := by
 show ∀ j, j < 3 → 0 ≤ nth [0, 1, 2] j ∧ nth [0, 1, 2] j < (3 : Nat)
 decide
theorem rx_arr : rxF.at_ (lgT rxS 2) 2 = 18 := by decide +kernel
theorem rx_netM : netME rxM 20 3000 500 rxS 2 = 0 := by kernel_rfl
theorem rx_nf : nfE 0 rxM rxS 2 rxF = 0 := by kernel_rfl
theorem rx_hav (t : Int) (dry : Bool) (h0 : 0 ≤ t) (h1 : t ≤ 18) : rxF.havK (lgT rxS 2) (timT rxS 2 3) (fun p a => openV rxM 20 3000 500 false false p a) t dry 3 = rxF.havK (lgT rxS 2) rxT rxO t dry 3 :=
 FliD.havK_congr (P := 3) (by decide) rx_route (fun i j hi hj => rx_tim i j hi hj) h0 (by show t ≤ rxF.at_ (lgT rxS 2) 2; rw [rx_arr]; exact h1) (fun p a hp => rx_open p hp a) 3 (Nat.le_refl _)
theorem rx_least : leaV (rxF.leaO (lgT rxS 2) (timT rxS 2 3) (fun p a => openV rxM 20 3000 500 false false p a) 3) = (72, 0) := by
 have e : rxF.leaO (lgT rxS 2) (timT rxS 2 3) (fun p a => openV rxM 20 3000 500 false false p a) 3 = rxF.leaR (fun t => bestL (rxF.havK (lgT rxS 2) rxT rxO t true 3)) 19 0 0 := by
  unfold FliD.leaO
  have e1 : rxF.ticks (lgT rxS 2) = 19 := by
   unfold FliD.ticks FliD.arr
   rw [show rxF.at_ (lgT rxS 2) (rxF.m - 1) = 18 from rx_arr]; rfl
  rw [e1]
  show rxF.leaR _ 19 0 0 = _
  refine FliD.leaR_congr 19 0 0 (fun q h1 h2 => ?_)
  rw [rx_hav q true h1 (by omega)]
 rw [e]
 decide +kernel
theorem rx_best : besV (bestL (rxF.havK (lgT rxS 2) (timT rxS 2 3) (fun p a => openV rxM 20 3000 500 false false p a) 12 false 3)) = (⟨1, 14, true⟩, 0) := by
 rw [rx_hav 12 false (by decide) (by decide)]
 kernel_rfl
end Go.Proofs.YtlabfpjlckdmfaaGreat

namespace Go.Proofs.YtlabfpjlckdmfaaGreat
open Go Go.RowKit Go.Proofs
end Go.Proofs.YtlabfpjlckdmfaaGreat

namespace Go.Proofs.YtlabfpjlckdmfaaGreat
open Go Go.RowKit Go.Proofs
set_option maxRecDepth 100000
set_option maxHeartbeats 8000000
end Go.Proofs.YtlabfpjlckdmfaaGreat
