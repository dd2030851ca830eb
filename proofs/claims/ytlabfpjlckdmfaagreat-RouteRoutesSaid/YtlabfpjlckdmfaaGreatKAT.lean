/- Texts joined: KAT. -/
import Derived.Test.YtlabfpjlckdmfaaGreatKZC
import Derived.Test.YtlabfpjlckdmfaaGreatKAS
set_option linter.all false
namespace Go.Proofs.YtlabfpjlckdmfaaGreat
open Go Go.RowKit Go.Proofs
structure HavD where
 p : Nat
 t : Int
 b : Bool
def hvz : HavD := ⟨0, 0, false⟩
def hvx (l : List HavD) (i : Nat) : HavD := l.getD i hvz
def nHv (f : Nat → HavD) : Nat → Nat → Value
 | i, 0 => .int .i64 (f i).p
 | i, 1 => .int .i64 (f i).t
 | i, _ + 2 => .bool (f i).b
def minH (f : Nat → HavD) : Nat → HavD
 | 0 => f 0
 | i + 1 => if (f (i + 1)).t < (minH f i).t then f (i + 1) else minH f i
def bestL (l : List HavD) : Option HavD := if l.length = 0 then none else some (minH (hvx l) (l.length - 1))
def FliD.havB (F : FliD) (lt tt : Tab) (op : Nat → Int → Bool) (t : Int) (dry : Bool) (p : Nat) : Bool := (F.reach lt tt t p).2.2 && (op p (F.reach lt tt t p).1 && (dry || F.lasts (F.reach lt tt t p).1))
def FliD.hav1 (F : FliD) (lt tt : Tab) (t : Int) (p : Nat) : HavD := ⟨p, (F.reach lt tt t p).1, (F.reach lt tt t p).2.1⟩
def FliD.havK (F : FliD) (lt tt : Tab) (op : Nat → Int → Bool) (t : Int) (dry : Bool) : Nat → List HavD
 | 0 => []
 | k + 1 => if F.havB lt tt op t dry k then F.havK lt tt op t dry k ++ [F.hav1 lt tt t k] else F.havK lt tt op t dry k
theorem FliD.havK_len {F : FliD} {lt tt : Tab} {op : Nat → Int → Bool} {t : Int} {dry : Bool} : ∀ k, (F.havK lt tt op t dry k).length ≤ k
 | 0 => Nat.le_refl _
 | k + 1 => by
  have := FliD.havK_len (F := F) (lt := lt) (tt := tt) (op := op) (t := t) (dry := dry) k
  unfold FliD.havK
  split
  ·simp; omega
  ·omega
def FliD.leaR (F : FliD) (bf : Int → Option HavD) : Nat → Int → Int → Option Int
 | 0, _, m => some m
 | n + 1, t, m => match bf t with
  | none => none
  | some h => F.leaR bf n (t + 1) (max m (F.res + F.burn * (h.t - F.dep)))
def FliD.arr (F : FliD) (lt : Tab) : Int := F.at_ lt (F.m - 1)
def FliD.ticks (F : FliD) (lt : Tab) : Nat := (F.arr lt - F.dep + 1).toNat
def FliD.leaO (F : FliD) (lt tt : Tab) (op : Nat → Int → Bool) (P : Nat) : Option Int := F.leaR (fun t => bestL (F.havK lt tt op t true P)) (F.ticks lt) F.dep 0
def leaV : Option Int → Int × Int
 | none => (0, 3)
 | some n => if n ≤ 100000 then (n, 0) else (0, 3)
def besV : Option HavD → HavD × Int
 | none => (hvz, 3)
 | some h => (h, 0)
def hvL (l : List HavD) : List Value := l.flatMap fun h => [.int .i64 h.p, .int .i64 h.t, .bool h.b]
theorem hvL_snoc (l : List HavD) (h : HavD) : hvL (l ++ [h]) = hvL l ++ [.int .i64 h.p, .int .i64 h.t, .bool h.b] := by simp [hvL]
theorem hvL_take (l : List HavD) : ∀ n, n ≤ l.length → hvL (l.take n) = (List.range (n * 3)).map fun q => nHv (hvx l) (q / 3) (q % 3)
 | 0, _ => by simp [hvL]
 | n + 1, h => by
  have hn : n < l.length := by omega
  rw [List.take_succ_eq_append_getElem hn, hvL_snoc, hvL_take l n (by omega), show (n + 1) * 3 = n * 3 + 1 + 1 + 1 by omega, List.range_succ, List.range_succ, List.range_succ]
  simp only [List.map_append, List.map_cons, List.map_nil, List.append_assoc, List.cons_append, List.nil_append]
  rw [show n * 3 / 3 = n by omega, show n * 3 % 3 = 0 by omega, show (n * 3 + 1) / 3 = n by omega, show (n * 3 + 1) % 3 = 1 by omega, show (n * 3 + 1 + 1) / 3 = n by omega, show (n * 3 + 1 + 1) % 3 = 2 by omega]
  have e : hvx l n = l[n] := by simp [hvx, List.getD_eq_getElem?_getD, List.getElem?_eq_getElem hn]
  simp only [nHv, e]
theorem hvL_eq (l : List HavD) : hvL l = (List.range (l.length * 3)).map fun q => nHv (hvx l) (q / 3) (q % 3) := by
 have := hvL_take l l.length (Nat.le_refl _)
 rwa [List.take_length] at this
theorem FliD.reach_in {F : FliD} {P : Nat} {lt tt : Tab} {t : Int} {p : Nat} (hok : F.ok P lt) (hl : LegIn P lt) (htt : TabIn P 51200 tt) (hp : p < P) (h0 : F.dep ≤ t) (h1 : t ≤ F.at_ lt (F.m - 1)) : -1 ≤ (F.reach lt tt t p).1 ∧ (F.reach lt tt t p).1 ≤ 100000 := by
 obtain ⟨hnu, hfl, hend⟩ := hok
 obtain ⟨hm, hd, -⟩ := FliD.nums_iff.1 hnu
 have hix := FliD.ix_le (F := F) (lt := lt) (t := t) (F.m - 1)
 have hixa := FliD.ix_at (F := F) (lt := lt) h0 (F.m - 1)
 have hat := fun i (hi : i < F.m) => FliD.at_in hl hd i ⟨fun j hj => hfl.1 j (by omega), fun j hj => hfl.2 j (by omega)⟩
 have hb := fun i (hi : i < F.m) => htt.1 (F.R i).toNat (by have := hfl.1 i hi; omega) p hp
 unfold FliD.reach
 have a1 := hat _ (show F.ix lt t (F.m - 1) < F.m by omega)
 have b1 := hb _ (show F.ix lt t (F.m - 1) < F.m by omega)
 have hlt := FliD.ix_lt (F := F) (lt := lt) (t := t) (F.m - 1)
 generalize F.ix lt t (F.m - 1) = i at *
 dsimp only
 split
 ·dsimp only; omega
 ·rename_i hne
  have him : i < F.m - 1 := by
   rcases Nat.lt_or_ge i (F.m - 1) with q | q
   ·exact q
   ·have : i = F.m - 1 := by omega
    subst this
    omega
  have a2 := hat (i + 1) (by omega)
  have b2 := hb (i + 1) (by omega)
  split <;> (dsimp only; omega)
theorem FliD.reach_congr {F : FliD} {P : Nat} {lt tt t2 : Tab} {t : Int} {p : Nat} (hm : 1 ≤ F.m) (hf : ∀ j, j < F.m → 0 ≤ F.R j ∧ F.R j < P) (hp : p < P) (h : ∀ i j, i < P → j < P → tt i j = t2 i j) (h0 : F.dep ≤ t) (h1 : t ≤ F.at_ lt (F.m - 1)) : F.reach lt tt t p = F.reach lt t2 t p := by
 have hix := FliD.ix_le (F := F) (lt := lt) (t := t) (F.m - 1)
 have hixa := FliD.ix_at (F := F) (lt := lt) h0 (F.m - 1)
 unfold FliD.reach
 generalize F.ix lt t (F.m - 1) = i at *
 have e1 : tt (F.R i).toNat p = t2 (F.R i).toNat p := h _ _ (by have := hf i (by omega); omega) hp
 dsimp only
 rw [e1]
 by_cases hc : t = F.at_ lt i
 ·rw [if_pos hc, if_pos hc]
 ·rw [if_neg hc, if_neg hc]
  have him : i < F.m - 1 := by
   rcases Nat.lt_or_ge i (F.m - 1) with q | q
   ·exact q
   ·have : i = F.m - 1 := by omega
    subst this
    omega
  rw [h _ _ (by have := hf (i + 1) (by omega); omega) hp]
theorem FliD.havK_congr {F : FliD} {P : Nat} {lt tt t2 : Tab} {op o2 : Nat → Int → Bool} {t : Int} {dry : Bool} (hm : 1 ≤ F.m) (hf : ∀ j, j < F.m → 0 ≤ F.R j ∧ F.R j < P) (h : ∀ i j, i < P → j < P → tt i j = t2 i j) (h0 : F.dep ≤ t) (h1 : t ≤ F.at_ lt (F.m - 1)) (ho : ∀ p a, p < P → op p a = o2 p a) : ∀ k, k ≤ P → F.havK lt tt op t dry k = F.havK lt t2 o2 t dry k
 | 0, _ => rfl
 | k + 1, hk => by
  have e := FliD.reach_congr (F := F) (lt := lt) hm hf (show k < P by omega) h h0 h1
  unfold FliD.havK FliD.havB FliD.hav1
  rw [FliD.havK_congr hm hf h h0 h1 ho k (by omega), e, ho k _ (by omega)]
theorem FliD.leaR_congr {F : FliD} {bf b2 : Int → Option HavD} : ∀ (n : Nat) (t m : Int), (∀ q : Int, t ≤ q → q < t + (n : Nat) → bf q = b2 q) → F.leaR bf n t m = F.leaR b2 n t m
 | 0, _, _, _ => rfl
 | n + 1, t, m, h => by
  unfold FliD.leaR
  rw [h t (Int.le_refl _) (by omega)]
  cases b2 t with
  | none => rfl
  | some x => exact FliD.leaR_congr n (t + 1) _ (fun q h1 h2 => h q (by omega) (by omega))
def rlO (t : Tab) : Nat → Tab
 | 0 => t
 | y + 1 => fun i j => rlxV (rlO t y i y) (rlO t y y j) (rlO t y i j)
theorem flO_rl {n : Nat} {t : Tab} (h : ∀ i, i < n → t i i = 0) : ∀ y, y ≤ n → (∀ i j, i < n → j < n → flO n y t i j = rlO t y i j) ∧ (∀ i, i < n → flO n y t i i = 0)
 | 0, _ => ⟨fun _ _ _ _ => rfl, h⟩
 | y + 1, hy => by
  obtain ⟨h1, h2⟩ := flO_rl h y (by omega)
  have hA : ∀ i j, i < n → j < n → flO n (y + 1) t i j = rlxV (flO n y t i y) (flO n y t y j) (flO n y t i j) := fun i j hi hj => by
   show flA n y n (flO n y t) i j = _
   rw [flA_at (by omega) (h2 y (by omega)) n i j hj, if_pos hi]
  refine ⟨fun i j hi hj => ?_, fun i hi => ?_⟩
  ·rw [hA i j hi hj, h1 i y hi (by omega), h1 y j (by omega) hj, h1 i j hi hj]; rfl
  ·rw [hA i i hi hi, h2 i hi]
   unfold rlxV
   split
   ·rw [if_neg (by omega)]
   ·rfl
def rxD (i j : Nat) : Int := nth (nthR [[2, 10, 30, 0, 0, 10, 1000, 2000, 1000, 3000], [0, 25, 60, 0, 0, 10, 1000, 2000, 1000, 3000]] i) j
def rxM : MetD := ⟨3, ⟨0, 10, 5000, 9000, 1000, 3000, false, false⟩, 0, 0, 0, 2, rxD, fun _ _ => false, 0, fun _ _ => 0, fun _ _ => false⟩
def rxS (i j : Nat) : Int := nth (nthR [[0, 1, 10], [1, 2, 8]] i) j
def rxF : FliD := ⟨3, fun i => nth [0, 1, 2] i, 0, 100, 2, 20⟩
def rxT (i j : Nat) : Int := nth (nthR [[0, 10, 18], [10, 0, 8], [18, 8, 0]] i) j
def rxO (p : Nat) (a : Int) : Bool := decide (opE rxM 20 3000 500 p a = 0) && openB (rxM.skyF (rxM.cov p a 2)) 20 3000 500 false false
theorem rx_stab0 (key : Nat → Int) : stab key [] = [] := by simp [stab]
theorem rx_stab1 (key : Nat → Int) (x : Nat) : stab key [x] = [x] := by simp [stab]
theorem rx_may (p : Nat) (hp : p < 3) (a : Int) : rxM.may p a = rxM.skyF (rxM.cov p a 2) := by
 unfold MetD.may MetD.ordS MetD.sen MetD.ordF
 have e1 : (List.range rxM.m).filter (rxM.senP p a) = [] := rfl
 rw [e1, rx_stab0]
 show rxM.skyF (stab _ (rxM.cov p a 2)) = _
 have e2 : ∃ x, rxM.cov p a 2 = [] ∨ rxM.cov p a 2 = [x] := by
  unfold MetD.cov
  show ∃ x, [0, 1].filter (rxM.covP p a) = [] ∨ [0, 1].filter (rxM.covP p a) = [x]
  have c : rxM.covP p a 0 = false ∨ rxM.covP p a 1 = false := by
   rcases (show p = 0 ∨ p ≠ 0 by omega) with q | q
   ·subst q; left; rfl
   ·right
    show (decide ((0 : Int) = p) && _) = false
    rw [decide_eq_false (by omega)]; rfl
  rcases c with c | c
  ·cases d : rxM.covP p a 1
   ·exact ⟨0, Or.inl (by simp [c, d])⟩
   ·exact ⟨1, Or.inr (by simp [c, d])⟩
  ·cases d : rxM.covP p a 0
   ·exact ⟨0, Or.inl (by simp [c, d])⟩
   ·exact ⟨0, Or.inr (by simp [c, d])⟩
 obtain ⟨x, e2 | e2⟩ := e2 <;> rw [e2]
 ·rw [rx_stab0]
 ·rw [rx_stab1]
theorem rx_open (p : Nat) (hp : p < 3) (a : Int) : openV rxM 20 3000 500 false false p a = rxO p a := by
 unfold openV rxO
 rw [rx_may p hp a]
theorem rx_dg : ∀ i, i < 3 → dgK (lgT rxS 2) 3 i i = 0 := fun i hi => by unfold dgK; rw [if_pos ⟨rfl, hi⟩]
theorem rx_tim (i j : Nat) (hi : i < 3) (hj : j < 3) : timT rxS 2 3 i j = rxT i j := by
 unfold timT
 rw [(flO_rl rx_dg 3 (Nat.le_refl _)).1 i j hi hj]
 have h : ∀ i, i < 3 → ∀ j, j < 3 → rlO (dgK (lgT rxS 2) 3) 3 i j = rxT i j := by decide +kernel
 exact h i hi j hj
theorem rx_route : ∀ j, j < rxF.m → 0 ≤ rxF.R j ∧ rxF.R j < (3 : Nat) := by
 show ∀ j, j < 3 → 0 ≤ nth [0, 1, 2] j ∧ nth [0, 1, 2] j < (3 : Nat)
 decide
theorem rx_arr : rxF.at_ (lgT rxS 2) 2 = 18 := by decide +kernel
theorem rx_netM : netME rxM 20 3000 500 rxS 2 = 0 := by kernel_rfl
theorem rx_nf : nfE 0 rxM rxS 2 rxF = 0 := by kernel_rfl
theorem rx_hav (t : Int) (dry : Bool) (h0 : 0 ≤ t) (h1 : t ≤ 18) : rxF.havK (lgT rxS 2) (timT rxS 2 3) (fun p a => openV rxM 20 3000 500 false false p a) t dry 3 = rxF.havK (lgT rxS 2) rxT rxO t dry 3 :=
 FliD.havK_congr (P := 3) (by decide) rx_route (fun i j hi hj => rx_tim i j hi hj) h0 (by show t ≤ rxF.at_ (lgT rxS 2) 2; rw [rx_arr]; exact h1) (fun p a hp => rx_open p hp a) 3 (Nat.le_refl _)
theorem rx_least : leaV (rxF.leaO (lgT rxS 2) (timT rxS 2 3) (fun p a => openV rxM 20 3000 500 false false p a) 3) = (72, 0) := by
 have e : rxF.leaO (lgT rxS 2) (timT rxS 2 3) (fun p a => openV rxM 20 3000 500 false false p a) 3 = rxF.leaR (fun t => bestL (rxF.havK (lgT rxS 2) rxT rxO t true 3)) 19 0 0 := by
  unfold FliD.leaO
  have e1 : rxF.ticks (lgT rxS 2) = 19 := by
   unfold FliD.ticks FliD.arr
   rw [show rxF.at_ (lgT rxS 2) (rxF.m - 1) = 18 from rx_arr]; rfl
  rw [e1]
  show rxF.leaR _ 19 0 0 = _
  refine FliD.leaR_congr 19 0 0 (fun q h1 h2 => ?_)
  rw [rx_hav q true h1 (by omega)]
 rw [e]
 decide +kernel
theorem rx_best : besV (bestL (rxF.havK (lgT rxS 2) (timT rxS 2 3) (fun p a => openV rxM 20 3000 500 false false p a) 12 false 3)) = (⟨1, 14, true⟩, 0) := by
 rw [rx_hav 12 false (by decide) (by decide)]
 kernel_rfl
end Go.Proofs.YtlabfpjlckdmfaaGreat

namespace Go.Proofs.YtlabfpjlckdmfaaGreat
open Go Go.RowKit Go.Proofs
def LegPos (lt : Tab) : Prop := ∀ i j, lt i j = -1 ∨ 1 ≤ lt i j
theorem FliD.at_lt {F : FliD} {P : Nat} {lt : Tab} (hl : LegPos lt) : ∀ i j, i < j → F.flown P lt (j + 1) → F.at_ lt i < F.at_ lt j
 | i, 0, h, _ => absurd h (Nat.not_lt_zero _)
 | i, j + 1, h, hf => by
  have h1 := hf.2 j (by omega)
  have h2 := hl (F.R j).toNat (F.R (j + 1)).toNat
  have e : F.at_ lt (j + 1) = F.at_ lt j + lt (F.R j).toNat (F.R (j + 1)).toNat := rfl
  by_cases q : i = j
  ·subst q; omega
  ·have := FliD.at_lt hl i j (by omega) ⟨fun k hk => hf.1 k (by omega), fun k hk => hf.2 k (by omega)⟩
   omega
theorem FliD.ix_is {F : FliD} {P : Nat} {lt : Tab} {t : Int} (hl : LegPos lt) (hf : F.flown P lt F.m) (h0 : F.dep ≤ t) {k : Nat} (hk : k < F.m) (h1 : F.at_ lt k ≤ t) (h2 : k + 1 < F.m → t < F.at_ lt (k + 1)) : F.ix lt t (F.m - 1) = k := by
 have a1 := FliD.ix_le (F := F) (lt := lt) (t := t) (F.m - 1)
 have a2 := FliD.ix_at (F := F) (lt := lt) h0 (F.m - 1)
 have a3 := FliD.ix_lt (F := F) (lt := lt) (t := t) (F.m - 1)
 generalize F.ix lt t (F.m - 1) = i at *
 have mono := fun i j (hij : i < j) (hj : j < F.m) => FliD.at_lt hl i j hij ⟨fun q hq => hf.1 q (by omega), fun q hq => hf.2 q (by omega)⟩
 have monoe := fun i j (hij : i ≤ j) (hj : j < F.m) => show F.at_ lt i ≤ F.at_ lt j by
  by_cases q : i = j
  ·subst q; exact Int.le_refl _
  ·have := mono i j (by omega) hj; omega
 rcases Nat.lt_trichotomy i k with q | q | q
 ·have h3 := a3 (by omega)
  have := monoe (i + 1) k (by omega) hk
  omega
 ·exact q
 ·have h3 := h2 (by omega)
  have := monoe (k + 1) i (by omega) (by omega)
  omega
def FliD.refR (F : FliD) (lt tt : Tab) (t : Int) (p : Nat) : Int × Bool := if (F.reach lt tt t p).2.2 = true then ((F.reach lt tt t p).1, (F.reach lt tt t p).2.1) else (-1, false)
def Joined (P : Nat) (lt tt : Tab) : Prop := ∀ a b p, a < P → b < P → p < P → 0 ≤ lt a b → (0 ≤ tt a p ↔ 0 ≤ tt b p)
theorem timT_joined {P l : Nat} {S : Tab} (h : NetOk P S l) : Joined P (lgT S l) (timT S l P) := by
 intro a b p ha hb hp h0
 have T := timT_tri h
 have hab : 0 ≤ timT S l P a b := by
  by_cases q : a = b
  ·subst q; rw [T.dg a ha]; exact Int.le_refl _
  ·have := T.leg a b ha hb (by unfold dgK; rw [if_neg (fun r => q r.1)]; exact h0)
   exact this.1
 have hba : 0 ≤ timT S l P b a := by rw [← T.sym a b ha hb]; exact hab
 exact ⟨fun h => (T.tri b p a hb hp ha ha hba h).1, fun h => (T.tri a p b ha hp hb hb hab h).1⟩
theorem lgT_pos {P l : Nat} {S : Tab} (h : NetOk P S l) : LegPos (lgT S l) := fun i j => by
 have := lgT_in h l (Nat.le_refl _) i j; omega
theorem FliD.refR_at {F : FliD} {P : Nat} {lt tt : Tab} {t : Int} {p k : Nat} (hl : LegPos lt) (hf : F.flown P lt F.m) (h0 : F.dep ≤ t) (hk : k < F.m) (h1 : F.at_ lt k = t) : F.refR lt tt t p = if 0 ≤ tt (F.R k).toNat p then (tt (F.R k).toNat p + t, false) else (-1, false) := by
 have hi := FliD.ix_is hl hf h0 hk (by omega) (fun h => by
  have := FliD.at_lt hl k (k + 1) (by omega) ⟨fun q hq => hf.1 q (by omega), fun q hq => hf.2 q (by omega)⟩
  omega)
 unfold FliD.refR FliD.reach
 rw [hi]
 dsimp only
 rw [if_pos h1.symm]
 dsimp only
 rw [h1]
 by_cases q : 0 ≤ tt (F.R k).toNat p
 ·rw [if_pos (decide_eq_true q), if_pos q, show t + (t - t) + tt (F.R k).toNat p = tt (F.R k).toNat p + t by omega, decide_eq_false (Int.lt_irrefl t)]
 ·rw [if_neg q, if_neg (by simpa using q)]
theorem FliD.refR_on {F : FliD} {P : Nat} {lt tt : Tab} {t : Int} {p k : Nat} (hl : LegPos lt) (hj : Joined P lt tt) (hp : p < P) (hf : F.flown P lt F.m) (h0 : F.dep ≤ t) (hk : k + 1 < F.m) (h1 : F.at_ lt k < t) (h2 : t < F.at_ lt (k + 1)) :
  F.refR lt tt t p = if tt (F.R k).toNat p < 0 then (-1, false) else if t + (t - F.at_ lt k) + tt (F.R k).toNat p < F.at_ lt (k + 1) + tt (F.R (k + 1)).toNat p then (t + (t - F.at_ lt k) + tt (F.R k).toNat p, true) else (F.at_ lt (k + 1) + tt (F.R (k + 1)).toNat p, false) := by
 have hi := FliD.ix_is hl hf h0 (by omega) (by omega) (fun _ => h2)
 have hr1 := hf.1 k (by omega)
 have hr2 := hf.1 (k + 1) hk
 have hJ := hj (F.R k).toNat (F.R (k + 1)).toNat p (by omega) (by omega) hp (hf.2 k hk)
 unfold FliD.refR FliD.reach
 rw [hi]
 dsimp only
 rw [if_neg (show ¬ t = F.at_ lt k by omega)]
 by_cases c : t + (t - F.at_ lt k) + tt (F.R k).toNat p < F.at_ lt (k + 1) + tt (F.R (k + 1)).toNat p
 ·rw [if_pos c]
  dsimp only
  by_cases q : tt (F.R k).toNat p < 0
  ·rw [if_pos q, if_neg (by simp; omega)]
  ·rw [if_neg q, if_pos (by simp; omega), decide_eq_true h1, if_pos c]
 ·rw [if_neg c]
  dsimp only
  by_cases q : tt (F.R k).toNat p < 0
  ·rw [if_pos q, if_neg (by simp; omega)]
  ·rw [if_neg q, if_pos (by simp; omega), if_neg c]
end Go.Proofs.YtlabfpjlckdmfaaGreat

namespace Go.Proofs.YtlabfpjlckdmfaaGreat
open Go Go.RowKit Go.Proofs
set_option maxRecDepth 100000
set_option maxHeartbeats 8000000
theorem r5lasts_c (F : FliD) (vR : Value) (t : Int) (w : World) (hn : F.nums = true) (ht : -1000000 ≤ t ∧ t ≤ 1000000) :
  Calls Tryz.prog 85 #[.agg #[vR, .int .i64 F.dep, .int .i64 F.fuel, .int .i64 F.burn, .int .i64 F.res], .int .i64 t] w fun e w' => e = .returned (.bool (F.lasts t)) ∧ RowKit.Below w.heap.size w w' := by
 obtain ⟨hm, hd, hf, hr, hb⟩ := FliD.nums_iff.1 hn
 unfold FliD.lasts
 generalize F.dep = dp at *
 generalize F.fuel = fu at *
 generalize F.burn = bu at *
 generalize F.res = re at *
 have hw1 : IntKind.i64.wrap (t - dp) = t - dp := by rw [IntKind.wrap_i64]; omega
 have hD : -1002000 ≤ t - dp ∧ t - dp ≤ 1002000 := by omega
 have hbd := mul_bd (A := 100000) (B := 1002000) (a := bu) (b := t - dp) (by omega) (by omega) hD.1 hD.2
 have hw2 : IntKind.i64.wrap (bu * (t - dp)) = bu * (t - dp) := by rw [IntKind.wrap_i64]; omega
 have hw3 : IntKind.i64.wrap (fu - bu * (t - dp)) = fu - bu * (t - dp) := by rw [IntKind.wrap_i64]; omega
 clear hbd hD hm hd hf hr hb ht hn
 go_enter Tryz.func85, Tryz.ntmps85
 go_wp2_with (fail)
 go_ret
 exact ⟨ret_bool (by simp), (by repeat' (first | exact Below.refl _ _ | assumption | refine Below.drew ?_ | refine bdn ?_ _ | refine bal ?_ _ | refine Below.setCell ?_ (by first | (simp; done) | omega | (simp; omega)) _))⟩
theorem r5Reach_c (M : MetD) (vF vS : Value) (A : Option Addr) (n c : Nat) (S : Tab) (P : Nat) (F : FliD) (vR : Value) (t : Int) (p : Nat) (w : World) (hc1 : n ≤ c) (hc2 : c ≤ 9223372036854775807) (hL : RecsAt w A n 3 (nV S)) (hR : SlI w vR F.m F.R) (hok : F.ok P (lgT S n)) (hN : NetOk P S n) (hMP : M.places = P) (hp8 : 1 ≤ P ∧ P ≤ 8) (hp : p < P) (h0 : F.dep ≤ t) (h1 : t ≤ F.at_ (lgT S n) (F.m - 1)) :
  Calls Tryz.prog 84 #[.agg #[.int .i64 M.places, .int .i64 M.any.a0, .int .i64 M.any.a1, .int .i64 M.any.a2, .int .i64 M.any.a3, .int .i64 M.any.a4, .int .i64 M.any.a5, .bool M.any.i, .bool M.any.s, .int .i64 M.mw, .int .i64 M.ms, .int .i64 M.mc, vF, vS], .slice A n c, .agg #[vR, .int .i64 F.dep, .int .i64 F.fuel, .int .i64 F.burn, .int .i64 F.res], .int .i64 t, .int .i64 p] w fun e w' => e = .returned (.tuple #[.int .i64 (F.refR (lgT S n) (timT S n P) t p).1, .bool (F.refR (lgT S n) (timT S n P) t p).2]) ∧ RowKit.Below w.heap.size w w' := by
 obtain ⟨hnu, hfl, hend⟩ := hok
 obtain ⟨hm, hd, -⟩ := FliD.nums_iff.1 hnu
 have hlb := FliD.legB_iff.2 hfl.2
 have hflc := fun w1 h1 h2 => r5flown_c A n c S P F vR w1 hc1 hc2 h1 h2 hN hm hd hfl.1
 rw [hlb] at hflc
 have htic := fun w1 h1 => r5times_c M vF vS A n c S P w1 hc1 hc2 h1 hN hMP hp8
 have hlin : LegIn P (lgT S n) := fun i j => by have := lgT_in hN n (Nat.le_refl _) i j; omega
 have hlp := lgT_pos hN
 have hjo := timT_joined hN
 have hti := timT_in hN hp8.2
 generalize lgT S n = lt at *
 generalize timT S n P = tt at *
 have hat := fun i (hi : i < F.m) => FliD.at_in hlin hd i ⟨fun j hj => hfl.1 j (by omega), fun j hj => hfl.2 j (by omega)⟩
 have HFL := hI9 hflc
 have HTI := hI9 htic
 have HRA := hI9 (fun k hk h1 => FliD.refR_at (F := F) (tt := tt) (t := t) (p := p) (k := k) hlp hfl h0 hk h1)
 have HRO := hI9 (fun k hk h1 h2 => FliD.refR_on (F := F) (tt := tt) (t := t) (p := p) (k := k) hlp hjo hp hfl h0 hk h1 h2)
 have HJ := hI9 hjo
 have HTT := hI9 hti.1
 have HFB := hI9 hfl
 have HAT := hI9 hat
 have HL := hI9 hL
 have HR := hI9 hR
 have HDP := hI9 h0
 obtain ⟨RR, hRR⟩ : ∃ q, q = F.refR lt tt t p := ⟨_, rfl⟩
 rw [← hRR]
 have HRR := hI9 hRR
 clear hRR
 obtain ⟨AR, cR, hvR, r1, r2, r3⟩ := hR
 obtain ⟨bR, oR, rfl, hbR, hcR⟩ := r3 (by omega)
 have HVR := hI9 hvR
 clear hvR
 have HCR := hI9 hcR
 clear hL hcR hti hjo hlp hlin hat hflc htic hlb hfl hnu hd hN hMP hend h0 r3
 go_enter Tryz.func84, Tryz.ntmps84
 go_wp2_with (fail)
 have _x := frm2 w #[.int .i64 M.places, .int .i64 M.any.a0, .int .i64 M.any.a1, .int .i64 M.any.a2, .int .i64 M.any.a3, .int .i64 M.any.a4, .int .i64 M.any.a5, .bool M.any.i, .bool M.any.s, .int .i64 M.mw, .int .i64 M.ms, .int .i64 M.mc, vF, vS] 29 #[vR, .int .i64 F.dep, .int .i64 F.fuel, .int .i64 F.burn, .int .i64 F.res] 37
 have HX := hI9 _x.1
 have HF := hI9 _x.2.1
 have HB := hI9 _x.2.2.1
 have zW := _x.2.2.2
 clear _x
 generalize World.alloc (World.alloc w _) _ = W at *
 go_wp2_with (refine wpl_row rfl 37 (.tmp 7) rfl _ rfl _ 5 HF.out Tryz.rowFli rfl ?_; simp only [Act.put])
 refine (HFL.out _ (HL.out.below HB.out) (HR.out.below HB.out)).mono ?_
 rintro e w2 ⟨v, rfl, hb2, hv⟩
 have HSA := hI9 (hv (by trivial))
 obtain ⟨A2, c2, rfl, e2, e3, e4⟩ := HSA.out
 clear hv e4
 have nHX := hI9 (HX.out.below hb2)
 have nHF := hI9 (HF.out.below hb2)
 have nHB := hI9 (bthen HB.out hb2)
 clear HX HF HB hb2
 have HX := nHX
 have HF := nHF
 have HB := nHB
 clear nHX nHF nHB
 go_wp2_with (refine wpl_row rfl 29 (.tmp 5) rfl _ rfl _ 14 HX.out Tryz.rowMet rfl ?_; simp only [Act.put])
 refine (HTI.out _ (HL.out.below HB.out)).mono ?_
 rintro e w3 ⟨v, rfl, hb3, hv⟩
 obtain ⟨gT, cT, lo, hi, rT, rfl, hs⟩ := hv
 have HSQ := hI9 hs
 have hsa := HSA.out.below hb3
 clear hs HSA
 obtain ⟨A3, c3, e5, -, -, e6⟩ := hsa
 simp only [Value.slice.injEq] at e5
 obtain ⟨rfl, -, rfl⟩ := e5
 obtain ⟨b2, o2, rfl, hbb, hc2⟩ := e6 (by omega)
 have HC := hI9 (fun j (hj : j < F.m) => show w3.cell? ⟨b2, o2 + j, none⟩ = some (.int .i64 (F.at_ lt j)) from by have := hc2 j hj 0 (by omega); rw [Nat.mul_one, Nat.add_zero] at this; exact this)
 clear hc2 e6 hbb
 have nHX := hI9 (HX.out.below hb3)
 have nHF := hI9 (HF.out.below hb3)
 have nHB := hI9 (bthen HB.out hb3)
 clear HX HF HB hb3
 have HX := nHX
 have HF := nHF
 have HB := nHB
 clear nHX nHF nHB
 have HCR2 := hI9 (fun j (hj : j < F.m) => show w3.cell? ⟨bR, oR + j, none⟩ = some (.int .i64 (F.R j)) from (HB.out.cell (p := ⟨bR, oR + j, none⟩) hbR).trans (by have := HCR.out j hj 0 (by omega); rw [Nat.mul_one, Nat.add_zero] at this; exact this))
 clear HCR HR HL HFL HTI
 have x0 := HF.out.cell 0
 simp only [List.getElem?_toArray, List.getElem?_cons_zero] at x0
 rw [HVR.out] at x0
 go_wp2_with (fail)
 go_loopg [15] F.m (fun gy iv wr => ∃ i : Nat, iv = .int .i64 i ∧ i < F.m ∧ F.m - i ≤ gy ∧ Hid (∀ j, j < i → F.at_ lt j < t) ∧ wr = w3)
 case atStart => exact ⟨0, rfl, by omega, Nat.sub_le _ _, hI9 (fun j hj => absurd hj (Nat.not_lt_zero _)), rfl⟩
 case round =>
  obtain ⟨i, rfl, hi, hgy, HLS, rfl⟩ := hrel
  have ca := HC.out i hi
  have hiz : (i : Int) < (F.m : Int) := by omega
  have hai := HAT.out i hi
  have hpz : (p : Int) < (P : Int) := by omega
  by_cases hc : F.at_ lt i < t
  case pos =>
   have him : i + 1 < F.m := by
    rcases Nat.lt_or_ge (i + 1) F.m with q | q
    ·exact q
    ·have e : F.m - 1 = i := by omega
     rw [e] at h1; omega
   have HLS2 := hI9 (fun j (hj : j < i + 1) => show F.at_ lt j < t by
    by_cases q : j = i
    ·subst q; exact hc
    ·exact HLS.out j (by omega))
   generalize F.at_ lt i = D at *
   go_wp2_with (fail)
   go_roundg (F.m - (i + 1))
   case measure => omega
   case rel => exact ⟨i + 1, by first | rfl | go_num | (congr 1; omega), him, Nat.le_refl _, HLS2, rfl⟩
  have hri := HFB.out.1 i hi
  obtain ⟨a, ha⟩ : ∃ a : Nat, F.R i = a := Int.eq_ofNat_of_zero_le hri.1
  have haP : a < P := by omega
  have haz : (a : Int) < (P : Int) := by omega
  have cr := HCR2.out i hi
  rw [ha] at cr
  obtain ⟨ca2, -, -, co⟩ := HSQ.out.o a haP
  have cc := HSQ.out.cell haP hp
  have hbu := HTT.out a haP p hp
  by_cases heq : F.at_ lt i = t
  case pos =>
   have hre := HRR.out.trans (HRA.out i hi heq)
   rw [ha, Int.toNat_natCast] at hre
   rw [heq] at ca hai
   generalize tt a p = u at *
   by_cases hu : 0 ≤ u
   ·rw [if_pos hu] at hre
    have HE := hI9 hre
    clear hre
    go_wp2_with (fail)
    go_ret2
    exact ⟨by rw [HE.out]; rfl, HB.out⟩
   ·rw [if_neg hu] at hre
    have HE := hI9 hre
    clear hre
    obtain rfl : u = -1 := by omega
    go_wp2_with (fail)
    go_ret2
    exact ⟨by rw [HE.out]; rfl, HB.out⟩
  obtain ⟨k, rfl⟩ : ∃ k, i = k + 1 := by
   rcases i with _ | k
   ·exact absurd (show F.at_ lt 0 = t from by have := HDP.out; have e : F.at_ lt 0 = F.dep := rfl; omega) heq
   ·exact ⟨k, rfl⟩
  have hkt := HLS.out k (by omega)
  have hre := HRR.out.trans (HRO.out k hi hkt (by omega))
  have hrk := HFB.out.1 k (by omega)
  obtain ⟨b, hb⟩ : ∃ b : Nat, F.R k = b := Int.eq_ofNat_of_zero_le hrk.1
  have hbP : b < P := by omega
  have hbz : (b : Int) < (P : Int) := by omega
  have crk := HCR2.out k (by omega)
  rw [hb] at crk
  have cak := HC.out k (by omega)
  have hak := HAT.out k (by omega)
  obtain ⟨cb2, -, -, cob⟩ := HSQ.out.o b hbP
  have ccb := HSQ.out.cell hbP hp
  have hbv := HTT.out b hbP p hp
  have hJ := HJ.out b a p hbP haP hp (by have := HFB.out.2 k hi; rw [hb, ha] at this; exact this)
  rw [ha, hb, Int.toNat_natCast, Int.toNat_natCast] at hre
  clear ha hb hri hrk
  have hk1 : (k : Int) + 1 - 1 = (k : Int) := by omega
  have hkm : (k : Int) < (F.m : Int) := by omega
  generalize tt a p = u at *
  generalize tt b p = v at *
  generalize F.at_ lt (k + 1) = D1 at *
  generalize F.at_ lt k = D0 at *
  have hwk : IntKind.i64.wrap ((k : Int) + 1 - 1) = (k : Int) := by rw [IntKind.wrap_i64]; omega
  by_cases hv : v < 0
  ·rw [if_pos hv] at hre
   have HE := hI9 hre
   clear hre
   obtain rfl : v = -1 := by omega
   obtain rfl : u = -1 := by omega
   go_wp2_with (fail)
   go_ret2
   exact ⟨by rw [HE.out]; rfl, HB.out⟩
  rw [if_neg hv] at hre
  have hu : 0 ≤ u := hJ.1 (by omega)
  by_cases hcm : t + (t - D0) + v < D1 + u
  ·rw [if_pos hcm] at hre
   have HE := hI9 (show RR = (v + (t + (t - D0)), true) by rw [hre]; congr 1; omega)
   clear hre
   have hcm2 : v + (t + (t - D0)) < u + D1 := by omega
   go_wp2_with (fail)
   go_ret2
   exact ⟨by rw [HE.out]; rfl, HB.out⟩
  ·rw [if_neg hcm] at hre
   have HE := hI9 (show RR = (u + D1, false) by rw [hre]; congr 1; omega)
   clear hre
   have hcm2 : ¬ v + (t + (t - D0)) < u + D1 := by omega
   go_wp2_with (fail)
   go_ret2
   exact ⟨by rw [HE.out]; rfl, HB.out⟩
end Go.Proofs.YtlabfpjlckdmfaaGreat
