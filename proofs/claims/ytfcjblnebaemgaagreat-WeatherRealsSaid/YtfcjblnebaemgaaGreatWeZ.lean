/- Plain law: the example of weather. No program is imported here but through its contracts. -/
import Derived.Test.YtfcjblnebaemgaaGreatWeY
set_option linter.all false
namespace Go.Proofs.YtfcjblnebaemgaaGreat
open Go Go.RowKit Go.Proofs

def exD (i j : Nat) : Int := nth (nthR [[0, 0, 20, 0, 10, 30, 4000, 8000, 500, 2000], [0, 10, 20, 5, 25, 40, 1000, 3000, 300, 900]] i) j
def exE (i j : Nat) : Int := nth (nthR [[1, 4, 20, 6000, 1500]] i) j
def exM : MetD := ⟨2, ⟨0, 60, 0, 10000, 0, 3000, true, true⟩, 5, 1000, 200, 2, exD, fun _ _ => false, 1, exE, fun _ _ => false⟩
theorem stab_nil (key : Nat → Int) : stab key [] = [] := by simp [stab]
theorem stab_one (key : Nat → Int) (x : Nat) : stab key [x] = [x] := by simp [stab]
theorem stab_two (key : Nat → Int) (x y : Nat) (h : keyLt key (fun i => (i : Int)) y x = false) : stab key [x, y] = [x, y] := by
  unfold stab
  refine List.mergeSort_of_pairwise ?_
  simp [h]
def exO (t : Int) : Bool := openB (exM.may 0 t) 35 3000 400 false false
theorem exCov1 {t : Int} (h : inB t 0 9 = true) : exM.ordF 0 t = [0] := by
  obtain ⟨h1, h2⟩ := inB_iff.1 h
  unfold MetD.ordF MetD.cov
  have e : (List.range exM.n).filter (exM.covP 0 t) = [0] := by
    show [0, 1].filter (exM.covP 0 t) = [0]
    have c0 : exM.covP 0 t 0 = true := by
      show (decide ((0 : Int) = 0) && inB t 0 (20 - 1)) = true
      rw [Bool.and_eq_true, inB_iff]; exact ⟨rfl, by omega⟩
    have c1 : exM.covP 0 t 1 = false := by
      show (decide ((0 : Int) = 0) && inB t 10 (20 - 1)) = false
      rw [Bool.and_eq_false_iff]; right
      cases hh : inB t 10 (20 - 1)
      · rfl
      · have := inB_iff.1 hh; omega
    simp [c0, c1]
  rw [e, stab_one]
theorem exSen (t : Int) : exM.ordS 0 t = [] := by
  unfold MetD.ordS MetD.sen
  have e : (List.range exM.m).filter (exM.senP 0 t) = [] := by
    show [0].filter (exM.senP 0 t) = []
    have c0 : exM.senP 0 t 0 = false := by
      show (decide ((1 : Int) = 0) && _) = false
      rfl
    simp [c0]
  rw [e, stab_nil]
theorem exO1 {t : Int} (h : inB t 0 9 = true) : exO t = true := by
  unfold exO MetD.may
  rw [exCov1 h, exSen]
  rfl
theorem exCov2 {t : Int} (h : inB t 10 19 = true) : exM.ordF 0 t = [0, 1] := by
  obtain ⟨h1, h2⟩ := inB_iff.1 h
  unfold MetD.ordF MetD.cov
  have e : (List.range exM.n).filter (exM.covP 0 t) = [0, 1] := by
    show [0, 1].filter (exM.covP 0 t) = [0, 1]
    have c0 : exM.covP 0 t 0 = true := by
      show (decide ((0 : Int) = 0) && inB t 0 (20 - 1)) = true
      rw [Bool.and_eq_true, inB_iff]; exact ⟨rfl, by omega⟩
    have c1 : exM.covP 0 t 1 = true := by
      show (decide ((0 : Int) = 0) && inB t 10 (20 - 1)) = true
      rw [Bool.and_eq_true, inB_iff]; exact ⟨rfl, by omega⟩
    simp [c0, c1]
  rw [e, stab_two _ _ _ (by rfl)]
theorem exO2 {t : Int} (h : inB t 10 19 = true) : exO t = false := by
  unfold exO MetD.may
  rw [exCov2 h, exSen]
  rfl
theorem firR_open {op : Int → Bool} {stay : Int} : ∀ (k n : Nat) (t c : Int), n ≤ k → 0 ≤ c → c + n = stay + 1 → 0 < n → (∀ q : Int, t ≤ q → q < t + n → op q = true) → firR op stay k t c = (t + n - 1 - stay, 0)
  | 0, n, t, c, hn, _, _, h0, _ => by omega
  | k + 1, n, t, c, hn, hc, he, h0, ho => by
    unfold firR
    rw [ho t (Int.le_refl _) (by omega), if_pos rfl]
    by_cases h1 : n = 1
    · subst h1
      rw [if_pos (by omega)]
      congr 1
      omega
    · rw [if_neg (by omega), firR_open k (n - 1) (t + 1) (c + 1) (by omega) (by omega) (by omega) (by omega) (fun q q1 q2 => ho q (by omega) (by omega))]
      congr 1
      omega
theorem exFirst : firR exO 9 2001 0 0 = (0, 0) := by
  rw [firR_open 2001 10 0 0 (by omega) (by omega) (by omega) (by omega) (fun q q1 q2 => exO1 (inB_iff.2 ⟨by omega, by omega⟩))]
  rfl
theorem winR_succ (op : Int → Bool) (k : Nat) (t : Int) (out : List (Int × Int)) : winR op (k + 1) t out = winR op k (t + 1) (if op t then winA out t else out) := rfl
theorem winR_open {op : Int → Bool} (a : Int) : ∀ (n k : Nat) (t : Int), (∀ q : Int, t ≤ q → q < t + n → op q = true) → winR op (n + k) t [(a, t - 1)] = winR op k (t + n) [(a, t + n - 1)]
  | 0, k, t, _ => by simp
  | n + 1, k, t, h => by
    rw [show n + 1 + k = (n + k) + 1 by omega, winR_succ, h t (Int.le_refl _) (by omega), if_pos rfl]
    have e : winA [(a, t - 1)] t = [(a, (t + 1) - 1)] := by simp [winA]
    rw [e, winR_open a n k (t + 1) (fun q q1 q2 => h q (by omega) (by omega))]
    rw [show t + 1 + (n : Int) = t + ((n + 1 : Nat) : Int) by omega]
theorem winR_shut {op : Int → Bool} (l : List (Int × Int)) : ∀ (n : Nat) (t : Int), (∀ q : Int, t ≤ q → q < t + n → op q = false) → winR op n t l = l
  | 0, t, _ => rfl
  | n + 1, t, h => by
    unfold winR
    rw [h t (Int.le_refl _) (by omega), if_neg (by decide)]
    exact winR_shut l n (t + 1) (fun q q1 q2 => h q (by omega) (by omega))
theorem exWindows : winR exO 20 0 [] = [(0, 9)] := by
  show winR exO (9 + 10 + 1) 0 [] = [(0, 9)]
  rw [winR_succ, exO1 (by rfl), if_pos rfl]
  have e : winA [] 0 = [((0 : Int), (0 : Int) + 1 - 1)] := rfl
  rw [e, winR_open 0 9 10 (0 + 1) (fun q q1 q2 => exO1 (inB_iff.2 ⟨by omega, by omega⟩)), winR_shut _ 10 _ (fun q q1 q2 => exO2 (inB_iff.2 ⟨by omega, by omega⟩))]
  rfl
end Go.Proofs.YtfcjblnebaemgaaGreat
