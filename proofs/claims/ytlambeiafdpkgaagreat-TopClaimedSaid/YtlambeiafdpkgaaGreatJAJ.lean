/- Texts joined: JAJ. -/
import Derived.Test.YtlambeiafdpkgaaGreatJAI
import Derived.Test.YtlambeiafdpkgaaGreatProg
import Derived.Shelf.Sort.Plain
import Derived.Shelf.Slices.In.SortNone
import Derived.Test.YtlambeiafdpkgaaGreatJAF
set_option linter.all false
namespace Go.Proofs.YtlambeiafdpkgaaGreat
open Go Go.RowKit Go.Proofs
structure Sk where
 a0 : Int
 a1 : Int
 a2 : Int
 a3 : Int
 a4 : Int
 a5 : Int
 i : Bool
 s : Bool
def Sk.ok (x : Sk) : Prop := vspan x.a0 x.a1 = true ∧ vspan x.a2 x.a3 = true ∧ vspan x.a4 x.a5 = true
def Sk.cells (x : Sk) : Array Value := #[.int .i64 x.a0, .int .i64 x.a1, .int .i64 x.a2, .int .i64 x.a3, .int .i64 x.a4, .int .i64 x.a5, .bool x.i, .bool x.s]
def Sk.cut (x b : Sk) : Sk := ⟨cuL x.a0 x.a1 b.a0 b.a1, cuH x.a0 x.a1 b.a0 b.a1, cuL x.a2 x.a3 b.a2 b.a3, cuH x.a2 x.a3 b.a2 b.a3, cuL x.a4 x.a5 b.a4 b.a5, cuH x.a4 x.a5 b.a4 b.a5, x.i, x.s⟩
def Sk.odd (x b : Sk) : Bool := skF x.a0 x.a1 x.a2 x.a3 x.a4 x.a5 b.a0 b.a1 b.a2 b.a3 b.a4 b.a5
structure MetD where
 places : Int
 any : Sk
 mw : Int
 ms : Int
 mc : Int
 n : Nat
 D : Nat → Nat → Int
 B : Nat → Nat → Bool
 m : Nat
 E : Nat → Nat → Int
 C : Nat → Nat → Bool
def fcV (D : Nat → Nat → Int) (B : Nat → Nat → Bool) (i j : Nat) : Value := if j < 10 then .int .i64 (D i j) else .bool (B i j)
def siV (E : Nat → Nat → Int) (C : Nat → Nat → Bool) (i j : Nat) : Value := if j < 5 then .int .i64 (E i j) else .bool (C i j)
def MetD.fc (M : MetD) (i : Nat) : Sk := ⟨M.D i 4, M.D i 5, M.D i 6, M.D i 7, M.D i 8, M.D i 9, M.B i 10, M.B i 11⟩
def MetD.covP (M : MetD) (p t : Int) (i : Nat) : Bool := decide (M.D i 0 = p) && inB t (M.D i 1) (M.D i 2 - 1)
def MetD.cov (M : MetD) (p t : Int) (k : Nat) : List Nat := (List.range k).filter (M.covP p t)
def MetD.ordF (M : MetD) (p t : Int) : List Nat := stab (fun i => M.D i 3) (M.cov p t M.n)
def MetD.stepF (M : MetD) (x : Sk) (i : Nat) : Sk := { x.cut (M.fc i) with i := x.i && M.B i 10, s := x.s && M.B i 11 }
def MetD.skyF (M : MetD) (l : List Nat) : Sk := l.foldl M.stepF M.any
def MetD.oddF (M : MetD) : Sk → List Nat → List Nat
 | _, [] => []
 | x, i :: l => if x.odd (M.fc i) then i :: M.oddF (M.stepF x i) l else M.oddF (M.stepF x i) l
def MetD.senP (M : MetD) (p t : Int) (i : Nat) : Bool := decide (M.E i 0 = p) && decide (M.E i 1 ≤ t)
def MetD.sen (M : MetD) (p t : Int) (k : Nat) : List Nat := (List.range k).filter (M.senP p t)
def MetD.ordS (M : MetD) (p t : Int) : List Nat := stab (fun i => M.E i 1) (M.sen p t M.m)
def MetD.si (M : MetD) (t : Int) (i : Nat) : Sk := ⟨neL (M.E i 2) ((t - M.E i 1) * M.mw) 300, neH (M.E i 2) ((t - M.E i 1) * M.mw) 300, neL (M.E i 3) ((t - M.E i 1) * M.ms) 20000, neH (M.E i 3) ((t - M.E i 1) * M.ms) 20000,
 neL (M.E i 4) ((t - M.E i 1) * M.mc) 20000, neH (M.E i 4) ((t - M.E i 1) * M.mc) 20000, false, false⟩
def MetD.stepS (M : MetD) (t : Int) (x : Sk) (i : Nat) : Sk := if t - M.E i 1 = 0 then { x.cut (M.si t i) with i := M.C i 5, s := M.C i 6 } else x.cut (M.si t i)
def MetD.may (M : MetD) (p t : Int) : Sk := (M.ordS p t).foldl (M.stepS t) (M.skyF (M.ordF p t))
def MetD.odd (M : MetD) (p t : Int) : List Nat := M.oddF M.any (M.ordF p t)
def Sk.inr (x : Sk) : Bool := insB x.a0 x.a1 300 && (insB x.a2 x.a3 20000 && insB x.a4 x.a5 20000)
structure MetD.Ok (M : MetD) : Prop where
 places : 1 ≤ M.places ∧ M.places ≤ 8
 any : M.any.inr = true
 mw : 0 ≤ M.mw ∧ M.mw ≤ 20000
 ms : 0 ≤ M.ms ∧ M.ms ≤ 20000
 mc : 0 ≤ M.mc ∧ M.mc ≤ 20000
 n : M.n ≤ 40
 m : M.m ≤ 20
 fp : ∀ i, i < M.n → 0 ≤ M.D i 0 ∧ M.D i 0 ≤ M.places - 1
 ff : ∀ i, i < M.n → 0 ≤ M.D i 1 ∧ M.D i 1 ≤ 2000
 ft : ∀ i, i < M.n → 0 ≤ M.D i 2 ∧ M.D i 2 ≤ 2000
 fi : ∀ i, i < M.n → 0 ≤ M.D i 3 ∧ M.D i 3 ≤ 2000
 fl : ∀ i, i < M.n → M.D i 1 < M.D i 2
 fs : ∀ i, i < M.n → (M.fc i).inr = true
 sp : ∀ i, i < M.m → 0 ≤ M.E i 0 ∧ M.E i 0 ≤ M.places - 1
 sa : ∀ i, i < M.m → 0 ≤ M.E i 1 ∧ M.E i 1 ≤ 2000
 sw : ∀ i, i < M.m → 0 ≤ M.E i 2 ∧ M.E i 2 ≤ 300
 ss : ∀ i, i < M.m → 0 ≤ M.E i 3 ∧ M.E i 3 ≤ 20000
 sc : ∀ i, i < M.m → 0 ≤ M.E i 4 ∧ M.E i 4 ≤ 20000
theorem insB_iff {lo hi m : Int} : insB lo hi m = true ↔ vspan lo hi = true ∧ 0 ≤ lo ∧ lo ≤ m ∧ hi ≤ m := by
 unfold insB; simp only [Bool.and_eq_true, decide_eq_true_eq, inB_iff]
 exact ⟨fun ⟨a, ⟨b, c⟩, d⟩ => ⟨a, b, c, d⟩, fun ⟨a, b, c, d⟩ => ⟨a, ⟨b, c⟩, d⟩⟩
theorem Sk.inr_ok {x : Sk} (h : x.inr = true) : x.ok := by
 unfold Sk.inr at h
 simp only [Bool.and_eq_true] at h
 exact ⟨(insB_iff.1 h.1).1, (insB_iff.1 h.2.1).1, (insB_iff.1 h.2.2).1⟩
theorem cu_ok {al ah bl bh m : Int} (ha : insB al ah m = true) (hb : insB bl bh m = true) : insB (cuL al ah bl bh) (cuH al ah bl bh) m = true := by
 rw [insB_iff, vspan_iff'] at *
 unfold cuL cuH
 split <;> omega
theorem Sk.cut_inr {x b : Sk} (h : x.inr = true) (hb : b.inr = true) : (x.cut b).inr = true := by
 unfold Sk.inr at *
 simp only [Bool.and_eq_true] at *
 exact ⟨cu_ok h.1 hb.1, cu_ok h.2.1 hb.2.1, cu_ok h.2.2 hb.2.2⟩
theorem ne_ok {n d m : Int} (h0 : 0 ≤ n) (h1 : n ≤ m) (h2 : 0 ≤ d) (h3 : m ≤ 1000000) : insB (neL n d m) (neH n d m) m = true := by
 rw [insB_iff, vspan_iff']
 unfold neL neH
 omega
theorem MetD.Ok.stepF {M : MetD} (h : M.Ok) {x : Sk} (hx : x.inr = true) {i : Nat} (hi : i < M.n) : (M.stepF x i).inr = true := by
 have := Sk.cut_inr hx (h.fs i hi)
 exact this
theorem MetD.Ok.si {M : MetD} (h : M.Ok) {t : Int} {i : Nat} (hi : i < M.m) (ht : M.E i 1 ≤ t) : (M.si t i).inr = true := by
 have a := h.sw i hi
 have b := h.ss i hi
 have c := h.sc i hi
 have d : 0 ≤ t - M.E i 1 := by omega
 have e1 := Int.mul_nonneg d h.mw.1
 have e2 := Int.mul_nonneg d h.ms.1
 have e3 := Int.mul_nonneg d h.mc.1
 unfold Sk.inr MetD.si
 simp only [Bool.and_eq_true]
 exact ⟨ne_ok a.1 a.2 e1 (by omega), ne_ok b.1 b.2 e2 (by omega), ne_ok c.1 c.2 e3 (by omega)⟩
theorem MetD.Ok.stepS {M : MetD} (h : M.Ok) {t : Int} {x : Sk} (hx : x.inr = true) {i : Nat} (hi : i < M.m) (ht : M.E i 1 ≤ t) : (M.stepS t x i).inr = true := by
 have := Sk.cut_inr hx (h.si hi ht)
 unfold MetD.stepS
 split
 ·exact this
 ·exact this
theorem stab_mem {key : Nat → Int} {l : List Nat} {x : Nat} : x ∈ stab key l ↔ x ∈ l := by unfold stab; exact List.mem_mergeSort
theorem MetD.cov_lt {M : MetD} {p t : Int} {k i : Nat} (h : i ∈ M.cov p t k) : i < k := by
 unfold MetD.cov at h; exact List.mem_range.1 (List.mem_filter.1 h).1
theorem MetD.sen_lt {M : MetD} {p t : Int} {k i : Nat} (h : i ∈ M.sen p t k) : i < k ∧ M.E i 1 ≤ t := by
 unfold MetD.sen at h
 have h2 := (List.mem_filter.1 h).2
 unfold MetD.senP at h2
 simp only [Bool.and_eq_true, decide_eq_true_eq] at h2
 exact ⟨List.mem_range.1 (List.mem_filter.1 h).1, h2.2⟩
theorem MetD.cov_succ (M : MetD) (p t : Int) (k : Nat) : M.cov p t (k + 1) = M.cov p t k ++ (if M.covP p t k then [k] else []) := by
 unfold MetD.cov; rw [List.range_succ, List.filter_append]; simp [List.filter]; cases M.covP p t k <;> rfl
theorem MetD.sen_succ (M : MetD) (p t : Int) (k : Nat) : M.sen p t (k + 1) = M.sen p t k ++ (if M.senP p t k then [k] else []) := by
 unfold MetD.sen; rw [List.range_succ, List.filter_append]; simp [List.filter]; cases M.senP p t k <;> rfl
theorem MetD.cov_len (M : MetD) (p t : Int) (k : Nat) : (M.cov p t k).length ≤ k := by
 unfold MetD.cov; exact Nat.le_trans (List.length_filter_le _ _) (by simp)
theorem MetD.sen_len (M : MetD) (p t : Int) (k : Nat) : (M.sen p t k).length ≤ k := by
 unfold MetD.sen; exact Nat.le_trans (List.length_filter_le _ _) (by simp)
theorem MetD.cov_inc (M : MetD) (p t : Int) (k : Nat) : (M.cov p t k).Pairwise (· < ·) := List.Pairwise.filter _ List.pairwise_lt_range
theorem MetD.sen_inc (M : MetD) (p t : Int) (k : Nat) : (M.sen p t k).Pairwise (· < ·) := List.Pairwise.filter _ List.pairwise_lt_range
end Go.Proofs.YtlambeiafdpkgaaGreat

namespace Go.Proofs.YtlambeiafdpkgaaGreat
open Go Go.Shelf Go.RowKit Go.Proofs
def Tryz.laysSort_ren : Go.Shelf.Ren := ⟨fun | 189 => 117 | 125 => 162 | 257 => 161 | 128 => 188 | 129 => 189 | 294 => 179 | 295 => 180 | 296 => 181 | 297 => 182 | 298 => 183 | 299 => 184 | 216 => 185 | 300 => 186 | 301 => 187 | 328 => 194 | 329 => 195 | 330 => 196 | 331 => 197 | 332 => 198 | 215 => 128 | 343 => 203 | n => n, fun | 28 => 35 | 3 => 3 | 46 => 233 | 0 => 0 | 51 => 258 | 53 => 260 | 4 => 4 | 183 => 251 | 182 => 250 | 131 => 255 | 5 => 5 | 9 => 9 | 218 => 264 | 222 => 268 | 228 => 274 | 229 => 275 | n => n, fun | n => n⟩
theorem Tryz.laysSort : Go.Proofs.Lays.n189 Tryz.prog Tryz.laysSort_ren := {
 mixed := by kernel_rfl
 f125 := Tryz.func162.trans (congrArg some (by kernel_rfl))
 f128 := Tryz.func188.trans (congrArg some (by kernel_rfl))
 f129 := Tryz.func189.trans (congrArg some (by kernel_rfl))
 f189 := Tryz.func117.trans (congrArg some (by kernel_rfl))
 f215 := Tryz.func128.trans (congrArg some (by kernel_rfl))
 f216 := Tryz.func185.trans (congrArg some (by kernel_rfl))
 f257 := Tryz.func161.trans (congrArg some (by kernel_rfl))
 f294 := Tryz.func179.trans (congrArg some (by kernel_rfl))
 f295 := Tryz.func180.trans (congrArg some (by kernel_rfl))
 f296 := Tryz.func181.trans (congrArg some (by kernel_rfl))
 f297 := Tryz.func182.trans (congrArg some (by kernel_rfl))
 f298 := Tryz.func183.trans (congrArg some (by kernel_rfl))
 f299 := Tryz.func184.trans (congrArg some (by kernel_rfl))
 f300 := Tryz.func186.trans (congrArg some (by kernel_rfl))
 f301 := Tryz.func187.trans (congrArg some (by kernel_rfl))
 f328 := Tryz.func194.trans (congrArg some (by kernel_rfl))
 f329 := Tryz.func195.trans (congrArg some (by kernel_rfl))
 f330 := Tryz.func196.trans (congrArg some (by kernel_rfl))
 f331 := Tryz.func197.trans (congrArg some (by kernel_rfl))
 f332 := Tryz.func198.trans (congrArg some (by kernel_rfl))
 f343 := Tryz.func203.trans (congrArg some (by kernel_rfl))
 t0 := Tryz.underlying0
 a0 := Tryz.isAgg0
 z0 := Tryz.sizeOf0
 v0 := Tryz.zeroValue0
 t3 := Tryz.underlying3
 a3 := Tryz.isAgg3
 z3 := Tryz.sizeOf3
 v3 := Tryz.zeroValue3
 t4 := Tryz.underlying4
 a4 := Tryz.isAgg4
 z4 := Tryz.sizeOf4
 v4 := Tryz.zeroValue4
 t5 := Tryz.underlying5
 a5 := Tryz.isAgg5
 z5 := Tryz.sizeOf5
 v5 := Tryz.zeroValue5
 t9 := Tryz.underlying9
 a9 := Tryz.isAgg9
 z9 := Tryz.sizeOf9
 v9 := Tryz.zeroValue9
 t28 := Tryz.underlying35
 a28 := Tryz.isAgg35
 z28 := Tryz.sizeOf35
 v28 := Tryz.zeroValue35
 t46 := Tryz.underlying233
 a46 := Tryz.isAgg233
 z46 := Tryz.sizeOf233
 v46 := Tryz.zeroValue233
 t51 := Tryz.underlying258
 a51 := Tryz.isAgg258
 z51 := Tryz.sizeOf258
 v51 := Tryz.zeroValue258
 t53 := Tryz.underlying260
 a53 := Tryz.isAgg260
 z53 := Tryz.sizeOf260
 v53 := Tryz.zeroValue260
 t131 := Tryz.underlying255
 a131 := Tryz.isAgg255
 z131 := Tryz.sizeOf255
 v131 := Tryz.zeroValue255
 t182 := Tryz.underlying250
 a182 := Tryz.isAgg250
 z182 := Tryz.sizeOf250
 v182 := Tryz.zeroValue250
 t183 := Tryz.underlying251
 a183 := Tryz.isAgg251
 z183 := Tryz.sizeOf251
 v183 := Tryz.zeroValue251
 t218 := Tryz.underlying264
 a218 := Tryz.isAgg264
 z218 := Tryz.sizeOf264
 v218 := Tryz.zeroValue264
 t222 := Tryz.underlying268
 a222 := Tryz.isAgg268
 z222 := Tryz.sizeOf268
 v222 := Tryz.zeroValue268
 t228 := Tryz.underlying274
 a228 := Tryz.isAgg274
 z228 := Tryz.sizeOf274
 v228 := Tryz.zeroValue274
 t229 := Tryz.underlying275
 a229 := Tryz.isAgg275
 z229 := Tryz.sizeOf275
 v229 := Tryz.zeroValue275 }
theorem sortI_c (blk off cap : Nat) (zs : List Int) (w : World) (hH : Sort.Holds (Value.int .i64) w blk off zs.toArray) (hblk : blk < w.heap.size) (hsz : zs.length < 4611686018427387904) :
  Calls Tryz.prog 117 #[.slice (some ⟨blk, off, none⟩) zs.length cap] w fun e w' =>
   e = .returned (.tuple #[]) ∧ ∃ n os, w' = Sort.grow (Sort.putRow (Value.int .i64) (Sort.ahead w n) blk off (zs.mergeSort fun x y => decide (x ≤ y)).toArray) os :=
 Any.slices_Sort_int Tryz.laysSort blk off cap zs w hH hblk hsz
theorem sortI_none_c (p : Option Addr) (cap : Nat) (w : World) : Calls Tryz.prog 117 #[.slice p 0 cap] w fun e w' => e = .returned (.tuple #[]) ∧ w' = w :=
 Any.slices_Sort_int_none Tryz.laysSort p cap w
open Go.Lib Go.Sort in
theorem sortOdd_c (base : Nat) (v : Value) (xs : List Nat) (w : World) (hown : w.ownsRow base 3 1 v xs.length (xs.map encN)) (hnil : v = .slice none 0 0 ↔ xs = []) (hlt : ∀ x ∈ xs, x < 1000000) (h40 : xs.length ≤ 40) :
  Calls Tryz.prog 117 #[v] w fun e w' => e = .returned (.tuple #[]) ∧ w.grownBy w' v.ownBlock ∧ Ints w' v ((xs.mergeSort (fun x y => decide (castI x ≤ castI y))).map castI) := by
 by_cases he : xs = []
 ·subst he
  obtain rfl := hnil.2 rfl
  refine (sortI_none_c none 0 w).mono ?_
  rintro _ _ ⟨rfl, rfl⟩
  refine ⟨rfl, ⟨rfl, rfl, rfl, Nat.le_refl _, fun _ _ _ => rfl⟩, ⟨none, 0, ?_, ?_, by omega, fun x hx => ?_, fun h => ?_⟩⟩
  ·simp
  ·simp
  ·simp at hx
  ·simp at h
 ·have hvne : v ≠ .slice none 0 0 := fun e => he (hnil.1 e)
  have e0 : xs.map encN = (xs.map castI).map (Value.int .i64) := by rw [List.map_map]; rfl
  rw [e0] at hown
  obtain ⟨b, cap, rfl, hb1, hb2, hb3, hb4, hb5, hH⟩ := holds_of_ownsRow (enc := Value.int .i64) hown hvne
  have hl : (xs.map castI).length = xs.length := List.length_map _
  have hs := sortI_c b 0 cap (xs.map castI) w hH hb2 (by rw [hl]; omega)
  rw [hl] at hs
  refine hs.mono ?_
  rintro _ w' ⟨rfl, n, os, hw⟩
  have hS : SW (Value.int .i64) w b 0 ((xs.map castI).mergeSort fun x y => decide (x ≤ y)).toArray w' := ⟨n, os, hw⟩
  have em : (xs.mergeSort (fun x y => decide (castI x ≤ castI y))).map castI = (xs.map castI).mergeSort (fun x y => decide (x ≤ y)) := List.map_mergeSort (fun a _ c _ => rfl)
  rw [em]
  have hz : ((xs.map castI).mergeSort fun x y => decide (x ≤ y)).toArray.size = (xs.map castI).toArray.size := by simp
  have hH2 := hS.holds hb2 hH hz
  refine ⟨rfl, sw_grown hS, some ⟨b, 0, none⟩, cap, ?_, ?_, ?_, fun x hx => ?_, fun h => ⟨b, 0, rfl, hS.lt hb2, fun k hk => ?_⟩⟩
  ·simp
  ·simp; omega
  ·unfold maxLen at hb4; omega
  ·rw [List.mem_mergeSort, List.mem_map] at hx
   obtain ⟨a, ha, rfl⟩ := hx
   have := hlt a ha
   unfold I64 castI
   omega
  ·have hk2 : k < ((xs.map castI).mergeSort fun x y => decide (x ≤ y)).toArray.size := by simpa using hk
   rw [(hH2 k hk2).1]
   show some _ = some (Value.int .i64 (nth _ k))
   rw [nth_getElem _ _ (by simpa using hk)]
   have hk3 : k < xs.length := by simpa using hk
   simp [hk3]
end Go.Proofs.YtlambeiafdpkgaaGreat

namespace Go.Proofs.YtlambeiafdpkgaaGreat
open Go Go.RowKit Go.Proofs
set_option maxRecDepth 100000
set_option maxHeartbeats 4000000
theorem sky_c (x : Sk) (w : World) : Calls Tryz.prog 139 #[.agg #[.int .i64 x.a0, .int .i64 x.a1, .int .i64 x.a2, .int .i64 x.a3, .int .i64 x.a4, .int .i64 x.a5, .bool x.i, .bool x.s]] w fun e w' => e = .returned (.bool x.inr) ∧ Below w.heap.size w w' := by
 obtain ⟨a0, a1, a2, a3, a4, a5, xi, xs⟩ := x
 have h1 := fun w1 => inside_c a0 a1 300 w1
 have h2 := fun w1 => inside_c a2 a3 20000 w1
 have h3 := fun w1 => inside_c a4 a5 20000 w1
 show Calls _ _ _ _ fun e w' => e = .returned (.bool (insB a0 a1 300 && (insB a2 a3 20000 && insB a4 a5 20000))) ∧ Below w.heap.size w w'
 dsimp only
 generalize insB a0 a1 300 = B1 at *
 generalize insB a2 a3 20000 = B2 at *
 generalize insB a4 a5 20000 = B3 at *
 have H1 := hI9 h1
 have H2 := hI9 h2
 have H3 := hI9 h3
 clear h1 h2 h3
 cases B1 <;> cases B2 <;> cases B3
 all_goals
  go_enter Tryz.func139, Tryz.ntmps139
  go_wp2_with (fail)
  have _x := frm1 w #[.int .i64 a0, .int .i64 a1, .int .i64 a2, .int .i64 a3, .int .i64 a4, .int .i64 a5, .bool xi, .bool xs] 30
  have HX := hI9 _x.1
  have HB := hI9 _x.2.1
  have zW := _x.2.2
  clear _x
  generalize World.alloc w _ = W at *
  have zHX := HX.out.lt
  have cHX0 := HX.out.cell 0
  have cHX1 := HX.out.cell 1
  go_wp2_with (first | (go_at_call 168; (with_reducible refine (H1.out _).mono ?_); rintro e w1 ⟨rfl, hb1⟩; have nHX := hI9 (HX.out.below hb1); have nHB := hI9 (bthen HB.out hb1); have zz1 := hb1.size; clear HX HB hb1; have HX := nHX; have HB := nHB; clear nHX nHB; (try clear zHX); have zHX := HX.out.lt; (try clear cHX2); have cHX2 := HX.out.cell 2; (try clear cHX3); have cHX3 := HX.out.cell 3) | (go_at_call 168; (with_reducible refine (H2.out _).mono ?_); rintro e w1 ⟨rfl, hb1⟩; have nHX := hI9 (HX.out.below hb1); have nHB := hI9 (bthen HB.out hb1); have zz1 := hb1.size; clear HX HB hb1; have HX := nHX; have HB := nHB; clear nHX nHB; (try clear zHX); have zHX := HX.out.lt; (try clear cHX4); have cHX4 := HX.out.cell 4; (try clear cHX5); have cHX5 := HX.out.cell 5) | (go_at_call 168; (with_reducible refine (H3.out _).mono ?_); rintro e w1 ⟨rfl, hb1⟩; have nHX := hI9 (HX.out.below hb1); have nHB := hI9 (bthen HB.out hb1); have zz1 := hb1.size; clear HX HB hb1; have HX := nHX; have HB := nHB; clear nHX nHB))
  go_ret
  exact ⟨rfl, HB.out⟩
def flyB (we se ce : Int) (ic st : Bool) (lw ls lc : Int) (li lt : Bool) : Bool := decide (we ≤ lw) && (decide (ls ≤ se) && (decide (lc ≤ ce) && ((!ic || li) && (!st || lt))))
theorem flyable_c (we se ce : Int) (ic st : Bool) (lw ls lc : Int) (li lt : Bool) (w : World) : Calls Tryz.prog 69 #[.agg #[.int .i64 we, .int .i64 se, .int .i64 ce, .bool ic, .bool st], .agg #[.int .i64 lw, .int .i64 ls, .int .i64 lc, .bool li, .bool lt]] w
  fun e w' => e = .returned (.bool (flyB we se ce ic st lw ls lc li lt)) ∧ Below w.heap.size w w' := by
 unfold flyB
 by_cases h1 : we ≤ lw
 ·by_cases h2 : ls ≤ se
  ·by_cases h3 : lc ≤ ce
   ·cases ic <;> cases st <;> cases li <;> cases lt
    all_goals
     go_enter Tryz.func69, Tryz.ntmps69
     go_wp2
     go_ret
     exact ⟨ret_bool (by simp [h1, h2, h3]), (by repeat' (first | exact Below.refl _ _ | assumption | refine Below.drew ?_ | refine bdn ?_ _ | refine bal ?_ _ | refine Below.setCell ?_ (by first | (simp; done) | omega | (simp; omega)) _))⟩
   ·have h3' : ce < lc := by omega
    go_enter Tryz.func69, Tryz.ntmps69
    go_wp2
    go_ret
    exact ⟨ret_bool (by rw [show decide (lc ≤ ce) = false from decide_eq_false (by omega)]; simp), (by repeat' (first | exact Below.refl _ _ | assumption | refine Below.drew ?_ | refine bdn ?_ _ | refine bal ?_ _ | refine Below.setCell ?_ (by first | (simp; done) | omega | (simp; omega)) _))⟩
  ·have h2' : se < ls := by omega
   go_enter Tryz.func69, Tryz.ntmps69
   go_wp2
   go_ret
   exact ⟨ret_bool (by rw [show decide (ls ≤ se) = false from decide_eq_false (by omega)]; simp), (by repeat' (first | exact Below.refl _ _ | assumption | refine Below.drew ?_ | refine bdn ?_ _ | refine bal ?_ _ | refine Below.setCell ?_ (by first | (simp; done) | omega | (simp; omega)) _))⟩
 ·have h1' : lw < we := by omega
  go_enter Tryz.func69, Tryz.ntmps69
  go_wp2
  go_ret
  exact ⟨ret_bool (by rw [show decide (we ≤ lw) = false from decide_eq_false (by omega)]; simp), (by repeat' (first | exact Below.refl _ _ | assumption | refine Below.drew ?_ | refine bdn ?_ _ | refine bal ?_ _ | refine Below.setCell ?_ (by first | (simp; done) | omega | (simp; omega)) _))⟩
theorem worst_c (x : Sk) (w : World) : Calls Tryz.prog 70 #[.agg #[.int .i64 x.a0, .int .i64 x.a1, .int .i64 x.a2, .int .i64 x.a3, .int .i64 x.a4, .int .i64 x.a5, .bool x.i, .bool x.s]] w
  fun e w' => e = .returned (.agg #[.int .i64 x.a1, .int .i64 x.a2, .int .i64 x.a4, .bool x.i, .bool x.s]) ∧ Below w.heap.size w w' := by
 obtain ⟨a0, a1, a2, a3, a4, a5, xi, xs⟩ := x
 go_enter Tryz.func70, Tryz.ntmps70
 go_wp2
 exact bodyPost_ret (res_c rfl _ _ _ 5 rfl (Blk.newA _ _ _ (by simp)) Tryz.rowWe rfl) rfl ⟨rfl, (by repeat' (first | exact Below.refl _ _ | assumption | refine Below.drew ?_ | refine bdn ?_ _ | refine bal ?_ _ | refine Below.setCell ?_ (by first | (simp; done) | omega | (simp; omega)) _))⟩
theorem Tryz.rowWhere : RowTy Tryz.prog 150 3 := ⟨by kernel_rfl, by kernel_rfl⟩
theorem wat_c (p t : Int) (w : World) : Calls Tryz.prog 72 #[.int .i64 p, .int .i64 t] w fun e w' => e = .returned (.agg #[.int .i64 p, .int .i64 t, .int .i64 t]) ∧ Below w.heap.size w w' := by
 go_enter Tryz.func72, Tryz.ntmps72
 go_wp2
 exact bodyPost_ret (res_c rfl _ _ _ 3 rfl (Blk.new _ _ _) Tryz.rowWhere rfl) rfl ⟨rfl, (by repeat' (first | exact Below.refl _ _ | assumption | refine Below.drew ?_ | refine bdn ?_ _ | refine bal ?_ _ | refine Below.setCell ?_ (by first | (simp; done) | omega | (simp; omega)) _))⟩
end Go.Proofs.YtlambeiafdpkgaaGreat

namespace Go.Proofs.YtlambeiafdpkgaaGreat
open Go Go.RowKit Go.Proofs
set_option maxRecDepth 100000
def FcsAt (w : World) (A : Option Addr) (n : Nat) (D : Nat → Nat → Int) (B : Nat → Nat → Bool) : Prop :=
 0 < n → ∃ b off, A = some ⟨b, off, none⟩ ∧ b < w.heap.size ∧ ∀ k, k < n → w.cell? ⟨b, off + k * 12, none⟩ = some (.int .i64 (D k 0)) ∧ w.cell? ⟨b, off + k * 12 + 1, none⟩ = some (.int .i64 (D k 1)) ∧ w.cell? ⟨b, off + k * 12 + 2, none⟩ = some (.int .i64 (D k 2)) ∧ w.cell? ⟨b, off + k * 12 + 3, none⟩ = some (.int .i64 (D k 3)) ∧ w.cell? ⟨b, off + k * 12 + 4, none⟩ = some (.int .i64 (D k 4)) ∧ w.cell? ⟨b, off + k * 12 + 5, none⟩ = some (.int .i64 (D k 5)) ∧ w.cell? ⟨b, off + k * 12 + 6, none⟩ = some (.int .i64 (D k 6)) ∧ w.cell? ⟨b, off + k * 12 + 7, none⟩ = some (.int .i64 (D k 7)) ∧ w.cell? ⟨b, off + k * 12 + 8, none⟩ = some (.int .i64 (D k 8)) ∧ w.cell? ⟨b, off + k * 12 + 9, none⟩ = some (.int .i64 (D k 9)) ∧ w.cell? ⟨b, off + k * 12 + 10, none⟩ = some (.bool (B k 10)) ∧ w.cell? ⟨b, off + k * 12 + 11, none⟩ = some (.bool (B k 11))
set_option maxHeartbeats 400000 in
theorem ixFc_c (A : Option Addr) (n c : Nat) (D : Nat → Nat → Int) (B : Nat → Nat → Bool) (g : Nat) (lb : Array Value) (p : Nat → Bool) (w : World) (hn : n ≤ 9223372036854775807)
  (eg : ∀ args w, (callFunc g args).run Tryz.prog w = .ok (.enter g args) w)
  (hA : FcsAt w A n D B) (hp : PredB Tryz.prog g lb n (fun i => .agg #[.int .i64 (D i 0), .int .i64 (D i 1), .int .i64 (D i 2), .int .i64 (D i 3), .int .i64 (D i 4), .int .i64 (D i 5), .int .i64 (D i 6), .int .i64 (D i 7), .int .i64 (D i 8), .int .i64 (D i 9), .bool (B i 10), .bool (B i 11)]) p w) :
  Calls Tryz.prog 170 #[.slice A n c, .func (.func g) #[] lb] w fun e w' => e = .returned (.int .i64 (firstIx p n)) ∧ Below w.heap.size w w' := by
 go_enter Tryz.func170, Tryz.ntmps170
 go_wp2
 go_loopw [5, 8] (fun _ s8 wr => ∃ k : Nat, k ≤ n ∧ s8 = .int .i64 k ∧ Hid (Below w.heap.size w wr) ∧ Hid (∀ j, j < k → p j = false)) (fun _ i _ => n - (intOf i).toNat)
 case atStart => exact ⟨0, by omega, rfl, Below.refl _ _, fun j hj => absurd hj (by omega)⟩
 case round =>
  obtain ⟨k, hk, rfl, hB, hF⟩ := hrel
  by_cases hlt : k < n
  ·obtain ⟨b, off, rfl, hb, hc⟩ := hA (by omega)
   have h0 := (hB.out.cell (p := ⟨b, off + k * 12, none⟩) hb).trans (hc k hlt).1
   have h1 := (hB.out.cell (p := ⟨b, off + k * 12 + 1, none⟩) hb).trans (hc k hlt).2.1
   have h2 := (hB.out.cell (p := ⟨b, off + k * 12 + 2, none⟩) hb).trans (hc k hlt).2.2.1
   have h3 := (hB.out.cell (p := ⟨b, off + k * 12 + 3, none⟩) hb).trans (hc k hlt).2.2.2.1
   have h4 := (hB.out.cell (p := ⟨b, off + k * 12 + 4, none⟩) hb).trans (hc k hlt).2.2.2.2.1
   have h5 := (hB.out.cell (p := ⟨b, off + k * 12 + 5, none⟩) hb).trans (hc k hlt).2.2.2.2.2.1
   have h6 := (hB.out.cell (p := ⟨b, off + k * 12 + 6, none⟩) hb).trans (hc k hlt).2.2.2.2.2.2.1
   have h7 := (hB.out.cell (p := ⟨b, off + k * 12 + 7, none⟩) hb).trans (hc k hlt).2.2.2.2.2.2.2.1
   have h8 := (hB.out.cell (p := ⟨b, off + k * 12 + 8, none⟩) hb).trans (hc k hlt).2.2.2.2.2.2.2.2.1
   have h9 := (hB.out.cell (p := ⟨b, off + k * 12 + 9, none⟩) hb).trans (hc k hlt).2.2.2.2.2.2.2.2.2.1
   have h10 := (hB.out.cell (p := ⟨b, off + k * 12 + 10, none⟩) hb).trans (hc k hlt).2.2.2.2.2.2.2.2.2.2.1
   have h11 := (hB.out.cell (p := ⟨b, off + k * 12 + 11, none⟩) hb).trans (hc k hlt).2.2.2.2.2.2.2.2.2.2.2
   have hcall := hp wr k hlt hB.out
   clear hc hA hp
   cases hq : p k with
   | true =>
    rw [hq] at hcall
    have HQ := hI9 hq
    clear hq
    go_wp2_with (go_at_fn g; refine hcall.mono ?_; rintro e w1 ⟨rfl, hb1⟩)
    go_ret
    exact ⟨ret_int (firstIx_hit p n k hlt HQ.out hF.out).symm, hB.out.trans (hb1.mono hB.out.size)⟩
   | false =>
    rw [hq] at hcall
    have HQ := hI9 hq
    clear hq
    go_wp2_with (go_at_fn g; refine hcall.mono ?_; rintro e w1 ⟨rfl, hb1⟩)
    go_roundw
    case rel => exact ⟨k + 1, by omega, by go_num, hB.out.trans (hb1.mono hB.out.size), fun j hj => by
     by_cases e : j = k
     ·subst e; exact HQ.out
     ·exact hF.out j (by omega)⟩
    case measure => simp [intOf]; omega
  ·obtain rfl : k = n := by omega
   clear hA hp
   go_wp2
   go_ret
   exact ⟨ret_int (firstIx_miss p k hF.out).symm, hB.out⟩
theorem cfFc_c (A : Option Addr) (n c : Nat) (D : Nat → Nat → Int) (B : Nat → Nat → Bool) (g : Nat) (lb : Array Value) (p : Nat → Bool) (w : World) (hn : n ≤ 9223372036854775807)
  (eg : ∀ args w, (callFunc g args).run Tryz.prog w = .ok (.enter g args) w)
  (hA : FcsAt w A n D B) (hp : PredB Tryz.prog g lb n (fun i => .agg #[.int .i64 (D i 0), .int .i64 (D i 1), .int .i64 (D i 2), .int .i64 (D i 3), .int .i64 (D i 4), .int .i64 (D i 5), .int .i64 (D i 6), .int .i64 (D i 7), .int .i64 (D i 8), .int .i64 (D i 9), .bool (B i 10), .bool (B i 11)]) p w) :
  Calls Tryz.prog 143 #[.slice A n c, .func (.func g) #[] lb] w fun e w' => e = .returned (.bool ((List.range n).any p)) ∧ Below w.heap.size w w' := by
 rw [← firstIx_nonneg p n]
 go_enter Tryz.func143, Tryz.ntmps143
 go_wp2_with (go_at_call 170; refine (ixFc_c _ _ _ _ _ _ _ _ _ hn eg hA hp).mono ?_; rintro e w1 ⟨rfl, hb1⟩)
 go_ret
 exact ⟨rfl, hb1⟩
def SisAt (w : World) (A : Option Addr) (n : Nat) (E : Nat → Nat → Int) (C : Nat → Nat → Bool) : Prop :=
 0 < n → ∃ b off, A = some ⟨b, off, none⟩ ∧ b < w.heap.size ∧ ∀ k, k < n → w.cell? ⟨b, off + k * 7, none⟩ = some (.int .i64 (E k 0)) ∧ w.cell? ⟨b, off + k * 7 + 1, none⟩ = some (.int .i64 (E k 1)) ∧ w.cell? ⟨b, off + k * 7 + 2, none⟩ = some (.int .i64 (E k 2)) ∧ w.cell? ⟨b, off + k * 7 + 3, none⟩ = some (.int .i64 (E k 3)) ∧ w.cell? ⟨b, off + k * 7 + 4, none⟩ = some (.int .i64 (E k 4)) ∧ w.cell? ⟨b, off + k * 7 + 5, none⟩ = some (.bool (C k 5)) ∧ w.cell? ⟨b, off + k * 7 + 6, none⟩ = some (.bool (C k 6))
set_option maxHeartbeats 400000 in
theorem ixSi_c (A : Option Addr) (n c : Nat) (E : Nat → Nat → Int) (C : Nat → Nat → Bool) (g : Nat) (lb : Array Value) (p : Nat → Bool) (w : World) (hn : n ≤ 9223372036854775807)
  (eg : ∀ args w, (callFunc g args).run Tryz.prog w = .ok (.enter g args) w)
  (hA : SisAt w A n E C) (hp : PredB Tryz.prog g lb n (fun i => .agg #[.int .i64 (E i 0), .int .i64 (E i 1), .int .i64 (E i 2), .int .i64 (E i 3), .int .i64 (E i 4), .bool (C i 5), .bool (C i 6)]) p w) :
  Calls Tryz.prog 171 #[.slice A n c, .func (.func g) #[] lb] w fun e w' => e = .returned (.int .i64 (firstIx p n)) ∧ Below w.heap.size w w' := by
 go_enter Tryz.func171, Tryz.ntmps171
 go_wp2
 go_loopw [5, 8] (fun _ s8 wr => ∃ k : Nat, k ≤ n ∧ s8 = .int .i64 k ∧ Hid (Below w.heap.size w wr) ∧ Hid (∀ j, j < k → p j = false)) (fun _ i _ => n - (intOf i).toNat)
 case atStart => exact ⟨0, by omega, rfl, Below.refl _ _, fun j hj => absurd hj (by omega)⟩
 case round =>
  obtain ⟨k, hk, rfl, hB, hF⟩ := hrel
  by_cases hlt : k < n
  ·obtain ⟨b, off, rfl, hb, hc⟩ := hA (by omega)
   have h0 := (hB.out.cell (p := ⟨b, off + k * 7, none⟩) hb).trans (hc k hlt).1
   have h1 := (hB.out.cell (p := ⟨b, off + k * 7 + 1, none⟩) hb).trans (hc k hlt).2.1
   have h2 := (hB.out.cell (p := ⟨b, off + k * 7 + 2, none⟩) hb).trans (hc k hlt).2.2.1
   have h3 := (hB.out.cell (p := ⟨b, off + k * 7 + 3, none⟩) hb).trans (hc k hlt).2.2.2.1
   have h4 := (hB.out.cell (p := ⟨b, off + k * 7 + 4, none⟩) hb).trans (hc k hlt).2.2.2.2.1
   have h5 := (hB.out.cell (p := ⟨b, off + k * 7 + 5, none⟩) hb).trans (hc k hlt).2.2.2.2.2.1
   have h6 := (hB.out.cell (p := ⟨b, off + k * 7 + 6, none⟩) hb).trans (hc k hlt).2.2.2.2.2.2
   have hcall := hp wr k hlt hB.out
   clear hc hA hp
   cases hq : p k with
   | true =>
    rw [hq] at hcall
    have HQ := hI9 hq
    clear hq
    go_wp2_with (go_at_fn g; refine hcall.mono ?_; rintro e w1 ⟨rfl, hb1⟩)
    go_ret
    exact ⟨ret_int (firstIx_hit p n k hlt HQ.out hF.out).symm, hB.out.trans (hb1.mono hB.out.size)⟩
   | false =>
    rw [hq] at hcall
    have HQ := hI9 hq
    clear hq
    go_wp2_with (go_at_fn g; refine hcall.mono ?_; rintro e w1 ⟨rfl, hb1⟩)
    go_roundw
    case rel => exact ⟨k + 1, by omega, by go_num, hB.out.trans (hb1.mono hB.out.size), fun j hj => by
     by_cases e : j = k
     ·subst e; exact HQ.out
     ·exact hF.out j (by omega)⟩
    case measure => simp [intOf]; omega
  ·obtain rfl : k = n := by omega
   clear hA hp
   go_wp2
   go_ret
   exact ⟨ret_int (firstIx_miss p k hF.out).symm, hB.out⟩
theorem cfSi_c (A : Option Addr) (n c : Nat) (E : Nat → Nat → Int) (C : Nat → Nat → Bool) (g : Nat) (lb : Array Value) (p : Nat → Bool) (w : World) (hn : n ≤ 9223372036854775807)
  (eg : ∀ args w, (callFunc g args).run Tryz.prog w = .ok (.enter g args) w)
  (hA : SisAt w A n E C) (hp : PredB Tryz.prog g lb n (fun i => .agg #[.int .i64 (E i 0), .int .i64 (E i 1), .int .i64 (E i 2), .int .i64 (E i 3), .int .i64 (E i 4), .bool (C i 5), .bool (C i 6)]) p w) :
  Calls Tryz.prog 144 #[.slice A n c, .func (.func g) #[] lb] w fun e w' => e = .returned (.bool ((List.range n).any p)) ∧ Below w.heap.size w w' := by
 rw [← firstIx_nonneg p n]
 go_enter Tryz.func144, Tryz.ntmps144
 go_wp2_with (go_at_call 171; refine (ixSi_c _ _ _ _ _ _ _ _ _ hn eg hA hp).mono ?_; rintro e w1 ⟨rfl, hb1⟩)
 go_ret
 exact ⟨rfl, hb1⟩
theorem FcsAt.of {w : World} {A : Option Addr} {n : Nat} {D : Nat → Nat → Int} {B : Nat → Nat → Bool} (h : RecsAt w A n 12 (fcV D B)) : FcsAt w A n D B := by
 intro hn
 obtain ⟨b, off, hA, hb, hc⟩ := h hn
 exact ⟨b, off, hA, hb, fun k hk => ⟨hc k hk 0 (by omega), hc k hk 1 (by omega), hc k hk 2 (by omega), hc k hk 3 (by omega), hc k hk 4 (by omega), hc k hk 5 (by omega), hc k hk 6 (by omega), hc k hk 7 (by omega), hc k hk 8 (by omega), hc k hk 9 (by omega), hc k hk 10 (by omega), hc k hk 11 (by omega)⟩⟩
theorem SisAt.of {w : World} {A : Option Addr} {n : Nat} {E : Nat → Nat → Int} {C : Nat → Nat → Bool} (h : RecsAt w A n 7 (siV E C)) : SisAt w A n E C := by
 intro hn
 obtain ⟨b, off, hA, hb, hc⟩ := h hn
 exact ⟨b, off, hA, hb, fun k hk => ⟨hc k hk 0 (by omega), hc k hk 1 (by omega), hc k hk 2 (by omega), hc k hk 3 (by omega), hc k hk 4 (by omega), hc k hk 5 (by omega), hc k hk 6 (by omega)⟩⟩
end Go.Proofs.YtlambeiafdpkgaaGreat

namespace Go.Proofs.YtlambeiafdpkgaaGreat
open Go Go.RowKit Go.Proofs
set_option maxRecDepth 100000
def LgsAt (w : World) (A : Option Addr) (n : Nat) (S : Nat → Nat → Int) : Prop :=
 0 < n → ∃ b off, A = some ⟨b, off, none⟩ ∧ b < w.heap.size ∧ ∀ k, k < n → w.cell? ⟨b, off + k * 3, none⟩ = some (.int .i64 (S k 0)) ∧ w.cell? ⟨b, off + k * 3 + 1, none⟩ = some (.int .i64 (S k 1)) ∧ w.cell? ⟨b, off + k * 3 + 2, none⟩ = some (.int .i64 (S k 2))
def nV (S : Nat → Nat → Int) (i j : Nat) : Value := .int .i64 (S i j)
theorem LgsAt.of {w : World} {A : Option Addr} {n : Nat} {S : Nat → Nat → Int} (h : RecsAt w A n 3 (nV S)) : LgsAt w A n S := by
 intro hn
 obtain ⟨b, off, hA, hb, hc⟩ := h hn
 exact ⟨b, off, hA, hb, fun k hk => ⟨hc k hk 0 (by omega), hc k hk 1 (by omega), hc k hk 2 (by omega)⟩⟩
set_option maxHeartbeats 4000000
end Go.Proofs.YtlambeiafdpkgaaGreat
