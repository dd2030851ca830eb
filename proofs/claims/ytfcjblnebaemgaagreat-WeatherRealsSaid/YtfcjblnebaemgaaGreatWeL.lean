/- slices.Sort of integers, laid off the shelf: printed by the shelf's command in its plain mode. -/
import Derived.Test.YtfcjblnebaemgaaGreatProg
import Derived.Shelf.Sort.Plain
import Derived.Shelf.Slices.In.SortNone
import Derived.Test.YtfcjblnebaemgaaGreatWeE
set_option linter.all false
namespace Go.Proofs.YtfcjblnebaemgaaGreat
open Go Go.Shelf Go.RowKit Go.Proofs
def Tryz.laysSort_ren : Go.Shelf.Ren := ⟨fun | 189 => 52 | 125 => 73 | 257 => 72 | 128 => 97 | 129 => 98 | 294 => 88 | 295 => 89 | 296 => 90 | 297 => 91 | 298 => 92 | 299 => 93 | 216 => 94 | 300 => 95 | 301 => 96 | 328 => 106 | 329 => 107 | 330 => 108 | 331 => 109 | 332 => 110 | 215 => 70 | 343 => 116 | n => n, fun | 28 => 56 | 3 => 3 | 46 => 105 | 0 => 0 | 51 => 127 | 53 => 129 | 4 => 4 | 183 => 119 | 182 => 118 | 131 => 124 | 5 => 5 | 9 => 9 | 218 => 134 | 222 => 138 | 228 => 142 | 229 => 143 | n => n, fun | n => n⟩
theorem Tryz.laysSort : Go.Proofs.Lays.n189 Tryz.prog Tryz.laysSort_ren := {
  mixed := by kernel_rfl
  f125 := Tryz.func73.trans (congrArg some (by kernel_rfl))
  f128 := Tryz.func97.trans (congrArg some (by kernel_rfl))
  f129 := Tryz.func98.trans (congrArg some (by kernel_rfl))
  f189 := Tryz.func52.trans (congrArg some (by kernel_rfl))
  f215 := Tryz.func70.trans (congrArg some (by kernel_rfl))
  f216 := Tryz.func94.trans (congrArg some (by kernel_rfl))
  f257 := Tryz.func72.trans (congrArg some (by kernel_rfl))
  f294 := Tryz.func88.trans (congrArg some (by kernel_rfl))
  f295 := Tryz.func89.trans (congrArg some (by kernel_rfl))
  f296 := Tryz.func90.trans (congrArg some (by kernel_rfl))
  f297 := Tryz.func91.trans (congrArg some (by kernel_rfl))
  f298 := Tryz.func92.trans (congrArg some (by kernel_rfl))
  f299 := Tryz.func93.trans (congrArg some (by kernel_rfl))
  f300 := Tryz.func95.trans (congrArg some (by kernel_rfl))
  f301 := Tryz.func96.trans (congrArg some (by kernel_rfl))
  f328 := Tryz.func106.trans (congrArg some (by kernel_rfl))
  f329 := Tryz.func107.trans (congrArg some (by kernel_rfl))
  f330 := Tryz.func108.trans (congrArg some (by kernel_rfl))
  f331 := Tryz.func109.trans (congrArg some (by kernel_rfl))
  f332 := Tryz.func110.trans (congrArg some (by kernel_rfl))
  f343 := Tryz.func116.trans (congrArg some (by kernel_rfl))
  t0 := Tryz.underlying0
  a0 := Tryz.isAgg0
  z0 := Tryz.sizeOf0
  v0 := Tryz.zeroValue0
  t3 := Tryz.underlying3
  a3 := Tryz.isAgg3
  z3 := Tryz.sizeOf3
  v3 := Tryz.zeroValue3
  t4 := Tryz.underlying4
  a4 := Tryz.isAgg4
  z4 := Tryz.sizeOf4
  v4 := Tryz.zeroValue4
  t5 := Tryz.underlying5
  a5 := Tryz.isAgg5
  z5 := Tryz.sizeOf5
  v5 := Tryz.zeroValue5
  t9 := Tryz.underlying9
  a9 := Tryz.isAgg9
  z9 := Tryz.sizeOf9
  v9 := Tryz.zeroValue9
  t28 := Tryz.underlying56
  a28 := Tryz.isAgg56
  z28 := Tryz.sizeOf56
  v28 := Tryz.zeroValue56
  t46 := Tryz.underlying105
  a46 := Tryz.isAgg105
  z46 := Tryz.sizeOf105
  v46 := Tryz.zeroValue105
  t51 := Tryz.underlying127
  a51 := Tryz.isAgg127
  z51 := Tryz.sizeOf127
  v51 := Tryz.zeroValue127
  t53 := Tryz.underlying129
  a53 := Tryz.isAgg129
  z53 := Tryz.sizeOf129
  v53 := Tryz.zeroValue129
  t131 := Tryz.underlying124
  a131 := Tryz.isAgg124
  z131 := Tryz.sizeOf124
  v131 := Tryz.zeroValue124
  t182 := Tryz.underlying118
  a182 := Tryz.isAgg118
  z182 := Tryz.sizeOf118
  v182 := Tryz.zeroValue118
  t183 := Tryz.underlying119
  a183 := Tryz.isAgg119
  z183 := Tryz.sizeOf119
  v183 := Tryz.zeroValue119
  t218 := Tryz.underlying134
  a218 := Tryz.isAgg134
  z218 := Tryz.sizeOf134
  v218 := Tryz.zeroValue134
  t222 := Tryz.underlying138
  a222 := Tryz.isAgg138
  z222 := Tryz.sizeOf138
  v222 := Tryz.zeroValue138
  t228 := Tryz.underlying142
  a228 := Tryz.isAgg142
  z228 := Tryz.sizeOf142
  v228 := Tryz.zeroValue142
  t229 := Tryz.underlying143
  a229 := Tryz.isAgg143
  z229 := Tryz.sizeOf143
  v229 := Tryz.zeroValue143 }
theorem sortI_c (blk off cap : Nat) (zs : List Int) (w : World) (hH : Sort.Holds (Value.int .i64) w blk off zs.toArray) (hblk : blk < w.heap.size) (hsz : zs.length < 4611686018427387904) :
    Calls Tryz.prog 52 #[.slice (some ⟨blk, off, none⟩) zs.length cap] w fun e w' =>
      e = .returned (.tuple #[]) ∧ ∃ n os, w' = Sort.grow (Sort.putRow (Value.int .i64) (Sort.ahead w n) blk off (zs.mergeSort fun x y => decide (x ≤ y)).toArray) os :=
  Any.slices_Sort_int Tryz.laysSort blk off cap zs w hH hblk hsz
theorem sortI_none_c (p : Option Addr) (cap : Nat) (w : World) : Calls Tryz.prog 52 #[.slice p 0 cap] w fun e w' => e = .returned (.tuple #[]) ∧ w' = w :=
  Any.slices_Sort_int_none Tryz.laysSort p cap w

open Go.Lib Go.Sort in
/-- slices.Sort of indices. -/
theorem sortOdd_c (base : Nat) (v : Value) (xs : List Nat) (w : World) (hown : w.ownsRow base 3 1 v xs.length (xs.map encN)) (hnil : v = .slice none 0 0 ↔ xs = []) (hlt : ∀ x ∈ xs, x < 1000000) (h40 : xs.length ≤ 40) :
    Calls Tryz.prog 52 #[v] w fun e w' => e = .returned (.tuple #[]) ∧ w.grownBy w' v.ownBlock ∧ Ints w' v ((xs.mergeSort (fun x y => decide (castI x ≤ castI y))).map castI) := by
  by_cases he : xs = []
  · subst he
    obtain rfl := hnil.2 rfl
    refine (sortI_none_c none 0 w).mono ?_
    rintro _ _ ⟨rfl, rfl⟩
    refine ⟨rfl, ⟨rfl, rfl, rfl, Nat.le_refl _, fun _ _ _ => rfl⟩, ⟨none, 0, ?_, ?_, by omega, fun x hx => ?_, fun h => ?_⟩⟩
    · simp
    · simp
    · simp at hx
    · simp at h
  · have hvne : v ≠ .slice none 0 0 := fun e => he (hnil.1 e)
    have e0 : xs.map encN = (xs.map castI).map (Value.int .i64) := by rw [List.map_map]; rfl
    rw [e0] at hown
    obtain ⟨b, cap, rfl, hb1, hb2, hb3, hb4, hb5, hH⟩ := holds_of_ownsRow (enc := Value.int .i64) hown hvne
    have hl : (xs.map castI).length = xs.length := List.length_map _
    have hs := sortI_c b 0 cap (xs.map castI) w hH hb2 (by rw [hl]; omega)
    rw [hl] at hs
    refine hs.mono ?_
    rintro _ w' ⟨rfl, n, os, hw⟩
    have hS : SW (Value.int .i64) w b 0 ((xs.map castI).mergeSort fun x y => decide (x ≤ y)).toArray w' := ⟨n, os, hw⟩
    have em : (xs.mergeSort (fun x y => decide (castI x ≤ castI y))).map castI = (xs.map castI).mergeSort (fun x y => decide (x ≤ y)) := List.map_mergeSort (fun a _ c _ => rfl)
    rw [em]
    have hz : ((xs.map castI).mergeSort fun x y => decide (x ≤ y)).toArray.size = (xs.map castI).toArray.size := by simp
    have hH2 := hS.holds hb2 hH hz
    refine ⟨rfl, sw_grown hS, some ⟨b, 0, none⟩, cap, ?_, ?_, ?_, fun x hx => ?_, fun h => ⟨b, 0, rfl, hS.lt hb2, fun k hk => ?_⟩⟩
    · simp
    · simp; omega
    · unfold maxLen at hb4; omega
    · rw [List.mem_mergeSort, List.mem_map] at hx
      obtain ⟨a, ha, rfl⟩ := hx
      have := hlt a ha
      unfold I64 castI
      omega
    · have hk2 : k < ((xs.map castI).mergeSort fun x y => decide (x ≤ y)).toArray.size := by simpa using hk
      rw [(hH2 k hk2).1]
      show some _ = some (Value.int .i64 (nth _ k))
      rw [nth_getElem _ _ (by simpa using hk)]
      have hk3 : k < xs.length := by simpa using hk
      simp [hk3]
end Go.Proofs.YtfcjblnebaemgaaGreat
