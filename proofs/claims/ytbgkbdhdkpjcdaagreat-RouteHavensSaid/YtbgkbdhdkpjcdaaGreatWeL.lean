/- slices.Sort of integers, laid off the shelf: printed by the shelf's command in its plain mode. -/
import Derived.Test.YtbgkbdhdkpjcdaaGreatProg
import Derived.Shelf.Sort.Plain
import Derived.Shelf.Slices.In.SortNone
import Derived.Test.YtbgkbdhdkpjcdaaGreatJAF
set_option linter.all false
namespace Go.Proofs.YtbgkbdhdkpjcdaaGreat
open Go Go.Shelf Go.RowKit Go.Proofs
def Tryz.laysSort_ren : Go.Shelf.Ren := ⟨fun | 189 => 130 | 125 => 167 | 257 => 166 | 128 => 201 | 129 => 202 | 294 => 192 | 295 => 193 | 296 => 194 | 297 => 195 | 298 => 196 | 299 => 197 | 216 => 198 | 300 => 199 | 301 => 200 | 328 => 211 | 329 => 212 | 330 => 213 | 331 => 214 | 332 => 215 | 215 => 154 | 343 => 225 | n => n, fun | 28 => 35 | 3 => 3 | 46 => 212 | 0 => 0 | 51 => 238 | 53 => 240 | 4 => 4 | 183 => 231 | 182 => 230 | 131 => 88 | 5 => 5 | 9 => 9 | 218 => 248 | 222 => 252 | 228 => 264 | 229 => 265 | n => n, fun | n => n⟩
theorem Tryz.laysSort : Go.Proofs.Lays.n189 Tryz.prog Tryz.laysSort_ren := {
  mixed := by kernel_rfl
  f125 := Tryz.func167.trans (congrArg some (by kernel_rfl))
  f128 := Tryz.func201.trans (congrArg some (by kernel_rfl))
  f129 := Tryz.func202.trans (congrArg some (by kernel_rfl))
  f189 := Tryz.func130.trans (congrArg some (by kernel_rfl))
  f215 := Tryz.func154.trans (congrArg some (by kernel_rfl))
  f216 := Tryz.func198.trans (congrArg some (by kernel_rfl))
  f257 := Tryz.func166.trans (congrArg some (by kernel_rfl))
  f294 := Tryz.func192.trans (congrArg some (by kernel_rfl))
  f295 := Tryz.func193.trans (congrArg some (by kernel_rfl))
  f296 := Tryz.func194.trans (congrArg some (by kernel_rfl))
  f297 := Tryz.func195.trans (congrArg some (by kernel_rfl))
  f298 := Tryz.func196.trans (congrArg some (by kernel_rfl))
  f299 := Tryz.func197.trans (congrArg some (by kernel_rfl))
  f300 := Tryz.func199.trans (congrArg some (by kernel_rfl))
  f301 := Tryz.func200.trans (congrArg some (by kernel_rfl))
  f328 := Tryz.func211.trans (congrArg some (by kernel_rfl))
  f329 := Tryz.func212.trans (congrArg some (by kernel_rfl))
  f330 := Tryz.func213.trans (congrArg some (by kernel_rfl))
  f331 := Tryz.func214.trans (congrArg some (by kernel_rfl))
  f332 := Tryz.func215.trans (congrArg some (by kernel_rfl))
  f343 := Tryz.func225.trans (congrArg some (by kernel_rfl))
  t0 := Tryz.underlying0
  a0 := Tryz.isAgg0
  z0 := Tryz.sizeOf0
  v0 := Tryz.zeroValue0
  t3 := Tryz.underlying3
  a3 := Tryz.isAgg3
  z3 := Tryz.sizeOf3
  v3 := Tryz.zeroValue3
  t4 := Tryz.underlying4
  a4 := Tryz.isAgg4
  z4 := Tryz.sizeOf4
  v4 := Tryz.zeroValue4
  t5 := Tryz.underlying5
  a5 := Tryz.isAgg5
  z5 := Tryz.sizeOf5
  v5 := Tryz.zeroValue5
  t9 := Tryz.underlying9
  a9 := Tryz.isAgg9
  z9 := Tryz.sizeOf9
  v9 := Tryz.zeroValue9
  t28 := Tryz.underlying35
  a28 := Tryz.isAgg35
  z28 := Tryz.sizeOf35
  v28 := Tryz.zeroValue35
  t46 := Tryz.underlying212
  a46 := Tryz.isAgg212
  z46 := Tryz.sizeOf212
  v46 := Tryz.zeroValue212
  t51 := Tryz.underlying238
  a51 := Tryz.isAgg238
  z51 := Tryz.sizeOf238
  v51 := Tryz.zeroValue238
  t53 := Tryz.underlying240
  a53 := Tryz.isAgg240
  z53 := Tryz.sizeOf240
  v53 := Tryz.zeroValue240
  t131 := Tryz.underlying88
  a131 := Tryz.isAgg88
  z131 := Tryz.sizeOf88
  v131 := Tryz.zeroValue88
  t182 := Tryz.underlying230
  a182 := Tryz.isAgg230
  z182 := Tryz.sizeOf230
  v182 := Tryz.zeroValue230
  t183 := Tryz.underlying231
  a183 := Tryz.isAgg231
  z183 := Tryz.sizeOf231
  v183 := Tryz.zeroValue231
  t218 := Tryz.underlying248
  a218 := Tryz.isAgg248
  z218 := Tryz.sizeOf248
  v218 := Tryz.zeroValue248
  t222 := Tryz.underlying252
  a222 := Tryz.isAgg252
  z222 := Tryz.sizeOf252
  v222 := Tryz.zeroValue252
  t228 := Tryz.underlying264
  a228 := Tryz.isAgg264
  z228 := Tryz.sizeOf264
  v228 := Tryz.zeroValue264
  t229 := Tryz.underlying265
  a229 := Tryz.isAgg265
  z229 := Tryz.sizeOf265
  v229 := Tryz.zeroValue265 }
theorem sortI_c (blk off cap : Nat) (zs : List Int) (w : World) (hH : Sort.Holds (Value.int .i64) w blk off zs.toArray) (hblk : blk < w.heap.size) (hsz : zs.length < 4611686018427387904) :
    Calls Tryz.prog 130 #[.slice (some ⟨blk, off, none⟩) zs.length cap] w fun e w' =>
      e = .returned (.tuple #[]) ∧ ∃ n os, w' = Sort.grow (Sort.putRow (Value.int .i64) (Sort.ahead w n) blk off (zs.mergeSort fun x y => decide (x ≤ y)).toArray) os :=
  Any.slices_Sort_int Tryz.laysSort blk off cap zs w hH hblk hsz
theorem sortI_none_c (p : Option Addr) (cap : Nat) (w : World) : Calls Tryz.prog 130 #[.slice p 0 cap] w fun e w' => e = .returned (.tuple #[]) ∧ w' = w :=
  Any.slices_Sort_int_none Tryz.laysSort p cap w

open Go.Lib Go.Sort in
/-- slices.Sort of indices. -/
theorem sortOdd_c (base : Nat) (v : Value) (xs : List Nat) (w : World) (hown : w.ownsRow base 3 1 v xs.length (xs.map encN)) (hnil : v = .slice none 0 0 ↔ xs = []) (hlt : ∀ x ∈ xs, x < 1000000) (h40 : xs.length ≤ 40) :
    Calls Tryz.prog 130 #[v] w fun e w' => e = .returned (.tuple #[]) ∧ w.grownBy w' v.ownBlock ∧ Ints w' v ((xs.mergeSort (fun x y => decide (castI x ≤ castI y))).map castI) := by
  by_cases he : xs = []
  · subst he
    obtain rfl := hnil.2 rfl
    refine (sortI_none_c none 0 w).mono ?_
    rintro _ _ ⟨rfl, rfl⟩
    refine ⟨rfl, ⟨rfl, rfl, rfl, Nat.le_refl _, fun _ _ _ => rfl⟩, ⟨none, 0, ?_, ?_, by omega, fun x hx => ?_, fun h => ?_⟩⟩
    · simp
    · simp
    · simp at hx
    · simp at h
  · have hvne : v ≠ .slice none 0 0 := fun e => he (hnil.1 e)
    have e0 : xs.map encN = (xs.map castI).map (Value.int .i64) := by rw [List.map_map]; rfl
    rw [e0] at hown
    obtain ⟨b, cap, rfl, hb1, hb2, hb3, hb4, hb5, hH⟩ := holds_of_ownsRow (enc := Value.int .i64) hown hvne
    have hl : (xs.map castI).length = xs.length := List.length_map _
    have hs := sortI_c b 0 cap (xs.map castI) w hH hb2 (by rw [hl]; omega)
    rw [hl] at hs
    refine hs.mono ?_
    rintro _ w' ⟨rfl, n, os, hw⟩
    have hS : SW (Value.int .i64) w b 0 ((xs.map castI).mergeSort fun x y => decide (x ≤ y)).toArray w' := ⟨n, os, hw⟩
    have em : (xs.mergeSort (fun x y => decide (castI x ≤ castI y))).map castI = (xs.map castI).mergeSort (fun x y => decide (x ≤ y)) := List.map_mergeSort (fun a _ c _ => rfl)
    rw [em]
    have hz : ((xs.map castI).mergeSort fun x y => decide (x ≤ y)).toArray.size = (xs.map castI).toArray.size := by simp
    have hH2 := hS.holds hb2 hH hz
    refine ⟨rfl, sw_grown hS, some ⟨b, 0, none⟩, cap, ?_, ?_, ?_, fun x hx => ?_, fun h => ⟨b, 0, rfl, hS.lt hb2, fun k hk => ?_⟩⟩
    · simp
    · simp; omega
    · unfold maxLen at hb4; omega
    · rw [List.mem_mergeSort, List.mem_map] at hx
      obtain ⟨a, ha, rfl⟩ := hx
      have := hlt a ha
      unfold I64 castI
      omega
    · have hk2 : k < ((xs.map castI).mergeSort fun x y => decide (x ≤ y)).toArray.size := by simpa using hk
      rw [(hH2 k hk2).1]
      show some _ = some (Value.int .i64 (nth _ k))
      rw [nth_getElem _ _ (by simpa using hk)]
      have hk3 : k < xs.length := by simpa using hk
      simp [hk3]
end Go.Proofs.YtbgkbdhdkpjcdaaGreat
