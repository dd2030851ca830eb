/- Texts joined: KAK. -/
import Derived.Test.YtlabfpjlckdmfaaGreatKAJ
import Derived.Test.YtlabfpjlckdmfaaGreatProg
import Derived.Shelf.Sort.Plain
import Derived.Shelf.Slices.In.SortNone
import Derived.Test.YtlabfpjlckdmfaaGreatKAG
import Derived.Test.YtlabfpjlckdmfaaGreatKAH
import Derived.Test.YtlabfpjlckdmfaaGreatKAE
set_option linter.all false
namespace Go.Proofs.YtlabfpjlckdmfaaGreat
open Go Go.RowKit Go.Proofs
set_option maxRecDepth 100000
set_option maxHeartbeats 4000000
theorem Tryz.sizeSky : (Tryz.prog.info? 25).map (·.size) = some 8 := by kernel_rfl
theorem oneS (b0 b1 b2 b3 b4 b5 : Int) (bi bs : Bool) : (#[.int .i64 b0, .int .i64 b1, .int .i64 b2, .int .i64 b3, .int .i64 b4, .int .i64 b5, .bool bi, .bool bs] : Array Value).all (·.oneCell') = true := by simp [Value.oneCell']
theorem rowBelow {B g : Nat} {w0 w : World} (hb : Below B w0 w) (hBg : B ≤ g) (cs : Array Value) : Below B w0 (w.setRow g cs) :=
 hb.trans ⟨rfl, rfl, rfl, by simp [World.setRow], fun k hk => setRow_other w g k cs (by omega)⟩
theorem only_c (we se ce : Int) (ic st : Bool) (w : World) : Calls Tryz.prog 74 #[.agg #[.int .i64 we, .int .i64 se, .int .i64 ce, .bool ic, .bool st]] w
  fun e w' => e = .returned (.agg #[.int .i64 we, .int .i64 we, .int .i64 se, .int .i64 se, .int .i64 ce, .int .i64 ce, .bool ic, .bool st]) ∧ Below w.heap.size w w' := by
 have eO := Tryz.entO
 have mixed : Tryz.prog.follows Departure.mixedOrders = true := by kernel_rfl
 go_enter Tryz.func74, Tryz.ntmps74
 go_wp2_with (fail)
 have _x := frm2 w #[.int .i64 we, .int .i64 se, .int .i64 ce, .bool ic, .bool st] 99 #[.int .i64 0, .int .i64 0, .int .i64 0, .int .i64 0, .int .i64 0, .int .i64 0, .bool false, .bool false] 25
 have HX := hI9 _x.1
 have HY := hI9 _x.2.1
 have HB := hI9 _x.2.2.1
 have zW := _x.2.2.2
 clear _x
 generalize World.alloc (World.alloc w _) _ = W at *
 have aHX0 := fun (r : After W) => (HX.out.below r.below).cell 0
 simp only [gtA, gtS, gtZ] at aHX0
 have aHX1 := fun (r : After W) => (HX.out.below r.below).cell 1
 simp only [gtA, gtS, gtZ] at aHX1
 have aHX2 := fun (r : After W) => (HX.out.below r.below).cell 2
 simp only [gtA, gtS, gtZ] at aHX2
 have aHX3 := fun (r : After W) => (HX.out.below r.below).cell 3
 simp only [gtA, gtS, gtZ] at aHX3
 have aHX4 := fun (r : After W) => (HX.out.below r.below).cell 4
 simp only [gtA, gtS, gtZ] at aHX4
 refine wp_region_aftert 17 (by kernel_rfl) (by kernel_rfl) ?_
 simp only [List.take_succ_cons, List.take_zero, List.drop_succ_cons, List.drop_zero]
 iterate 17 (go_big_quiet_step (first | (go_at_fn 90; refine qafter (only1_c _ _))))
 refine wpQuiet_nil ?_
 rintro _ ⟨r, rfl⟩
 have BR := r.below
 have HY2 := hI9 (HY.out.below r.below)
 go_wp2_with (first | (refine wpList_store_row rfl 25 _ _ rfl (w.heap.size + 1) _ rfl rfl 25 _ HY2.out Tryz.sizeSky rfl (oneS we we se se ce ce ic st) ?_; simp only [Act.put]))
 exact bodyPost_ret (res_c rfl _ _ _ 8 rfl (setRow_heap _ _ _ _ _ _ HY2.out) Tryz.rowSky rfl) rfl ⟨rfl, rowBelow (bthen HB.out BR) (by omega) _⟩
def siBad (pl e0 e1 we se ce : Int) : Bool := !inB e0 0 (pl - 1) || (!inB e1 0 2000 || !(Sk.mk we we se se ce ce false false).inr)
theorem sight_c (c1 c2 gc : Nat) (pl e0 e1 we se ce : Int) (ic st : Bool) (w : World) (h0 : w.cell? ⟨c1, 0, none⟩ = some (.func (.func 68) #[] #[.pointer (some ⟨gc, 0, none⟩)])) (h1 : w.cell? ⟨c2, 0, none⟩ = some (.func (.func 70) #[] #[]))
  (h2 : w.cell? ⟨gc, 0, none⟩ = some (.int .i64 pl)) (hp1 : 1 ≤ pl) (hp2 : pl ≤ 8) :
  Calls Tryz.prog 73 #[.agg #[.int .i64 e0, .int .i64 e1, .int .i64 we, .int .i64 se, .int .i64 ce, .bool ic, .bool st], .pointer (some ⟨c1, 0, none⟩), .pointer (some ⟨c2, 0, none⟩)] w
  fun e w' => e = .returned (.bool (siBad pl e0 e1 we se ce)) ∧ Below w.heap.size w w' := by
 have HC := hI9 (And.intro (fun w1 (h : Below w.heap.size w w1) => (h.cell (p := ⟨c1, 0, none⟩) (blk_lt h0)).trans h0) (And.intro (fun w1 (h : Below w.heap.size w w1) => (h.cell (p := ⟨c2, 0, none⟩) (blk_lt h1)).trans h1) (fun w1 (h : Below w.heap.size w w1) => (h.cell (p := ⟨gc, 0, none⟩) (blk_lt h2)).trans h2)))
 have eP := Tryz.entP
 have eT := Tryz.entT
 clear h0 h1 h2
 unfold siBad
 have hsk := fun w1 => sky_c ⟨we, we, se, se, ce, ce, ic, st⟩ w1
 have es : (Sk.mk we we se se ce ce ic st).inr = (Sk.mk we we se se ce ce false false).inr := rfl
 rw [es] at hsk
 dsimp only at hsk
 cases b2 : (Sk.mk we we se se ce ce false false).inr
 all_goals
  rw [b2] at hsk
  have HSK := hI9 hsk
  clear hsk es b2
  cases b0 : inB e0 0 (pl - 1)
  all_goals cases b1 : inB e1 0 2000
  all_goals
   have k0 := HC.out.1 (w.alloc (.cells #[.int .i64 e0, .int .i64 e1, .int .i64 we, .int .i64 se, .int .i64 ce, .bool ic, .bool st] 101)) (bal (Below.refl _ _) _)
   have k1 := HC.out.2.1 (w.alloc (.cells #[.int .i64 e0, .int .i64 e1, .int .i64 we, .int .i64 se, .int .i64 ce, .bool ic, .bool st] 101)) (bal (Below.refl _ _) _)
   have k2 := HC.out.2.2 (w.alloc (.cells #[.int .i64 e0, .int .i64 e1, .int .i64 we, .int .i64 se, .int .i64 ce, .bool ic, .bool st] 101)) (bal (Below.refl _ _) _)
   go_enter Tryz.func73, Tryz.ntmps73
   go_wp2_with (first | (go_at_fn 68; refine (place_c gc _ pl _ k2 hp1 hp2).mono ?_; rintro e w' ⟨rfl, rfl⟩) | (go_at_fn 70; refine (time_c _ _).mono ?_; rintro e w' ⟨rfl, rfl⟩) | (go_at_call 74; (with_reducible refine (only_c we se ce ic st _).mono ?_); rintro e w1 ⟨rfl, hb1⟩; have hB1 := bthen (show Below w.heap.size w _ from (by repeat' (first | exact Below.refl _ _ | assumption | refine Below.drew ?_ | refine bdn ?_ _ | refine bal ?_ _ | refine Below.setCell ?_ (by first | (simp; done) | omega | (simp; omega)) _))) hb1; have hz1 := hb1.size; (try simp at hz1); obtain ⟨hc1, hf1⟩ := bcell hb1; first | (have hE1 := bthen2 hE (by repeat' (first | exact Below.refl _ _ | refine Below.drew ?_ | refine bdn ?_ _ | refine bal ?_ _ | refine Below.setCell ?_ (by first | (simp; done) | omega | (simp; omega)) _)) hb1; clear hE; have hE := hE1; clear hE1; obtain ⟨hd1, hg1⟩ := bcell hE) | (have hE := hb1)) | (go_at_call 72; (with_reducible refine (HSK.out _).mono ?_); rintro e w1 ⟨rfl, hb1⟩; have hB1 := bthen (show Below w.heap.size w _ from (by repeat' (first | exact Below.refl _ _ | assumption | refine Below.drew ?_ | refine bdn ?_ _ | refine bal ?_ _ | refine Below.setCell ?_ (by first | (simp; done) | omega | (simp; omega)) _))) hb1; have hz1 := hb1.size; (try simp at hz1); obtain ⟨hc1, hf1⟩ := bcell hb1; first | (have hE1 := bthen2 hE (by repeat' (first | exact Below.refl _ _ | refine Below.drew ?_ | refine bdn ?_ _ | refine bal ?_ _ | refine Below.setCell ?_ (by first | (simp; done) | omega | (simp; omega)) _)) hb1; clear hE; have hE := hE1; clear hE1; obtain ⟨hd1, hg1⟩ := bcell hE) | (have hE := hb1)))
   go_ret
   exact ⟨ret_bool (by simp [b0, b1]), (by repeat' (first | exact Below.refl _ _ | assumption | refine Below.drew ?_ | refine bdn ?_ _ | refine bal ?_ _ | refine Below.setCell ?_ (by first | (simp; done) | omega | (simp; omega)) _))⟩
end Go.Proofs.YtlabfpjlckdmfaaGreat

namespace Go.Proofs.YtlabfpjlckdmfaaGreat
open Go Go.RowKit Go.Proofs
set_option maxRecDepth 100000
set_option maxHeartbeats 4000000
def MetD.fcB (M : MetD) (i : Nat) : Bool := fcBad M.places (M.D i 0) (M.D i 1) (M.D i 2) (M.D i 3) (M.fc i)
def MetD.siB (M : MetD) (i : Nat) : Bool := siBad M.places (M.E i 0) (M.E i 1) (M.E i 2) (M.E i 3) (M.E i 4)
def rngB (a b c : Int) : Bool := !inB a 0 20000 || (!inB b 0 20000 || !inB c 0 20000)
def MetD.bad (M : MetD) : Bool := !inB M.places 1 8 || (!M.any.inr || (rngB M.mw M.ms M.mc || (decide (40 < M.n) || ((List.range M.n).any M.fcB || (decide (20 < M.m) || (List.range M.m).any M.siB)))))
def MetD.err (M : MetD) : Int := if M.bad then 40 else 0
theorem cfb_c (b c : Nat) (m1 m2 m3 : Int) (w : World) (h0 : w.cell? ⟨b, 0, none⟩ = some (.int .i64 m1)) (h1 : w.cell? ⟨b, 1, none⟩ = some (.int .i64 m2)) (h2 : w.cell? ⟨b, 2, none⟩ = some (.int .i64 m3)) :
  Calls Tryz.prog 76 #[.slice (some ⟨b, 0, none⟩) 3 c, .func (.func 75) #[] #[]] w fun e w' => e = .returned (.bool (rngB m1 m2 m3)) ∧ Below w.heap.size w w' := by
 have h := cfInt_c (some ⟨b, 0, none⟩) 3 c (fun k => if k = 0 then m1 else if k = 1 then m2 else m3) 75 #[] (fun k => !inB (if k = 0 then m1 else if k = 1 then m2 else m3) 0 20000) w (by omega) Tryz.entB
  (fun _ => ⟨b, 0, rfl, blk_lt h0, fun k hk => by
   rcases (show k = 0 ∨ k = 1 ∨ k = 2 by omega) with rfl | rfl | rfl
   ·simpa using h0
   ·simpa using h1
   ·simpa using h2⟩)
  (fun w1 k hk hb => by
   refine (beyond_c _ w1).mono ?_
   rintro _ _ ⟨rfl, rfl⟩
   exact ⟨rfl, Below.refl _ _⟩)
 have e : (List.range 3).any (fun k => !inB (if k = 0 then m1 else if k = 1 then m2 else m3) 0 20000) = rngB m1 m2 m3 := by simp [List.range_succ, rngB]
 rw [e] at h
 exact h
theorem MetD.ok_of {M : MetD} (h : M.bad = false) : M.Ok := by
 unfold MetD.bad rngB at h
 simp only [Bool.or_eq_false_iff, Bool.not_eq_false', decide_eq_false_iff_not, inB_iff, List.any_eq_false] at h
 obtain ⟨h1, h2, ⟨h3, h4, h5⟩, h6, h7, h8, h9⟩ := h
 have F : ∀ i, i < M.n → fcBad M.places (M.D i 0) (M.D i 1) (M.D i 2) (M.D i 3) (M.fc i) = false := fun i hi => by
  have := h7 i (List.mem_range.2 hi)
  unfold MetD.fcB at this
  simpa using this
 have G : ∀ i, i < M.m → siBad M.places (M.E i 0) (M.E i 1) (M.E i 2) (M.E i 3) (M.E i 4) = false := fun i hi => by
  have := h9 i (List.mem_range.2 hi)
  unfold MetD.siB at this
  simpa using this
 have F2 : ∀ i, i < M.n → (0 ≤ M.D i 0 ∧ M.D i 0 ≤ M.places - 1) ∧ (0 ≤ M.D i 1 ∧ M.D i 1 ≤ 2000) ∧ (0 ≤ M.D i 2 ∧ M.D i 2 ≤ 2000) ∧ ¬ M.D i 2 ≤ M.D i 1 ∧ (0 ≤ M.D i 3 ∧ M.D i 3 ≤ 2000) ∧ (M.fc i).inr = true := fun i hi => by
  have := F i hi
  unfold fcBad at this
  simpa only [Bool.or_eq_false_iff, Bool.not_eq_false', decide_eq_false_iff_not, inB_iff] using this
 have G2 : ∀ i, i < M.m → (0 ≤ M.E i 0 ∧ M.E i 0 ≤ M.places - 1) ∧ (0 ≤ M.E i 1 ∧ M.E i 1 ≤ 2000) ∧ (Sk.mk (M.E i 2) (M.E i 2) (M.E i 3) (M.E i 3) (M.E i 4) (M.E i 4) false false).inr = true := fun i hi => by
  have := G i hi
  unfold siBad at this
  simpa only [Bool.or_eq_false_iff, Bool.not_eq_false', decide_eq_false_iff_not, inB_iff] using this
 have G3 : ∀ i, i < M.m → (0 ≤ M.E i 2 ∧ M.E i 2 ≤ 300) ∧ (0 ≤ M.E i 3 ∧ M.E i 3 ≤ 20000) ∧ (0 ≤ M.E i 4 ∧ M.E i 4 ≤ 20000) := fun i hi => by
  have := (G2 i hi).2.2
  unfold Sk.inr at this
  simp only [Bool.and_eq_true, insB_iff] at this
  omega
 exact ⟨h1, h2, h3, h4, h5, by omega, by omega, fun i hi => (F2 i hi).1, fun i hi => (F2 i hi).2.1, fun i hi => (F2 i hi).2.2.1, fun i hi => (F2 i hi).2.2.2.2.1, fun i hi => by have := (F2 i hi).2.2.2.1; omega, fun i hi => (F2 i hi).2.2.2.2.2,
  fun i hi => (G2 i hi).1, fun i hi => (G2 i hi).2.1, fun i hi => (G3 i hi).1, fun i hi => (G3 i hi).2.1, fun i hi => (G3 i hi).2.2⟩
end Go.Proofs.YtlabfpjlckdmfaaGreat

namespace Go.Proofs.YtlabfpjlckdmfaaGreat
open Go Go.Shelf Go.RowKit Go.Proofs
def Tryz.laysSort_ren : Go.Shelf.Ren := ⟨fun | 189 => 111 | 125 => 123 | 257 => 122 | 128 => 144 | 129 => 145 | 294 => 135 | 295 => 136 | 296 => 137 | 297 => 138 | 298 => 139 | 299 => 140 | 216 => 141 | 300 => 142 | 301 => 143 | 328 => 149 | 329 => 150 | 330 => 151 | 331 => 152 | 332 => 153 | 215 => 88 | 343 => 156 | n => n, fun | 28 => 35 | 3 => 3 | 46 => 157 | 0 => 0 | 51 => 167 | 53 => 170 | 4 => 4 | 183 => 196 | 182 => 195 | 131 => 103 | 5 => 5 | 9 => 9 | 218 => 205 | 222 => 209 | 228 => 212 | 229 => 213 | n => n, fun | n => n⟩
theorem Tryz.laysSort : Go.Proofs.Lays.n189 Tryz.prog Tryz.laysSort_ren := {
 mixed := by kernel_rfl
 f125 := Tryz.func123.trans (congrArg some (by kernel_rfl))
 f128 := Tryz.func144.trans (congrArg some (by kernel_rfl))
 f129 := Tryz.func145.trans (congrArg some (by kernel_rfl))
 f189 := Tryz.func111.trans (congrArg some (by kernel_rfl))
 f215 := Tryz.func88.trans (congrArg some (by kernel_rfl))
 f216 := Tryz.func141.trans (congrArg some (by kernel_rfl))
 f257 := Tryz.func122.trans (congrArg some (by kernel_rfl))
 f294 := Tryz.func135.trans (congrArg some (by kernel_rfl))
 f295 := Tryz.func136.trans (congrArg some (by kernel_rfl))
 f296 := Tryz.func137.trans (congrArg some (by kernel_rfl))
 f297 := Tryz.func138.trans (congrArg some (by kernel_rfl))
 f298 := Tryz.func139.trans (congrArg some (by kernel_rfl))
 f299 := Tryz.func140.trans (congrArg some (by kernel_rfl))
 f300 := Tryz.func142.trans (congrArg some (by kernel_rfl))
 f301 := Tryz.func143.trans (congrArg some (by kernel_rfl))
 f328 := Tryz.func149.trans (congrArg some (by kernel_rfl))
 f329 := Tryz.func150.trans (congrArg some (by kernel_rfl))
 f330 := Tryz.func151.trans (congrArg some (by kernel_rfl))
 f331 := Tryz.func152.trans (congrArg some (by kernel_rfl))
 f332 := Tryz.func153.trans (congrArg some (by kernel_rfl))
 f343 := Tryz.func156.trans (congrArg some (by kernel_rfl))
 t0 := Tryz.underlying0
 a0 := Tryz.isAgg0
 z0 := Tryz.sizeOf0
 v0 := Tryz.zeroValue0
 t3 := Tryz.underlying3
 a3 := Tryz.isAgg3
 z3 := Tryz.sizeOf3
 v3 := Tryz.zeroValue3
 t4 := Tryz.underlying4
 a4 := Tryz.isAgg4
 z4 := Tryz.sizeOf4
 v4 := Tryz.zeroValue4
 t5 := Tryz.underlying5
 a5 := Tryz.isAgg5
 z5 := Tryz.sizeOf5
 v5 := Tryz.zeroValue5
 t9 := Tryz.underlying9
 a9 := Tryz.isAgg9
 z9 := Tryz.sizeOf9
 v9 := Tryz.zeroValue9
 t28 := Tryz.underlying35
 a28 := Tryz.isAgg35
 z28 := Tryz.sizeOf35
 v28 := Tryz.zeroValue35
 t46 := Tryz.underlying157
 a46 := Tryz.isAgg157
 z46 := Tryz.sizeOf157
 v46 := Tryz.zeroValue157
 t51 := Tryz.underlying167
 a51 := Tryz.isAgg167
 z51 := Tryz.sizeOf167
 v51 := Tryz.zeroValue167
 t53 := Tryz.underlying170
 a53 := Tryz.isAgg170
 z53 := Tryz.sizeOf170
 v53 := Tryz.zeroValue170
 t131 := Tryz.underlying103
 a131 := Tryz.isAgg103
 z131 := Tryz.sizeOf103
 v131 := Tryz.zeroValue103
 t182 := Tryz.underlying195
 a182 := Tryz.isAgg195
 z182 := Tryz.sizeOf195
 v182 := Tryz.zeroValue195
 t183 := Tryz.underlying196
 a183 := Tryz.isAgg196
 z183 := Tryz.sizeOf196
 v183 := Tryz.zeroValue196
 t218 := Tryz.underlying205
 a218 := Tryz.isAgg205
 z218 := Tryz.sizeOf205
 v218 := Tryz.zeroValue205
 t222 := Tryz.underlying209
 a222 := Tryz.isAgg209
 z222 := Tryz.sizeOf209
 v222 := Tryz.zeroValue209
 t228 := Tryz.underlying212
 a228 := Tryz.isAgg212
 z228 := Tryz.sizeOf212
 v228 := Tryz.zeroValue212
 t229 := Tryz.underlying213
 a229 := Tryz.isAgg213
 z229 := Tryz.sizeOf213
 v229 := Tryz.zeroValue213 }
theorem sortI_c (blk off cap : Nat) (zs : List Int) (w : World) (hH : Sort.Holds (Value.int .i64) w blk off zs.toArray) (hblk : blk < w.heap.size) (hsz : zs.length < 4611686018427387904) :
  Calls Tryz.prog 111 #[.slice (some ⟨blk, off, none⟩) zs.length cap] w fun e w' =>
   e = .returned (.tuple #[]) ∧ ∃ n os, w' = Sort.grow (Sort.putRow (Value.int .i64) (Sort.ahead w n) blk off (zs.mergeSort fun x y => decide (x ≤ y)).toArray) os :=
 Any.slices_Sort_int Tryz.laysSort blk off cap zs w hH hblk hsz
theorem sortI_none_c (p : Option Addr) (cap : Nat) (w : World) : Calls Tryz.prog 111 #[.slice p 0 cap] w fun e w' => e = .returned (.tuple #[]) ∧ w' = w :=
 Any.slices_Sort_int_none Tryz.laysSort p cap w
open Go.Lib Go.Sort in
theorem sortOdd_c (base : Nat) (v : Value) (xs : List Nat) (w : World) (hown : w.ownsRow base 3 1 v xs.length (xs.map encN)) (hnil : v = .slice none 0 0 ↔ xs = []) (hlt : ∀ x ∈ xs, x < 1000000) (h40 : xs.length ≤ 40) :
  Calls Tryz.prog 111 #[v] w fun e w' => e = .returned (.tuple #[]) ∧ w.grownBy w' v.ownBlock ∧ Ints w' v ((xs.mergeSort (fun x y => decide (castI x ≤ castI y))).map castI) := by
 by_cases he : xs = []
 ·subst he
  obtain rfl := hnil.2 rfl
  refine (sortI_none_c none 0 w).mono ?_
  rintro _ _ ⟨rfl, rfl⟩
  refine ⟨rfl, ⟨rfl, rfl, rfl, Nat.le_refl _, fun _ _ _ => rfl⟩, ⟨none, 0, ?_, ?_, by omega, fun x hx => ?_, fun h => ?_⟩⟩
  ·simp
  ·simp
  ·simp at hx
  ·simp at h
 ·have hvne : v ≠ .slice none 0 0 := fun e => he (hnil.1 e)
  have e0 : xs.map encN = (xs.map castI).map (Value.int .i64) := by rw [List.map_map]; rfl
  rw [e0] at hown
  obtain ⟨b, cap, rfl, hb1, hb2, hb3, hb4, hb5, hH⟩ := holds_of_ownsRow (enc := Value.int .i64) hown hvne
  have hl : (xs.map castI).length = xs.length := List.length_map _
  have hs := sortI_c b 0 cap (xs.map castI) w hH hb2 (by rw [hl]; omega)
  rw [hl] at hs
  refine hs.mono ?_
  rintro _ w' ⟨rfl, n, os, hw⟩
  have hS : SW (Value.int .i64) w b 0 ((xs.map castI).mergeSort fun x y => decide (x ≤ y)).toArray w' := ⟨n, os, hw⟩
  have em : (xs.mergeSort (fun x y => decide (castI x ≤ castI y))).map castI = (xs.map castI).mergeSort (fun x y => decide (x ≤ y)) := List.map_mergeSort (fun a _ c _ => rfl)
  rw [em]
  have hz : ((xs.map castI).mergeSort fun x y => decide (x ≤ y)).toArray.size = (xs.map castI).toArray.size := by simp
  have hH2 := hS.holds hb2 hH hz
  refine ⟨rfl, sw_grown hS, some ⟨b, 0, none⟩, cap, ?_, ?_, ?_, fun x hx => ?_, fun h => ⟨b, 0, rfl, hS.lt hb2, fun k hk => ?_⟩⟩
  ·simp
  ·simp; omega
  ·unfold maxLen at hb4; omega
  ·rw [List.mem_mergeSort, List.mem_map] at hx
   obtain ⟨a, ha, rfl⟩ := hx
   have := hlt a ha
   unfold I64 castI
   omega
  ·have hk2 : k < ((xs.map castI).mergeSort fun x y => decide (x ≤ y)).toArray.size := by simpa using hk
   rw [(hH2 k hk2).1]
   show some _ = some (Value.int .i64 (nth _ k))
   rw [nth_getElem _ _ (by simpa using hk)]
   have hk3 : k < xs.length := by simpa using hk
   simp [hk3]
end Go.Proofs.YtlabfpjlckdmfaaGreat

namespace Go.Proofs.YtlabfpjlckdmfaaGreat
open Go Go.RowKit Go.Proofs Go.ChangeShapes Go.WideShapes Go.ChangeAt Go.Deep
set_option maxRecDepth 100000
set_option maxHeartbeats 4000000
def leafOf (P : Program) : Nat → TypeId → Nat → Option TypeId
 | 0, _, _ => none
 | f + 1, T, i => match P.underlying T with
  | some (.struct fs) => (List.range fs.size).findSome? fun j => match fieldAt (P.underlying T) j with
   | some (t, o) => if o ≤ i ∧ i < o + P.cellsOf t ∧ o + P.cellsOf t ≤ P.cellsOf T then leafOf P f t (i - o) else none
   | none => none
  | _ => if i = 0 ∧ P.cellsOf T = 1 then some T else none
section
variable {H : Type} {enc : TypeId × Value → H} {W : World} {sp : Nat → Bool} {held : Bool}
theorem one_cell {cs : List Value} (h : cs.length = 1) : cs = [cs.getD 0 undef] := by
 obtain ⟨c, l, rfl, hl⟩ := take1 h
 obtain rfl := List.eq_nil_of_length_eq_zero hl
 rfl
theorem trod_leaf {P : Program} {t : TypeId} : ∀ (f : Nat) (T : TypeId) (i fuel : Nat) (cs : List Value) (x : DataW H × List MemPlace), leafOf P f T i = some t → cs.length = P.cellsOf T →
  DataW.trod enc P W 0 sp held fuel T cs = some x → ∃ m y, DataW.trod enc P W 0 sp held m t [cs.getD i undef] = some y
 | 0, T, i, fuel, cs, x, h, _, _ => by cases h
 | f + 1, T, i, fuel, cs, x, h, hl, ht => by
  unfold leafOf at h
  split at h
  ·rename_i fs hu
   obtain ⟨j, -, hj⟩ := List.exists_of_findSome?_eq_some h
   split at hj
   ·rename_i t' o hf
    split at hj
    ·rename_i hb
     obtain ⟨m, y, hm⟩ := trod_field hf rfl ht
     have hlen : ((cs.drop o).take (P.cellsOf t')).length = P.cellsOf t' := by
      rw [List.length_take, List.length_drop, hl]; omega
     obtain ⟨m2, y2, hm2⟩ := trod_leaf f t' (i - o) m _ y hj hlen hm
     refine ⟨m2, y2, ?_⟩
     have e : ((cs.drop o).take (P.cellsOf t')).getD (i - o) undef = cs.getD i undef := by
      unfold List.getD
      rw [List.getElem?_take_of_lt (by omega), List.getElem?_drop, show o + (i - o) = i by omega]
     rw [← e]; exact hm2
    ·cases hj
   ·cases hj
  ·split at h
   ·rename_i hc
    obtain ⟨rfl, h1⟩ := hc
    obtain rfl : T = t := by simpa using h
    rw [h1] at hl
    exact ⟨fuel, x, by rw [← one_cell hl]; exact ht⟩
   ·cases h
theorem leaf_int {cs : List Value} {T : TypeId} {fuel : Nat} {x : DataW H × List MemPlace} (hl : cs.length = Tryz.prog.cellsOf T) (ht : DataW.trod enc Tryz.prog W 0 sp held fuel T cs = some x) (i : Nat) (h : leafOf Tryz.prog 9 T i = some 3) :
  ∃ n, cs.getD i undef = .int .i64 n ∧ I64 n := by
 obtain ⟨m, y, hm⟩ := trod_leaf 9 T i fuel cs x h hl ht
 exact int_trod hm
theorem Tryz.undBool : Tryz.prog.underlying 4 = some .bool := by kernel_rfl
theorem leaf_bool {cs : List Value} {T : TypeId} {fuel : Nat} {x : DataW H × List MemPlace} (hl : cs.length = Tryz.prog.cellsOf T) (ht : DataW.trod enc Tryz.prog W 0 sp held fuel T cs = some x) (i : Nat) (h : leafOf Tryz.prog 9 T i = some 4) :
  ∃ b, cs.getD i undef = .bool b := by
 obtain ⟨m, y, hm⟩ := trod_leaf 9 T i fuel cs x h hl ht
 obtain ⟨b, e, -⟩ := DataW.trod_bool Tryz.undBool hm
 exact ⟨b, by simpa using e⟩
theorem list_cells {cs : List Value} {n : Nat} (h : cs.length = n) : cs = (List.range n).map fun i => cs.getD i undef := by
 subst h
 apply List.ext_getElem
 ·simp
 ·intro i h1 h2
  simp [List.getD, List.getElem?_eq_getElem h1]
theorem kinds {cs : List Value} {T : TypeId} {fuel n : Nat} {x : DataW H × List MemPlace} (num : Nat → Bool) (hn : Tryz.prog.cellsOf T = n) (hl : cs.length = n) (ht : DataW.trod enc Tryz.prog W 0 sp held fuel T cs = some x)
  (hk : (List.range n).all (fun i => leafOf Tryz.prog 9 T i == some (if num i then 3 else 4)) = true) :
  ∃ (f : Nat → Int) (b : Nat → Bool), (∀ i, i < n → cs.getD i undef = if num i then .int .i64 (f i) else .bool (b i)) ∧ ∀ i, i < n → num i = true → I64 (f i) := by
 have hk' : ∀ i, i < n → leafOf Tryz.prog 9 T i = some (if num i then 3 else 4) := fun i hi => by
  have := List.all_eq_true.1 hk i (List.mem_range.2 hi)
  simpa using this
 have hf : ∀ i, ∃ z : Int, i < n → num i = true → cs.getD i undef = .int .i64 z ∧ I64 z := fun i => by
  by_cases hi : i < n ∧ num i = true
  ·have h1 := hk' i hi.1
   rw [hi.2, if_pos rfl] at h1
   obtain ⟨z, e, w⟩ := leaf_int (by rw [hl, hn]) ht i h1
   exact ⟨z, fun _ _ => ⟨e, w⟩⟩
  ·exact ⟨0, fun a b => absurd ⟨a, b⟩ hi⟩
 have hb : ∀ i, ∃ z : Bool, i < n → num i = false → cs.getD i undef = .bool z := fun i => by
  by_cases hi : i < n ∧ num i = false
  ·have h1 := hk' i hi.1
   rw [hi.2, if_neg (by decide)] at h1
   obtain ⟨z, e⟩ := leaf_bool (by rw [hl, hn]) ht i h1
   exact ⟨z, fun _ _ => e⟩
  ·exact ⟨false, fun a b => absurd ⟨a, b⟩ hi⟩
 refine ⟨fun i => (hf i).choose, fun i => (hb i).choose, fun i hi => ?_, fun i hi hn => ((hf i).choose_spec hi hn).2⟩
 cases hn : num i
 ·simpa using (hb i).choose_spec hi hn
 ·simpa using ((hf i).choose_spec hi hn).1
theorem struct_trod {r : Reach} {b0 n : Nat} {T : TypeId} {v : Value} {d : DataW H} {ps : List MemPlace} {q : TypeId × Nat} (hf : fieldAt (Tryz.prog.underlying T) 0 = some q) (hn : Tryz.prog.cellsOf T = n)
  (hval : Value.okWide Tryz.prog W r b0 T v) (hd : DataW.Trod enc Tryz.prog W 0 sp held T v d ps) :
  ∃ cs : List Value, v = .agg cs.toArray ∧ cs.length = n ∧ ∃ fuel x, DataW.trod enc Tryz.prog W 0 sp held fuel T cs = some x := by
 obtain ⟨fs, hu⟩ := fieldAt_struct hf
 obtain ⟨cs, rfl, hs⟩ := okWide_struct hu hval
 rw [hn] at hs
 obtain ⟨fuel, h⟩ := hd
 exact ⟨cs.toList, by simp, by simpa using hs, fuel, _, h⟩
theorem slice_kinds {t e : TypeId} {fuel n : Nat} {c : Value} {x : DataW H × List MemPlace} (num : Nat → Bool) (hu : Tryz.prog.underlying t = some (.slice e)) (hn : Tryz.prog.cellsOf e = n) (h0 : 0 < n)
  (ht : DataW.trod enc Tryz.prog W 0 sp held fuel t [c] = some x) (hk : (List.range n).all (fun i => leafOf Tryz.prog 9 e i == some (if num i then 3 else 4)) = true) :
  ∃ (A : Option Addr) (len cp : Nat) (D : Nat → Nat → Int) (B : Nat → Nat → Bool), c = .slice A len cp ∧ len ≤ cp ∧ cp ≤ 9223372036854775807 ∧ (A = none → cp = 0) ∧ RecsAt W A len n (fun i j => if num j then .int .i64 (D i j) else .bool (B i j)) ∧ ∀ i, i < len → ∀ j, j < n → num j = true → I64 (D i j) := by
 obtain ⟨A, len, cp, V, rfl, h1, h2, h3, h4, h5⟩ := recs_trod hu hn h0 ht
 have hf : ∀ i, i < len → ∃ z : (Nat → Int) × (Nat → Bool), (∀ j, j < n → V i j = if num j then .int .i64 (z.1 j) else .bool (z.2 j)) ∧ ∀ j, j < n → num j = true → I64 (z.1 j) := fun i hi => by
  obtain ⟨m, y, hm⟩ := h5 i hi
  obtain ⟨f, b, hfb, hi64⟩ := kinds num hn (by simp) hm hk
  refine ⟨(f, b), fun j hj => ?_, hi64⟩
  rw [← hfb j hj]
  simp [List.getD, hj]
 obtain ⟨Z, hZ⟩ := choose_lt hf
 refine ⟨A, len, cp, fun i => (Z i).1, fun i => (Z i).2, rfl, h1, h2, h3, fun hp => ?_, fun i hi j hj hn => (hZ i hi).2 j hj hn⟩
 obtain ⟨b, off, hA, hlt, hc⟩ := h4 hp
 exact ⟨b, off, hA, hlt, fun k hk j hj => by rw [hc k hk j hj, (hZ k hk).1 j hj]⟩
end
end Go.Proofs.YtlabfpjlckdmfaaGreat
