/- Texts joined: JAH. -/
import Derived.Test.YtafkifjebimdaaaGreatJAG
import Derived.Test.YtafkifjebimdaaaGreatProg
import Derived.Shelf.Sort.Plain
import Derived.Shelf.Slices.In.SortNone
import Derived.Test.YtafkifjebimdaaaGreatJAF
set_option linter.all false
namespace Go.Proofs.YtafkifjebimdaaaGreat
open Go Go.RowKit Go.Proofs
set_option maxRecDepth 100000
set_option maxHeartbeats 4000000

theorem Tryz.sizeSky : (Tryz.prog.info? 30).map (·.size) = some 8 := by kernel_rfl
theorem oneS (b0 b1 b2 b3 b4 b5 : Int) (bi bs : Bool) : (#[.int .i64 b0, .int .i64 b1, .int .i64 b2, .int .i64 b3, .int .i64 b4, .int .i64 b5, .bool bi, .bool bs] : Array Value).all (·.oneCell') = true := by simp [Value.oneCell']
theorem rowBelow {B g : Nat} {w0 w : World} (hb : Below B w0 w) (hBg : B ≤ g) (cs : Array Value) : Below B w0 (w.setRow g cs) :=
  hb.trans ⟨rfl, rfl, rfl, by simp [World.setRow], fun k hk => setRow_other w g k cs (by omega)⟩

theorem only_c (we se ce : Int) (ic st : Bool) (w : World) : Calls Tryz.prog 57 #[.agg #[.int .i64 we, .int .i64 se, .int .i64 ce, .bool ic, .bool st]] w
    fun e w' => e = .returned (.agg #[.int .i64 we, .int .i64 we, .int .i64 se, .int .i64 se, .int .i64 ce, .int .i64 ce, .bool ic, .bool st]) ∧ Below w.heap.size w w' := by
  have eO := Tryz.entO
  have mixed : Tryz.prog.follows Departure.mixedOrders = true := by kernel_rfl
  go_enter Tryz.func57, Tryz.ntmps57
  go_wp2_with (fail)
  have bHX : Blk ((w.alloc (.cells #[.int .i64 we, .int .i64 se, .int .i64 ce, .bool ic, .bool st] 76)).alloc (.cells #[.int .i64 0, .int .i64 0, .int .i64 0, .int .i64 0, .int .i64 0, .int .i64 0, .bool false, .bool false] 30)) (w.heap.size) 76 #[.int .i64 we, .int .i64 se, .int .i64 ce, .bool ic, .bool st] := (by repeat (first | (refine Blk.newAt _ _ _ ?_; first | rfl | (simp; done)) | refine Blk.alloc ?_ _))
  have bHY : Blk ((w.alloc (.cells #[.int .i64 we, .int .i64 se, .int .i64 ce, .bool ic, .bool st] 76)).alloc (.cells #[.int .i64 0, .int .i64 0, .int .i64 0, .int .i64 0, .int .i64 0, .int .i64 0, .bool false, .bool false] 30)) (w.heap.size + 1) 30 #[.int .i64 0, .int .i64 0, .int .i64 0, .int .i64 0, .int .i64 0, .int .i64 0, .bool false, .bool false] := (by repeat (first | (refine Blk.newAt _ _ _ ?_; first | rfl | (simp; done)) | refine Blk.alloc ?_ _))
  have bHB : Below w.heap.size w ((w.alloc (.cells #[.int .i64 we, .int .i64 se, .int .i64 ce, .bool ic, .bool st] 76)).alloc (.cells #[.int .i64 0, .int .i64 0, .int .i64 0, .int .i64 0, .int .i64 0, .int .i64 0, .bool false, .bool false] 30)) := (by repeat' (first | exact Below.refl _ _ | assumption | refine Below.drew ?_ | refine bdn ?_ _ | refine bal ?_ _ | refine Below.setCell ?_ (by first | (simp; done) | omega | (simp; omega)) _))
  generalize ((w.alloc (.cells #[.int .i64 we, .int .i64 se, .int .i64 ce, .bool ic, .bool st] 76)).alloc (.cells #[.int .i64 0, .int .i64 0, .int .i64 0, .int .i64 0, .int .i64 0, .int .i64 0, .bool false, .bool false] 30)) = W at *
  have zW := bHY.lt
  have HX := Lib.hid bHX
  have HY := Lib.hid bHY
  have HB := Lib.hid bHB
  clear bHX bHY bHB
  have aHX0 := fun (r : After W) => (HX.out.below r.below).cell 0
  simp only [List.getElem?_toArray, List.getElem?_cons_succ, List.getElem?_cons_zero] at aHX0
  have aHX1 := fun (r : After W) => (HX.out.below r.below).cell 1
  simp only [List.getElem?_toArray, List.getElem?_cons_succ, List.getElem?_cons_zero] at aHX1
  have aHX2 := fun (r : After W) => (HX.out.below r.below).cell 2
  simp only [List.getElem?_toArray, List.getElem?_cons_succ, List.getElem?_cons_zero] at aHX2
  have aHX3 := fun (r : After W) => (HX.out.below r.below).cell 3
  simp only [List.getElem?_toArray, List.getElem?_cons_succ, List.getElem?_cons_zero] at aHX3
  have aHX4 := fun (r : After W) => (HX.out.below r.below).cell 4
  simp only [List.getElem?_toArray, List.getElem?_cons_succ, List.getElem?_cons_zero] at aHX4
  refine wp_region_aftert 17 (by kernel_rfl) (by kernel_rfl) ?_
  simp only [List.take_succ_cons, List.take_zero, List.drop_succ_cons, List.drop_zero]
  iterate 17 (go_big_quiet_step (first | (go_at_fn 92; refine qafter (only1_c _ _))))
  refine wpQuiet_nil ?_
  rintro _ ⟨r, rfl⟩
  have BR := r.below
  have HY2 := Lib.hid (HY.out.below r.below)
  go_wp2_with (first | (refine wpList_store_row rfl 30 _ _ rfl (w.heap.size + 1) _ rfl rfl 30 _ HY2.out Tryz.sizeSky rfl (oneS we we se se ce ce ic st) ?_; simp only [Act.put]))
  exact bodyPost_ret (res_c rfl _ _ _ 8 rfl (setRow_heap _ _ _ _ _ _ HY2.out) Tryz.rowSky rfl) rfl ⟨rfl, rowBelow (bthen HB.out BR) (by omega) _⟩

/-- A sight that Check refuses. -/
def siBad (pl e0 e1 we se ce : Int) : Bool := !inB e0 0 (pl - 1) || (!inB e1 0 2000 || !(Sk.mk we we se se ce ce false false).inr)
theorem sight_c (c1 c2 gc : Nat) (pl e0 e1 we se ce : Int) (ic st : Bool) (w : World) (h0 : w.cell? ⟨c1, 0, none⟩ = some (.func (.func 115) #[] #[.pointer (some ⟨gc, 0, none⟩)])) (h1 : w.cell? ⟨c2, 0, none⟩ = some (.func (.func 116) #[] #[]))
    (h2 : w.cell? ⟨gc, 0, none⟩ = some (.int .i64 pl)) (hp1 : 1 ≤ pl) (hp2 : pl ≤ 8) :
   Calls Tryz.prog 118 #[.agg #[.int .i64 e0, .int .i64 e1, .int .i64 we, .int .i64 se, .int .i64 ce, .bool ic, .bool st], .pointer (some ⟨c1, 0, none⟩), .pointer (some ⟨c2, 0, none⟩)] w
    fun e w' => e = .returned (.bool (siBad pl e0 e1 we se ce)) ∧ Below w.heap.size w w' := by
  have HC := Lib.hid (And.intro (fun w1 (h : Below w.heap.size w w1) => (h.cell (p := ⟨c1, 0, none⟩) (blk_lt h0)).trans h0) (And.intro (fun w1 (h : Below w.heap.size w w1) => (h.cell (p := ⟨c2, 0, none⟩) (blk_lt h1)).trans h1) (fun w1 (h : Below w.heap.size w w1) => (h.cell (p := ⟨gc, 0, none⟩) (blk_lt h2)).trans h2)))
  have eP := Tryz.entP
  have eT := Tryz.entT
  clear h0 h1 h2
  unfold siBad
  have hsk := fun w1 => sky_c ⟨we, we, se, se, ce, ce, ic, st⟩ w1
  have es : (Sk.mk we we se se ce ce ic st).inr = (Sk.mk we we se se ce ce false false).inr := rfl
  rw [es] at hsk
  dsimp only at hsk
  cases b2 : (Sk.mk we we se se ce ce false false).inr
  all_goals
    rw [b2] at hsk
    have HSK := Lib.hid hsk
    clear hsk es b2
    cases b0 : inB e0 0 (pl - 1)
    all_goals cases b1 : inB e1 0 2000
    all_goals
      have k0 := HC.out.1 (w.alloc (.cells #[.int .i64 e0, .int .i64 e1, .int .i64 we, .int .i64 se, .int .i64 ce, .bool ic, .bool st] 135)) (bal (Below.refl _ _) _)
      have k1 := HC.out.2.1 (w.alloc (.cells #[.int .i64 e0, .int .i64 e1, .int .i64 we, .int .i64 se, .int .i64 ce, .bool ic, .bool st] 135)) (bal (Below.refl _ _) _)
      have k2 := HC.out.2.2 (w.alloc (.cells #[.int .i64 e0, .int .i64 e1, .int .i64 we, .int .i64 se, .int .i64 ce, .bool ic, .bool st] 135)) (bal (Below.refl _ _) _)
      go_enter Tryz.func118, Tryz.ntmps118
      go_wp2_with (first | (go_at_fn 115; refine (place_c gc _ pl _ k2 hp1 hp2).mono ?_; rintro e w' ⟨rfl, rfl⟩) | (go_at_fn 116; refine (time_c _ _).mono ?_; rintro e w' ⟨rfl, rfl⟩) | (go_at_call 57; (with_reducible refine (only_c we se ce ic st _).mono ?_); rintro e w1 ⟨rfl, hb1⟩; have hB1 := bthen (show Below w.heap.size w _ from (by repeat' (first | exact Below.refl _ _ | assumption | refine Below.drew ?_ | refine bdn ?_ _ | refine bal ?_ _ | refine Below.setCell ?_ (by first | (simp; done) | omega | (simp; omega)) _))) hb1; have hz1 := hb1.size; (try simp at hz1); obtain ⟨hc1, hf1⟩ := bcell hb1; first | (have hE1 := bthen2 hE (by repeat' (first | exact Below.refl _ _ | refine Below.drew ?_ | refine bdn ?_ _ | refine bal ?_ _ | refine Below.setCell ?_ (by first | (simp; done) | omega | (simp; omega)) _)) hb1; clear hE; have hE := hE1; clear hE1; obtain ⟨hd1, hg1⟩ := bcell hE) | (have hE := hb1)) | (go_at_call 56; (with_reducible refine (HSK.out _).mono ?_); rintro e w1 ⟨rfl, hb1⟩; have hB1 := bthen (show Below w.heap.size w _ from (by repeat' (first | exact Below.refl _ _ | assumption | refine Below.drew ?_ | refine bdn ?_ _ | refine bal ?_ _ | refine Below.setCell ?_ (by first | (simp; done) | omega | (simp; omega)) _))) hb1; have hz1 := hb1.size; (try simp at hz1); obtain ⟨hc1, hf1⟩ := bcell hb1; first | (have hE1 := bthen2 hE (by repeat' (first | exact Below.refl _ _ | refine Below.drew ?_ | refine bdn ?_ _ | refine bal ?_ _ | refine Below.setCell ?_ (by first | (simp; done) | omega | (simp; omega)) _)) hb1; clear hE; have hE := hE1; clear hE1; obtain ⟨hd1, hg1⟩ := bcell hE) | (have hE := hb1)))
      go_ret
      exact ⟨ret_bool (by simp [b0, b1]), (by repeat' (first | exact Below.refl _ _ | assumption | refine Below.drew ?_ | refine bdn ?_ _ | refine bal ?_ _ | refine Below.setCell ?_ (by first | (simp; done) | omega | (simp; omega)) _))⟩
end Go.Proofs.YtafkifjebimdaaaGreat

namespace Go.Proofs.YtafkifjebimdaaaGreat
open Go Go.RowKit Go.Proofs
set_option maxRecDepth 100000
set_option maxHeartbeats 4000000

def MetD.fcB (M : MetD) (i : Nat) : Bool := fcBad M.places (M.D i 0) (M.D i 1) (M.D i 2) (M.D i 3) (M.fc i)
def MetD.siB (M : MetD) (i : Nat) : Bool := siBad M.places (M.E i 0) (M.E i 1) (M.E i 2) (M.E i 3) (M.E i 4)
def rngB (a b c : Int) : Bool := !inB a 0 20000 || (!inB b 0 20000 || !inB c 0 20000)
def MetD.bad (M : MetD) : Bool := !inB M.places 1 8 || (!M.any.inr || (rngB M.mw M.ms M.mc || (decide (40 < M.n) || ((List.range M.n).any M.fcB || (decide (20 < M.m) || (List.range M.m).any M.siB)))))
def MetD.err (M : MetD) : Int := if M.bad then 40 else 0

theorem cfb_c (b c : Nat) (m1 m2 m3 : Int) (w : World) (h0 : w.cell? ⟨b, 0, none⟩ = some (.int .i64 m1)) (h1 : w.cell? ⟨b, 1, none⟩ = some (.int .i64 m2)) (h2 : w.cell? ⟨b, 2, none⟩ = some (.int .i64 m3)) :
    Calls Tryz.prog 70 #[.slice (some ⟨b, 0, none⟩) 3 c, .func (.func 119) #[] #[]] w fun e w' => e = .returned (.bool (rngB m1 m2 m3)) ∧ Below w.heap.size w w' := by
  have h := cfInt_c (some ⟨b, 0, none⟩) 3 c (fun k => if k = 0 then m1 else if k = 1 then m2 else m3) 119 #[] (fun k => !inB (if k = 0 then m1 else if k = 1 then m2 else m3) 0 20000) w (by omega) Tryz.entB
    (fun _ => ⟨b, 0, rfl, blk_lt h0, fun k hk => by
      rcases (show k = 0 ∨ k = 1 ∨ k = 2 by omega) with rfl | rfl | rfl
      · simpa using h0
      · simpa using h1
      · simpa using h2⟩)
    (fun w1 k hk hb => by
      refine (beyond_c _ w1).mono ?_
      rintro _ _ ⟨rfl, rfl⟩
      exact ⟨rfl, Below.refl _ _⟩)
  have e : (List.range 3).any (fun k => !inB (if k = 0 then m1 else if k = 1 then m2 else m3) 0 20000) = rngB m1 m2 m3 := by simp [List.range_succ, rngB]
  rw [e] at h
  exact h

/-- An accepted met. -/
theorem MetD.ok_of {M : MetD} (h : M.bad = false) : M.Ok := by
  unfold MetD.bad rngB at h
  simp only [Bool.or_eq_false_iff, Bool.not_eq_false', decide_eq_false_iff_not, inB_iff, List.any_eq_false] at h
  obtain ⟨h1, h2, ⟨h3, h4, h5⟩, h6, h7, h8, h9⟩ := h
  have F : ∀ i, i < M.n → fcBad M.places (M.D i 0) (M.D i 1) (M.D i 2) (M.D i 3) (M.fc i) = false := fun i hi => by
    have := h7 i (List.mem_range.2 hi)
    unfold MetD.fcB at this
    simpa using this
  have G : ∀ i, i < M.m → siBad M.places (M.E i 0) (M.E i 1) (M.E i 2) (M.E i 3) (M.E i 4) = false := fun i hi => by
    have := h9 i (List.mem_range.2 hi)
    unfold MetD.siB at this
    simpa using this
  have F2 : ∀ i, i < M.n → (0 ≤ M.D i 0 ∧ M.D i 0 ≤ M.places - 1) ∧ (0 ≤ M.D i 1 ∧ M.D i 1 ≤ 2000) ∧ (0 ≤ M.D i 2 ∧ M.D i 2 ≤ 2000) ∧ ¬ M.D i 2 ≤ M.D i 1 ∧ (0 ≤ M.D i 3 ∧ M.D i 3 ≤ 2000) ∧ (M.fc i).inr = true := fun i hi => by
    have := F i hi
    unfold fcBad at this
    simpa only [Bool.or_eq_false_iff, Bool.not_eq_false', decide_eq_false_iff_not, inB_iff] using this
  have G2 : ∀ i, i < M.m → (0 ≤ M.E i 0 ∧ M.E i 0 ≤ M.places - 1) ∧ (0 ≤ M.E i 1 ∧ M.E i 1 ≤ 2000) ∧ (Sk.mk (M.E i 2) (M.E i 2) (M.E i 3) (M.E i 3) (M.E i 4) (M.E i 4) false false).inr = true := fun i hi => by
    have := G i hi
    unfold siBad at this
    simpa only [Bool.or_eq_false_iff, Bool.not_eq_false', decide_eq_false_iff_not, inB_iff] using this
  have G3 : ∀ i, i < M.m → (0 ≤ M.E i 2 ∧ M.E i 2 ≤ 300) ∧ (0 ≤ M.E i 3 ∧ M.E i 3 ≤ 20000) ∧ (0 ≤ M.E i 4 ∧ M.E i 4 ≤ 20000) := fun i hi => by
    have := (G2 i hi).2.2
    unfold Sk.inr at this
    simp only [Bool.and_eq_true, insB_iff] at this
    omega
  exact ⟨h1, h2, h3, h4, h5, by omega, by omega, fun i hi => (F2 i hi).1, fun i hi => (F2 i hi).2.1, fun i hi => (F2 i hi).2.2.1, fun i hi => (F2 i hi).2.2.2.2.1, fun i hi => by have := (F2 i hi).2.2.2.1; omega, fun i hi => (F2 i hi).2.2.2.2.2,
    fun i hi => (G2 i hi).1, fun i hi => (G2 i hi).2.1, fun i hi => (G3 i hi).1, fun i hi => (G3 i hi).2.1, fun i hi => (G3 i hi).2.2⟩
end Go.Proofs.YtafkifjebimdaaaGreat

namespace Go.Proofs.YtafkifjebimdaaaGreat
open Go Go.Shelf Go.RowKit Go.Proofs
def Tryz.laysSort_ren : Go.Shelf.Ren := ⟨fun | 189 => 99 | 125 => 126 | 257 => 125 | 128 => 143 | 129 => 144 | 294 => 134 | 295 => 135 | 296 => 136 | 297 => 137 | 298 => 138 | 299 => 139 | 216 => 140 | 300 => 141 | 301 => 142 | 328 => 146 | 329 => 147 | 330 => 148 | 331 => 149 | 332 => 150 | 215 => 123 | 343 => 152 | n => n, fun | 28 => 35 | 3 => 3 | 46 => 176 | 0 => 0 | 51 => 192 | 53 => 194 | 4 => 4 | 183 => 185 | 182 => 184 | 131 => 189 | 5 => 5 | 9 => 9 | 218 => 195 | 222 => 199 | 228 => 201 | 229 => 202 | n => n, fun | n => n⟩
theorem Tryz.laysSort : Go.Proofs.Lays.n189 Tryz.prog Tryz.laysSort_ren := {
  mixed := by kernel_rfl
  f125 := Tryz.func126.trans (congrArg some (by kernel_rfl))
  f128 := Tryz.func143.trans (congrArg some (by kernel_rfl))
  f129 := Tryz.func144.trans (congrArg some (by kernel_rfl))
  f189 := Tryz.func99.trans (congrArg some (by kernel_rfl))
  f215 := Tryz.func123.trans (congrArg some (by kernel_rfl))
  f216 := Tryz.func140.trans (congrArg some (by kernel_rfl))
  f257 := Tryz.func125.trans (congrArg some (by kernel_rfl))
  f294 := Tryz.func134.trans (congrArg some (by kernel_rfl))
  f295 := Tryz.func135.trans (congrArg some (by kernel_rfl))
  f296 := Tryz.func136.trans (congrArg some (by kernel_rfl))
  f297 := Tryz.func137.trans (congrArg some (by kernel_rfl))
  f298 := Tryz.func138.trans (congrArg some (by kernel_rfl))
  f299 := Tryz.func139.trans (congrArg some (by kernel_rfl))
  f300 := Tryz.func141.trans (congrArg some (by kernel_rfl))
  f301 := Tryz.func142.trans (congrArg some (by kernel_rfl))
  f328 := Tryz.func146.trans (congrArg some (by kernel_rfl))
  f329 := Tryz.func147.trans (congrArg some (by kernel_rfl))
  f330 := Tryz.func148.trans (congrArg some (by kernel_rfl))
  f331 := Tryz.func149.trans (congrArg some (by kernel_rfl))
  f332 := Tryz.func150.trans (congrArg some (by kernel_rfl))
  f343 := Tryz.func152.trans (congrArg some (by kernel_rfl))
  t0 := Tryz.underlying0
  a0 := Tryz.isAgg0
  z0 := Tryz.sizeOf0
  v0 := Tryz.zeroValue0
  t3 := Tryz.underlying3
  a3 := Tryz.isAgg3
  z3 := Tryz.sizeOf3
  v3 := Tryz.zeroValue3
  t4 := Tryz.underlying4
  a4 := Tryz.isAgg4
  z4 := Tryz.sizeOf4
  v4 := Tryz.zeroValue4
  t5 := Tryz.underlying5
  a5 := Tryz.isAgg5
  z5 := Tryz.sizeOf5
  v5 := Tryz.zeroValue5
  t9 := Tryz.underlying9
  a9 := Tryz.isAgg9
  z9 := Tryz.sizeOf9
  v9 := Tryz.zeroValue9
  t28 := Tryz.underlying35
  a28 := Tryz.isAgg35
  z28 := Tryz.sizeOf35
  v28 := Tryz.zeroValue35
  t46 := Tryz.underlying176
  a46 := Tryz.isAgg176
  z46 := Tryz.sizeOf176
  v46 := Tryz.zeroValue176
  t51 := Tryz.underlying192
  a51 := Tryz.isAgg192
  z51 := Tryz.sizeOf192
  v51 := Tryz.zeroValue192
  t53 := Tryz.underlying194
  a53 := Tryz.isAgg194
  z53 := Tryz.sizeOf194
  v53 := Tryz.zeroValue194
  t131 := Tryz.underlying189
  a131 := Tryz.isAgg189
  z131 := Tryz.sizeOf189
  v131 := Tryz.zeroValue189
  t182 := Tryz.underlying184
  a182 := Tryz.isAgg184
  z182 := Tryz.sizeOf184
  v182 := Tryz.zeroValue184
  t183 := Tryz.underlying185
  a183 := Tryz.isAgg185
  z183 := Tryz.sizeOf185
  v183 := Tryz.zeroValue185
  t218 := Tryz.underlying195
  a218 := Tryz.isAgg195
  z218 := Tryz.sizeOf195
  v218 := Tryz.zeroValue195
  t222 := Tryz.underlying199
  a222 := Tryz.isAgg199
  z222 := Tryz.sizeOf199
  v222 := Tryz.zeroValue199
  t228 := Tryz.underlying201
  a228 := Tryz.isAgg201
  z228 := Tryz.sizeOf201
  v228 := Tryz.zeroValue201
  t229 := Tryz.underlying202
  a229 := Tryz.isAgg202
  z229 := Tryz.sizeOf202
  v229 := Tryz.zeroValue202 }
theorem sortI_c (blk off cap : Nat) (zs : List Int) (w : World) (hH : Sort.Holds (Value.int .i64) w blk off zs.toArray) (hblk : blk < w.heap.size) (hsz : zs.length < 4611686018427387904) :
    Calls Tryz.prog 99 #[.slice (some ⟨blk, off, none⟩) zs.length cap] w fun e w' =>
      e = .returned (.tuple #[]) ∧ ∃ n os, w' = Sort.grow (Sort.putRow (Value.int .i64) (Sort.ahead w n) blk off (zs.mergeSort fun x y => decide (x ≤ y)).toArray) os :=
  Any.slices_Sort_int Tryz.laysSort blk off cap zs w hH hblk hsz
theorem sortI_none_c (p : Option Addr) (cap : Nat) (w : World) : Calls Tryz.prog 99 #[.slice p 0 cap] w fun e w' => e = .returned (.tuple #[]) ∧ w' = w :=
  Any.slices_Sort_int_none Tryz.laysSort p cap w

open Go.Lib Go.Sort in
/-- slices.Sort of indices. -/
theorem sortOdd_c (base : Nat) (v : Value) (xs : List Nat) (w : World) (hown : w.ownsRow base 3 1 v xs.length (xs.map encN)) (hnil : v = .slice none 0 0 ↔ xs = []) (hlt : ∀ x ∈ xs, x < 1000000) (h40 : xs.length ≤ 40) :
    Calls Tryz.prog 99 #[v] w fun e w' => e = .returned (.tuple #[]) ∧ w.grownBy w' v.ownBlock ∧ Ints w' v ((xs.mergeSort (fun x y => decide (castI x ≤ castI y))).map castI) := by
  by_cases he : xs = []
  · subst he
    obtain rfl := hnil.2 rfl
    refine (sortI_none_c none 0 w).mono ?_
    rintro _ _ ⟨rfl, rfl⟩
    refine ⟨rfl, ⟨rfl, rfl, rfl, Nat.le_refl _, fun _ _ _ => rfl⟩, ⟨none, 0, ?_, ?_, by omega, fun x hx => ?_, fun h => ?_⟩⟩
    · simp
    · simp
    · simp at hx
    · simp at h
  · have hvne : v ≠ .slice none 0 0 := fun e => he (hnil.1 e)
    have e0 : xs.map encN = (xs.map castI).map (Value.int .i64) := by rw [List.map_map]; rfl
    rw [e0] at hown
    obtain ⟨b, cap, rfl, hb1, hb2, hb3, hb4, hb5, hH⟩ := holds_of_ownsRow (enc := Value.int .i64) hown hvne
    have hl : (xs.map castI).length = xs.length := List.length_map _
    have hs := sortI_c b 0 cap (xs.map castI) w hH hb2 (by rw [hl]; omega)
    rw [hl] at hs
    refine hs.mono ?_
    rintro _ w' ⟨rfl, n, os, hw⟩
    have hS : SW (Value.int .i64) w b 0 ((xs.map castI).mergeSort fun x y => decide (x ≤ y)).toArray w' := ⟨n, os, hw⟩
    have em : (xs.mergeSort (fun x y => decide (castI x ≤ castI y))).map castI = (xs.map castI).mergeSort (fun x y => decide (x ≤ y)) := List.map_mergeSort (fun a _ c _ => rfl)
    rw [em]
    have hz : ((xs.map castI).mergeSort fun x y => decide (x ≤ y)).toArray.size = (xs.map castI).toArray.size := by simp
    have hH2 := hS.holds hb2 hH hz
    refine ⟨rfl, sw_grown hS, some ⟨b, 0, none⟩, cap, ?_, ?_, ?_, fun x hx => ?_, fun h => ⟨b, 0, rfl, hS.lt hb2, fun k hk => ?_⟩⟩
    · simp
    · simp; omega
    · unfold maxLen at hb4; omega
    · rw [List.mem_mergeSort, List.mem_map] at hx
      obtain ⟨a, ha, rfl⟩ := hx
      have := hlt a ha
      unfold I64 castI
      omega
    · have hk2 : k < ((xs.map castI).mergeSort fun x y => decide (x ≤ y)).toArray.size := by simpa using hk
      rw [(hH2 k hk2).1]
      show some _ = some (Value.int .i64 (nth _ k))
      rw [nth_getElem _ _ (by simpa using hk)]
      have hk3 : k < xs.length := by simpa using hk
      simp [hk3]
end Go.Proofs.YtafkifjebimdaaaGreat
