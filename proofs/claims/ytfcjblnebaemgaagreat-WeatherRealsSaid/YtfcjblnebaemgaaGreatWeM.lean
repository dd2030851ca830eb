/- Contracts of package weather: only, a sight checked. -/
import Derived.Test.YtfcjblnebaemgaaGreatWeK
set_option linter.all false
namespace Go.Proofs.YtfcjblnebaemgaaGreat
open Go Go.RowKit Go.Proofs
set_option maxRecDepth 100000
set_option maxHeartbeats 4000000

theorem Tryz.sizeSky : (Tryz.prog.info? 25).map (·.size) = some 8 := by kernel_rfl
theorem oneS (b0 b1 b2 b3 b4 b5 : Int) (bi bs : Bool) : (#[.int .i64 b0, .int .i64 b1, .int .i64 b2, .int .i64 b3, .int .i64 b4, .int .i64 b5, .bool bi, .bool bs] : Array Value).all (·.oneCell') = true := by simp [Value.oneCell']
theorem rowBelow {B g : Nat} {w0 w : World} (hb : Below B w0 w) (hBg : B ≤ g) (cs : Array Value) : Below B w0 (w.setRow g cs) :=
  hb.trans ⟨rfl, rfl, rfl, by simp [World.setRow], fun k hk => setRow_other w g k cs (by omega)⟩

theorem only_c (we se ce : Int) (ic st : Bool) (w : World) : Calls Tryz.prog 33 #[.agg #[.int .i64 we, .int .i64 se, .int .i64 ce, .bool ic, .bool st]] w
    fun e w' => e = .returned (.agg #[.int .i64 we, .int .i64 we, .int .i64 se, .int .i64 se, .int .i64 ce, .int .i64 ce, .bool ic, .bool st]) ∧ Below w.heap.size w w' := by
  have eO := Tryz.entO
  have mixed : Tryz.prog.follows Departure.mixedOrders = true := by kernel_rfl
  go_enter Tryz.func33, Tryz.ntmps33
  go_wp2_with (fail)
  have bHX : Blk ((w.alloc (.cells #[.int .i64 we, .int .i64 se, .int .i64 ce, .bool ic, .bool st] 60)).alloc (.cells #[.int .i64 0, .int .i64 0, .int .i64 0, .int .i64 0, .int .i64 0, .int .i64 0, .bool false, .bool false] 25)) (w.heap.size) 60 #[.int .i64 we, .int .i64 se, .int .i64 ce, .bool ic, .bool st] := (by repeat (first | (refine Blk.newAt _ _ _ ?_; first | rfl | (simp; done)) | refine Blk.alloc ?_ _))
  have bHY : Blk ((w.alloc (.cells #[.int .i64 we, .int .i64 se, .int .i64 ce, .bool ic, .bool st] 60)).alloc (.cells #[.int .i64 0, .int .i64 0, .int .i64 0, .int .i64 0, .int .i64 0, .int .i64 0, .bool false, .bool false] 25)) (w.heap.size + 1) 25 #[.int .i64 0, .int .i64 0, .int .i64 0, .int .i64 0, .int .i64 0, .int .i64 0, .bool false, .bool false] := (by repeat (first | (refine Blk.newAt _ _ _ ?_; first | rfl | (simp; done)) | refine Blk.alloc ?_ _))
  have bHB : Below w.heap.size w ((w.alloc (.cells #[.int .i64 we, .int .i64 se, .int .i64 ce, .bool ic, .bool st] 60)).alloc (.cells #[.int .i64 0, .int .i64 0, .int .i64 0, .int .i64 0, .int .i64 0, .int .i64 0, .bool false, .bool false] 25)) := (by repeat' (first | exact Below.refl _ _ | assumption | refine Below.drew ?_ | refine bdn ?_ _ | refine bal ?_ _ | refine Below.setCell ?_ (by first | (simp; done) | omega | (simp; omega)) _))
  generalize ((w.alloc (.cells #[.int .i64 we, .int .i64 se, .int .i64 ce, .bool ic, .bool st] 60)).alloc (.cells #[.int .i64 0, .int .i64 0, .int .i64 0, .int .i64 0, .int .i64 0, .int .i64 0, .bool false, .bool false] 25)) = W at *
  have zW := bHY.lt
  have HX := Lib.hid bHX
  have HY := Lib.hid bHY
  have HB := Lib.hid bHB
  clear bHX bHY bHB
  have aHX0 := fun (r : After W) => (HX.out.below r.below).cell 0
  simp only [List.getElem?_toArray, List.getElem?_cons_succ, List.getElem?_cons_zero] at aHX0
  have aHX1 := fun (r : After W) => (HX.out.below r.below).cell 1
  simp only [List.getElem?_toArray, List.getElem?_cons_succ, List.getElem?_cons_zero] at aHX1
  have aHX2 := fun (r : After W) => (HX.out.below r.below).cell 2
  simp only [List.getElem?_toArray, List.getElem?_cons_succ, List.getElem?_cons_zero] at aHX2
  have aHX3 := fun (r : After W) => (HX.out.below r.below).cell 3
  simp only [List.getElem?_toArray, List.getElem?_cons_succ, List.getElem?_cons_zero] at aHX3
  have aHX4 := fun (r : After W) => (HX.out.below r.below).cell 4
  simp only [List.getElem?_toArray, List.getElem?_cons_succ, List.getElem?_cons_zero] at aHX4
  refine wp_region_aftert 17 (by kernel_rfl) (by kernel_rfl) ?_
  simp only [List.take_succ_cons, List.take_zero, List.drop_succ_cons, List.drop_zero]
  iterate 17 (go_big_quiet_step (first | (go_at_fn 61; refine qafter (only1_c _ _))))
  refine wpQuiet_nil ?_
  rintro _ ⟨r, rfl⟩
  have BR := r.below
  have HY2 := Lib.hid (HY.out.below r.below)
  go_wp2_with (first | (refine wpList_store_row rfl 25 _ _ rfl (w.heap.size + 1) _ rfl rfl 25 _ HY2.out Tryz.sizeSky rfl (oneS we we se se ce ce ic st) ?_; simp only [Act.put]))
  exact bodyPost_ret (res_c rfl _ _ _ 8 rfl (setRow_heap _ _ _ _ _ _ HY2.out) Tryz.rowSky rfl) rfl ⟨rfl, rowBelow (bthen HB.out BR) (by omega) _⟩

/-- A sight that Check refuses. -/
def siBad (pl e0 e1 we se ce : Int) : Bool := !inB e0 0 (pl - 1) || (!inB e1 0 2000 || !(Sk.mk we we se se ce ce false false).inr)
theorem sight_c (c1 c2 gc : Nat) (pl e0 e1 we se ce : Int) (ic st : Bool) (w : World) (h0 : w.cell? ⟨c1, 0, none⟩ = some (.func (.func 75) #[] #[.pointer (some ⟨gc, 0, none⟩)])) (h1 : w.cell? ⟨c2, 0, none⟩ = some (.func (.func 76) #[] #[]))
    (h2 : w.cell? ⟨gc, 0, none⟩ = some (.int .i64 pl)) (hp1 : 1 ≤ pl) (hp2 : pl ≤ 8) :
   Calls Tryz.prog 78 #[.agg #[.int .i64 e0, .int .i64 e1, .int .i64 we, .int .i64 se, .int .i64 ce, .bool ic, .bool st], .pointer (some ⟨c1, 0, none⟩), .pointer (some ⟨c2, 0, none⟩)] w
    fun e w' => e = .returned (.bool (siBad pl e0 e1 we se ce)) ∧ Below w.heap.size w w' := by
  have HC := Lib.hid (And.intro (fun w1 (h : Below w.heap.size w w1) => (h.cell (p := ⟨c1, 0, none⟩) (blk_lt h0)).trans h0) (And.intro (fun w1 (h : Below w.heap.size w w1) => (h.cell (p := ⟨c2, 0, none⟩) (blk_lt h1)).trans h1) (fun w1 (h : Below w.heap.size w w1) => (h.cell (p := ⟨gc, 0, none⟩) (blk_lt h2)).trans h2)))
  have eP := Tryz.entP
  have eT := Tryz.entT
  clear h0 h1 h2
  unfold siBad
  have hsk := fun w1 => sky_c ⟨we, we, se, se, ce, ce, ic, st⟩ w1
  have es : (Sk.mk we we se se ce ce ic st).inr = (Sk.mk we we se se ce ce false false).inr := rfl
  rw [es] at hsk
  dsimp only at hsk
  cases b2 : (Sk.mk we we se se ce ce false false).inr
  all_goals
    rw [b2] at hsk
    have HSK := Lib.hid hsk
    clear hsk es b2
    cases b0 : inB e0 0 (pl - 1)
    all_goals cases b1 : inB e1 0 2000
    all_goals
      have k0 := HC.out.1 (w.alloc (.cells #[.int .i64 e0, .int .i64 e1, .int .i64 we, .int .i64 se, .int .i64 ce, .bool ic, .bool st] 80)) (bal (Below.refl _ _) _)
      have k1 := HC.out.2.1 (w.alloc (.cells #[.int .i64 e0, .int .i64 e1, .int .i64 we, .int .i64 se, .int .i64 ce, .bool ic, .bool st] 80)) (bal (Below.refl _ _) _)
      have k2 := HC.out.2.2 (w.alloc (.cells #[.int .i64 e0, .int .i64 e1, .int .i64 we, .int .i64 se, .int .i64 ce, .bool ic, .bool st] 80)) (bal (Below.refl _ _) _)
      go_enter Tryz.func78, Tryz.ntmps78
      go_wp2_with (first | (go_at_fn 75; refine (place_c gc _ pl _ k2 hp1 hp2).mono ?_; rintro e w' ⟨rfl, rfl⟩) | (go_at_fn 76; refine (time_c _ _).mono ?_; rintro e w' ⟨rfl, rfl⟩) | (go_at_call 33; (with_reducible refine (only_c we se ce ic st _).mono ?_); rintro e w1 ⟨rfl, hb1⟩; have hB1 := bthen (show Below w.heap.size w _ from (by repeat' (first | exact Below.refl _ _ | assumption | refine Below.drew ?_ | refine bdn ?_ _ | refine bal ?_ _ | refine Below.setCell ?_ (by first | (simp; done) | omega | (simp; omega)) _))) hb1; have hz1 := hb1.size; (try simp at hz1); obtain ⟨hc1, hf1⟩ := bcell hb1; first | (have hE1 := bthen2 hE (by repeat' (first | exact Below.refl _ _ | refine Below.drew ?_ | refine bdn ?_ _ | refine bal ?_ _ | refine Below.setCell ?_ (by first | (simp; done) | omega | (simp; omega)) _)) hb1; clear hE; have hE := hE1; clear hE1; obtain ⟨hd1, hg1⟩ := bcell hE) | (have hE := hb1)) | (go_at_call 32; (with_reducible refine (HSK.out _).mono ?_); rintro e w1 ⟨rfl, hb1⟩; have hB1 := bthen (show Below w.heap.size w _ from (by repeat' (first | exact Below.refl _ _ | assumption | refine Below.drew ?_ | refine bdn ?_ _ | refine bal ?_ _ | refine Below.setCell ?_ (by first | (simp; done) | omega | (simp; omega)) _))) hb1; have hz1 := hb1.size; (try simp at hz1); obtain ⟨hc1, hf1⟩ := bcell hb1; first | (have hE1 := bthen2 hE (by repeat' (first | exact Below.refl _ _ | refine Below.drew ?_ | refine bdn ?_ _ | refine bal ?_ _ | refine Below.setCell ?_ (by first | (simp; done) | omega | (simp; omega)) _)) hb1; clear hE; have hE := hE1; clear hE1; obtain ⟨hd1, hg1⟩ := bcell hE) | (have hE := hb1)))
      go_ret
      exact ⟨ret_bool (by simp [b0, b1]), (by repeat' (first | exact Below.refl _ _ | assumption | refine Below.drew ?_ | refine bdn ?_ _ | refine bal ?_ _ | refine Below.setCell ?_ (by first | (simp; done) | omega | (simp; omega)) _))⟩
end Go.Proofs.YtfcjblnebaemgaaGreat
