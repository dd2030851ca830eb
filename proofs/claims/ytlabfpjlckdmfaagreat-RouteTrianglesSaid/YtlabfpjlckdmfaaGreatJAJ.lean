/- Texts joined: JAJ. -/
import Derived.Test.YtlabfpjlckdmfaaGreatJAI
set_option linter.all false
namespace Go.Proofs.YtlabfpjlckdmfaaGreat
open Go Go.RowKit Go.Proofs
set_option maxRecDepth 100000
set_option maxHeartbeats 4000000
theorem Tryz.entP : ∀ args w, (callFunc 68 args).run Tryz.prog w = .ok (.enter 68 args) w := enters_of Tryz.func68 (by kernel_rfl) rfl
theorem Tryz.entT : ∀ args w, (callFunc 70 args).run Tryz.prog w = .ok (.enter 70 args) w := enters_of Tryz.func70 (by kernel_rfl) rfl
theorem Tryz.entF : ∀ args w, (callFunc 71 args).run Tryz.prog w = .ok (.enter 71 args) w := enters_of Tryz.func71 (by kernel_rfl) rfl
theorem Tryz.entS : ∀ args w, (callFunc 73 args).run Tryz.prog w = .ok (.enter 73 args) w := enters_of Tryz.func73 (by kernel_rfl) rfl
theorem Tryz.entB : ∀ args w, (callFunc 75 args).run Tryz.prog w = .ok (.enter 75 args) w := enters_of Tryz.func75 (by kernel_rfl) rfl
theorem Tryz.entO : ∀ args w, (callFunc 90 args).run Tryz.prog w = .ok (.enter 90 args) w := enters_of Tryz.func90 (by kernel_rfl) rfl
theorem place_c (gm : Nat) (n pl : Int) (w : World) (h : w.cell? ⟨gm, 0, none⟩ = some (.int .i64 pl)) (h1 : 1 ≤ pl) (h2 : pl ≤ 8) :
  Calls Tryz.prog 68 #[.int .i64 n, .pointer (some ⟨gm, 0, none⟩)] w fun e w' => e = .returned (.bool (inB n 0 (pl - 1))) ∧ w = w' := by
 go_enter Tryz.func68, Tryz.ntmps68
 go_wp2_with (first | (go_at_call 69; (with_reducible refine (wwithin_c _ _ _ _).mono ?_); rintro e w1 ⟨rfl, rfl⟩))
 go_ret
 exact ⟨rfl, rfl⟩
theorem time_c (n : Int) (w : World) :
  Calls Tryz.prog 70 #[.int .i64 n] w fun e w' => e = .returned (.bool (inB n 0 2000)) ∧ w = w' := by
 go_enter Tryz.func70, Tryz.ntmps70
 go_wp2_with (first | (go_at_call 69; (with_reducible refine (wwithin_c _ _ _ _).mono ?_); rintro e w1 ⟨rfl, rfl⟩))
 go_ret
 exact ⟨rfl, rfl⟩
theorem beyond_c (n : Int) (w : World) :
  Calls Tryz.prog 75 #[.int .i64 n] w fun e w' => e = .returned (.bool (!inB n 0 20000)) ∧ w = w' := by
 go_enter Tryz.func75, Tryz.ntmps75
 go_wp2_with (first | (go_at_call 69; (with_reducible refine (wwithin_c _ _ _ _).mono ?_); rintro e w1 ⟨rfl, rfl⟩))
 go_ret
 exact ⟨rfl, rfl⟩
def fcBad (pl d0 d1 d2 d3 : Int) (x : Sk) : Bool := !inB d0 0 (pl - 1) || (!inB d1 0 2000 || (!inB d2 0 2000 || (decide (d2 ≤ d1) || (!inB d3 0 2000 || !x.inr))))
theorem fcast_c (c1 c2 gc : Nat) (pl d0 d1 d2 d3 : Int) (x : Sk) (w : World) (h0 : w.cell? ⟨c1, 0, none⟩ = some (.func (.func 68) #[] #[.pointer (some ⟨gc, 0, none⟩)])) (h1 : w.cell? ⟨c2, 0, none⟩ = some (.func (.func 70) #[] #[]))
  (h2 : w.cell? ⟨gc, 0, none⟩ = some (.int .i64 pl)) (hp1 : 1 ≤ pl) (hp2 : pl ≤ 8) :
  Calls Tryz.prog 71 #[.agg #[.int .i64 d0, .int .i64 d1, .int .i64 d2, .int .i64 d3, .int .i64 x.a0, .int .i64 x.a1, .int .i64 x.a2, .int .i64 x.a3, .int .i64 x.a4, .int .i64 x.a5, .bool x.i, .bool x.s], .pointer (some ⟨c1, 0, none⟩), .pointer (some ⟨c2, 0, none⟩)] w
  fun e w' => e = .returned (.bool (fcBad pl d0 d1 d2 d3 x)) ∧ Below w.heap.size w w' := by
 have HC := hI9 (And.intro (fun w1 (h : Below w.heap.size w w1) => (h.cell (p := ⟨c1, 0, none⟩) (blk_lt h0)).trans h0) (And.intro (fun w1 (h : Below w.heap.size w w1) => (h.cell (p := ⟨c2, 0, none⟩) (blk_lt h1)).trans h1) (fun w1 (h : Below w.heap.size w w1) => (h.cell (p := ⟨gc, 0, none⟩) (blk_lt h2)).trans h2)))
 have eP := Tryz.entP
 have eT := Tryz.entT
 clear h0 h1 h2
 unfold fcBad
 cases b0 : inB d0 0 (pl - 1)
 ·skip
  have k0 := HC.out.1 (w.alloc (.cells #[.int .i64 d0, .int .i64 d1, .int .i64 d2, .int .i64 d3, .int .i64 x.a0, .int .i64 x.a1, .int .i64 x.a2, .int .i64 x.a3, .int .i64 x.a4, .int .i64 x.a5, .bool x.i, .bool x.s] 98)) (bal (Below.refl _ _) _)
  have k1 := HC.out.2.1 (w.alloc (.cells #[.int .i64 d0, .int .i64 d1, .int .i64 d2, .int .i64 d3, .int .i64 x.a0, .int .i64 x.a1, .int .i64 x.a2, .int .i64 x.a3, .int .i64 x.a4, .int .i64 x.a5, .bool x.i, .bool x.s] 98)) (bal (Below.refl _ _) _)
  have k2 := HC.out.2.2 (w.alloc (.cells #[.int .i64 d0, .int .i64 d1, .int .i64 d2, .int .i64 d3, .int .i64 x.a0, .int .i64 x.a1, .int .i64 x.a2, .int .i64 x.a3, .int .i64 x.a4, .int .i64 x.a5, .bool x.i, .bool x.s] 98)) (bal (Below.refl _ _) _)
  go_enter Tryz.func71, Tryz.ntmps71
  go_wp2_with (first | (go_at_fn 68; refine (place_c gc _ pl _ k2 hp1 hp2).mono ?_; rintro e w' ⟨rfl, rfl⟩) | (go_at_fn 70; refine (time_c _ _).mono ?_; rintro e w' ⟨rfl, rfl⟩) | (go_at_call 72; (with_reducible refine (sky_c x _).mono ?_); rintro e w1 ⟨rfl, hb1⟩; have hB1 := bthen (show Below w.heap.size w _ from (by repeat' (first | exact Below.refl _ _ | assumption | refine Below.drew ?_ | refine bdn ?_ _ | refine bal ?_ _ | refine Below.setCell ?_ (by first | (simp; done) | omega | (simp; omega)) _))) hb1; have hz1 := hb1.size; (try simp at hz1); obtain ⟨hc1, hf1⟩ := bcell hb1; first | (have hE1 := bthen2 hE (by repeat' (first | exact Below.refl _ _ | refine Below.drew ?_ | refine bdn ?_ _ | refine bal ?_ _ | refine Below.setCell ?_ (by first | (simp; done) | omega | (simp; omega)) _)) hb1; clear hE; have hE := hE1; clear hE1; obtain ⟨hd1, hg1⟩ := bcell hE) | (have hE := hb1)))
  go_ret
  exact ⟨ret_bool (by simp [b0]), (by repeat' (first | exact Below.refl _ _ | assumption | refine Below.drew ?_ | refine bdn ?_ _ | refine bal ?_ _ | refine Below.setCell ?_ (by first | (simp; done) | omega | (simp; omega)) _))⟩
 ·skip
  cases b1 : inB d1 0 2000
  ·skip
   have k0 := HC.out.1 (w.alloc (.cells #[.int .i64 d0, .int .i64 d1, .int .i64 d2, .int .i64 d3, .int .i64 x.a0, .int .i64 x.a1, .int .i64 x.a2, .int .i64 x.a3, .int .i64 x.a4, .int .i64 x.a5, .bool x.i, .bool x.s] 98)) (bal (Below.refl _ _) _)
   have k1 := HC.out.2.1 (w.alloc (.cells #[.int .i64 d0, .int .i64 d1, .int .i64 d2, .int .i64 d3, .int .i64 x.a0, .int .i64 x.a1, .int .i64 x.a2, .int .i64 x.a3, .int .i64 x.a4, .int .i64 x.a5, .bool x.i, .bool x.s] 98)) (bal (Below.refl _ _) _)
   have k2 := HC.out.2.2 (w.alloc (.cells #[.int .i64 d0, .int .i64 d1, .int .i64 d2, .int .i64 d3, .int .i64 x.a0, .int .i64 x.a1, .int .i64 x.a2, .int .i64 x.a3, .int .i64 x.a4, .int .i64 x.a5, .bool x.i, .bool x.s] 98)) (bal (Below.refl _ _) _)
   go_enter Tryz.func71, Tryz.ntmps71
   go_wp2_with (first | (go_at_fn 68; refine (place_c gc _ pl _ k2 hp1 hp2).mono ?_; rintro e w' ⟨rfl, rfl⟩) | (go_at_fn 70; refine (time_c _ _).mono ?_; rintro e w' ⟨rfl, rfl⟩) | (go_at_call 72; (with_reducible refine (sky_c x _).mono ?_); rintro e w1 ⟨rfl, hb1⟩; have hB1 := bthen (show Below w.heap.size w _ from (by repeat' (first | exact Below.refl _ _ | assumption | refine Below.drew ?_ | refine bdn ?_ _ | refine bal ?_ _ | refine Below.setCell ?_ (by first | (simp; done) | omega | (simp; omega)) _))) hb1; have hz1 := hb1.size; (try simp at hz1); obtain ⟨hc1, hf1⟩ := bcell hb1; first | (have hE1 := bthen2 hE (by repeat' (first | exact Below.refl _ _ | refine Below.drew ?_ | refine bdn ?_ _ | refine bal ?_ _ | refine Below.setCell ?_ (by first | (simp; done) | omega | (simp; omega)) _)) hb1; clear hE; have hE := hE1; clear hE1; obtain ⟨hd1, hg1⟩ := bcell hE) | (have hE := hb1)))
   go_ret
   exact ⟨ret_bool (by simp [b0, b1]), (by repeat' (first | exact Below.refl _ _ | assumption | refine Below.drew ?_ | refine bdn ?_ _ | refine bal ?_ _ | refine Below.setCell ?_ (by first | (simp; done) | omega | (simp; omega)) _))⟩
  ·skip
   cases b2 : inB d2 0 2000
   ·skip
    have k0 := HC.out.1 (w.alloc (.cells #[.int .i64 d0, .int .i64 d1, .int .i64 d2, .int .i64 d3, .int .i64 x.a0, .int .i64 x.a1, .int .i64 x.a2, .int .i64 x.a3, .int .i64 x.a4, .int .i64 x.a5, .bool x.i, .bool x.s] 98)) (bal (Below.refl _ _) _)
    have k1 := HC.out.2.1 (w.alloc (.cells #[.int .i64 d0, .int .i64 d1, .int .i64 d2, .int .i64 d3, .int .i64 x.a0, .int .i64 x.a1, .int .i64 x.a2, .int .i64 x.a3, .int .i64 x.a4, .int .i64 x.a5, .bool x.i, .bool x.s] 98)) (bal (Below.refl _ _) _)
    have k2 := HC.out.2.2 (w.alloc (.cells #[.int .i64 d0, .int .i64 d1, .int .i64 d2, .int .i64 d3, .int .i64 x.a0, .int .i64 x.a1, .int .i64 x.a2, .int .i64 x.a3, .int .i64 x.a4, .int .i64 x.a5, .bool x.i, .bool x.s] 98)) (bal (Below.refl _ _) _)
    go_enter Tryz.func71, Tryz.ntmps71
    go_wp2_with (first | (go_at_fn 68; refine (place_c gc _ pl _ k2 hp1 hp2).mono ?_; rintro e w' ⟨rfl, rfl⟩) | (go_at_fn 70; refine (time_c _ _).mono ?_; rintro e w' ⟨rfl, rfl⟩) | (go_at_call 72; (with_reducible refine (sky_c x _).mono ?_); rintro e w1 ⟨rfl, hb1⟩; have hB1 := bthen (show Below w.heap.size w _ from (by repeat' (first | exact Below.refl _ _ | assumption | refine Below.drew ?_ | refine bdn ?_ _ | refine bal ?_ _ | refine Below.setCell ?_ (by first | (simp; done) | omega | (simp; omega)) _))) hb1; have hz1 := hb1.size; (try simp at hz1); obtain ⟨hc1, hf1⟩ := bcell hb1; first | (have hE1 := bthen2 hE (by repeat' (first | exact Below.refl _ _ | refine Below.drew ?_ | refine bdn ?_ _ | refine bal ?_ _ | refine Below.setCell ?_ (by first | (simp; done) | omega | (simp; omega)) _)) hb1; clear hE; have hE := hE1; clear hE1; obtain ⟨hd1, hg1⟩ := bcell hE) | (have hE := hb1)))
    go_ret
    exact ⟨ret_bool (by simp [b0, b1, b2]), (by repeat' (first | exact Below.refl _ _ | assumption | refine Below.drew ?_ | refine bdn ?_ _ | refine bal ?_ _ | refine Below.setCell ?_ (by first | (simp; done) | omega | (simp; omega)) _))⟩
   ·skip
    by_cases b3 : d2 ≤ d1
    ·have b3d : decide (d2 ≤ d1) = true := decide_eq_true b3
     have k0 := HC.out.1 (w.alloc (.cells #[.int .i64 d0, .int .i64 d1, .int .i64 d2, .int .i64 d3, .int .i64 x.a0, .int .i64 x.a1, .int .i64 x.a2, .int .i64 x.a3, .int .i64 x.a4, .int .i64 x.a5, .bool x.i, .bool x.s] 98)) (bal (Below.refl _ _) _)
     have k1 := HC.out.2.1 (w.alloc (.cells #[.int .i64 d0, .int .i64 d1, .int .i64 d2, .int .i64 d3, .int .i64 x.a0, .int .i64 x.a1, .int .i64 x.a2, .int .i64 x.a3, .int .i64 x.a4, .int .i64 x.a5, .bool x.i, .bool x.s] 98)) (bal (Below.refl _ _) _)
     have k2 := HC.out.2.2 (w.alloc (.cells #[.int .i64 d0, .int .i64 d1, .int .i64 d2, .int .i64 d3, .int .i64 x.a0, .int .i64 x.a1, .int .i64 x.a2, .int .i64 x.a3, .int .i64 x.a4, .int .i64 x.a5, .bool x.i, .bool x.s] 98)) (bal (Below.refl _ _) _)
     go_enter Tryz.func71, Tryz.ntmps71
     go_wp2_with (first | (go_at_fn 68; refine (place_c gc _ pl _ k2 hp1 hp2).mono ?_; rintro e w' ⟨rfl, rfl⟩) | (go_at_fn 70; refine (time_c _ _).mono ?_; rintro e w' ⟨rfl, rfl⟩) | (go_at_call 72; (with_reducible refine (sky_c x _).mono ?_); rintro e w1 ⟨rfl, hb1⟩; have hB1 := bthen (show Below w.heap.size w _ from (by repeat' (first | exact Below.refl _ _ | assumption | refine Below.drew ?_ | refine bdn ?_ _ | refine bal ?_ _ | refine Below.setCell ?_ (by first | (simp; done) | omega | (simp; omega)) _))) hb1; have hz1 := hb1.size; (try simp at hz1); obtain ⟨hc1, hf1⟩ := bcell hb1; first | (have hE1 := bthen2 hE (by repeat' (first | exact Below.refl _ _ | refine Below.drew ?_ | refine bdn ?_ _ | refine bal ?_ _ | refine Below.setCell ?_ (by first | (simp; done) | omega | (simp; omega)) _)) hb1; clear hE; have hE := hE1; clear hE1; obtain ⟨hd1, hg1⟩ := bcell hE) | (have hE := hb1)))
     go_ret
     exact ⟨ret_bool (by simp [b0, b1, b2, b3d]), (by repeat' (first | exact Below.refl _ _ | assumption | refine Below.drew ?_ | refine bdn ?_ _ | refine bal ?_ _ | refine Below.setCell ?_ (by first | (simp; done) | omega | (simp; omega)) _))⟩
    ·have b3d : decide (d2 ≤ d1) = false := decide_eq_false b3
     have b3n : d1 < d2 := by omega
     cases b4 : inB d3 0 2000
     ·skip
      have k0 := HC.out.1 (w.alloc (.cells #[.int .i64 d0, .int .i64 d1, .int .i64 d2, .int .i64 d3, .int .i64 x.a0, .int .i64 x.a1, .int .i64 x.a2, .int .i64 x.a3, .int .i64 x.a4, .int .i64 x.a5, .bool x.i, .bool x.s] 98)) (bal (Below.refl _ _) _)
      have k1 := HC.out.2.1 (w.alloc (.cells #[.int .i64 d0, .int .i64 d1, .int .i64 d2, .int .i64 d3, .int .i64 x.a0, .int .i64 x.a1, .int .i64 x.a2, .int .i64 x.a3, .int .i64 x.a4, .int .i64 x.a5, .bool x.i, .bool x.s] 98)) (bal (Below.refl _ _) _)
      have k2 := HC.out.2.2 (w.alloc (.cells #[.int .i64 d0, .int .i64 d1, .int .i64 d2, .int .i64 d3, .int .i64 x.a0, .int .i64 x.a1, .int .i64 x.a2, .int .i64 x.a3, .int .i64 x.a4, .int .i64 x.a5, .bool x.i, .bool x.s] 98)) (bal (Below.refl _ _) _)
      go_enter Tryz.func71, Tryz.ntmps71
      go_wp2_with (first | (go_at_fn 68; refine (place_c gc _ pl _ k2 hp1 hp2).mono ?_; rintro e w' ⟨rfl, rfl⟩) | (go_at_fn 70; refine (time_c _ _).mono ?_; rintro e w' ⟨rfl, rfl⟩) | (go_at_call 72; (with_reducible refine (sky_c x _).mono ?_); rintro e w1 ⟨rfl, hb1⟩; have hB1 := bthen (show Below w.heap.size w _ from (by repeat' (first | exact Below.refl _ _ | assumption | refine Below.drew ?_ | refine bdn ?_ _ | refine bal ?_ _ | refine Below.setCell ?_ (by first | (simp; done) | omega | (simp; omega)) _))) hb1; have hz1 := hb1.size; (try simp at hz1); obtain ⟨hc1, hf1⟩ := bcell hb1; first | (have hE1 := bthen2 hE (by repeat' (first | exact Below.refl _ _ | refine Below.drew ?_ | refine bdn ?_ _ | refine bal ?_ _ | refine Below.setCell ?_ (by first | (simp; done) | omega | (simp; omega)) _)) hb1; clear hE; have hE := hE1; clear hE1; obtain ⟨hd1, hg1⟩ := bcell hE) | (have hE := hb1)))
      go_ret
      exact ⟨ret_bool (by simp [b0, b1, b2, b3d, b4]), (by repeat' (first | exact Below.refl _ _ | assumption | refine Below.drew ?_ | refine bdn ?_ _ | refine bal ?_ _ | refine Below.setCell ?_ (by first | (simp; done) | omega | (simp; omega)) _))⟩
     ·skip
      cases b5 : x.inr
      ·skip
       have k0 := HC.out.1 (w.alloc (.cells #[.int .i64 d0, .int .i64 d1, .int .i64 d2, .int .i64 d3, .int .i64 x.a0, .int .i64 x.a1, .int .i64 x.a2, .int .i64 x.a3, .int .i64 x.a4, .int .i64 x.a5, .bool x.i, .bool x.s] 98)) (bal (Below.refl _ _) _)
       have k1 := HC.out.2.1 (w.alloc (.cells #[.int .i64 d0, .int .i64 d1, .int .i64 d2, .int .i64 d3, .int .i64 x.a0, .int .i64 x.a1, .int .i64 x.a2, .int .i64 x.a3, .int .i64 x.a4, .int .i64 x.a5, .bool x.i, .bool x.s] 98)) (bal (Below.refl _ _) _)
       have k2 := HC.out.2.2 (w.alloc (.cells #[.int .i64 d0, .int .i64 d1, .int .i64 d2, .int .i64 d3, .int .i64 x.a0, .int .i64 x.a1, .int .i64 x.a2, .int .i64 x.a3, .int .i64 x.a4, .int .i64 x.a5, .bool x.i, .bool x.s] 98)) (bal (Below.refl _ _) _)
       go_enter Tryz.func71, Tryz.ntmps71
       go_wp2_with (first | (go_at_fn 68; refine (place_c gc _ pl _ k2 hp1 hp2).mono ?_; rintro e w' ⟨rfl, rfl⟩) | (go_at_fn 70; refine (time_c _ _).mono ?_; rintro e w' ⟨rfl, rfl⟩) | (go_at_call 72; (with_reducible refine (sky_c x _).mono ?_); rintro e w1 ⟨rfl, hb1⟩; have hB1 := bthen (show Below w.heap.size w _ from (by repeat' (first | exact Below.refl _ _ | assumption | refine Below.drew ?_ | refine bdn ?_ _ | refine bal ?_ _ | refine Below.setCell ?_ (by first | (simp; done) | omega | (simp; omega)) _))) hb1; have hz1 := hb1.size; (try simp at hz1); obtain ⟨hc1, hf1⟩ := bcell hb1; first | (have hE1 := bthen2 hE (by repeat' (first | exact Below.refl _ _ | refine Below.drew ?_ | refine bdn ?_ _ | refine bal ?_ _ | refine Below.setCell ?_ (by first | (simp; done) | omega | (simp; omega)) _)) hb1; clear hE; have hE := hE1; clear hE1; obtain ⟨hd1, hg1⟩ := bcell hE) | (have hE := hb1)))
       go_ret
       exact ⟨ret_bool (by simp [b0, b1, b2, b3d, b4, b5]), (by repeat' (first | exact Below.refl _ _ | assumption | refine Below.drew ?_ | refine bdn ?_ _ | refine bal ?_ _ | refine Below.setCell ?_ (by first | (simp; done) | omega | (simp; omega)) _))⟩
      ·skip
       have k0 := HC.out.1 (w.alloc (.cells #[.int .i64 d0, .int .i64 d1, .int .i64 d2, .int .i64 d3, .int .i64 x.a0, .int .i64 x.a1, .int .i64 x.a2, .int .i64 x.a3, .int .i64 x.a4, .int .i64 x.a5, .bool x.i, .bool x.s] 98)) (bal (Below.refl _ _) _)
       have k1 := HC.out.2.1 (w.alloc (.cells #[.int .i64 d0, .int .i64 d1, .int .i64 d2, .int .i64 d3, .int .i64 x.a0, .int .i64 x.a1, .int .i64 x.a2, .int .i64 x.a3, .int .i64 x.a4, .int .i64 x.a5, .bool x.i, .bool x.s] 98)) (bal (Below.refl _ _) _)
       have k2 := HC.out.2.2 (w.alloc (.cells #[.int .i64 d0, .int .i64 d1, .int .i64 d2, .int .i64 d3, .int .i64 x.a0, .int .i64 x.a1, .int .i64 x.a2, .int .i64 x.a3, .int .i64 x.a4, .int .i64 x.a5, .bool x.i, .bool x.s] 98)) (bal (Below.refl _ _) _)
       go_enter Tryz.func71, Tryz.ntmps71
       go_wp2_with (first | (go_at_fn 68; refine (place_c gc _ pl _ k2 hp1 hp2).mono ?_; rintro e w' ⟨rfl, rfl⟩) | (go_at_fn 70; refine (time_c _ _).mono ?_; rintro e w' ⟨rfl, rfl⟩) | (go_at_call 72; (with_reducible refine (sky_c x _).mono ?_); rintro e w1 ⟨rfl, hb1⟩; have hB1 := bthen (show Below w.heap.size w _ from (by repeat' (first | exact Below.refl _ _ | assumption | refine Below.drew ?_ | refine bdn ?_ _ | refine bal ?_ _ | refine Below.setCell ?_ (by first | (simp; done) | omega | (simp; omega)) _))) hb1; have hz1 := hb1.size; (try simp at hz1); obtain ⟨hc1, hf1⟩ := bcell hb1; first | (have hE1 := bthen2 hE (by repeat' (first | exact Below.refl _ _ | refine Below.drew ?_ | refine bdn ?_ _ | refine bal ?_ _ | refine Below.setCell ?_ (by first | (simp; done) | omega | (simp; omega)) _)) hb1; clear hE; have hE := hE1; clear hE1; obtain ⟨hd1, hg1⟩ := bcell hE) | (have hE := hb1)))
       go_ret
       exact ⟨ret_bool (by simp [b0, b1, b2, b3d, b4, b5]), (by repeat' (first | exact Below.refl _ _ | assumption | refine Below.drew ?_ | refine bdn ?_ _ | refine bal ?_ _ | refine Below.setCell ?_ (by first | (simp; done) | omega | (simp; omega)) _))⟩
end Go.Proofs.YtlabfpjlckdmfaaGreat

namespace Go.Proofs.YtlabfpjlckdmfaaGreat
open Go Go.RowKit Go.Proofs
set_option maxRecDepth 100000
set_option maxHeartbeats 4000000
theorem Tryz.sizeSky : (Tryz.prog.info? 25).map (·.size) = some 8 := by kernel_rfl
theorem oneS (b0 b1 b2 b3 b4 b5 : Int) (bi bs : Bool) : (#[.int .i64 b0, .int .i64 b1, .int .i64 b2, .int .i64 b3, .int .i64 b4, .int .i64 b5, .bool bi, .bool bs] : Array Value).all (·.oneCell') = true := by simp [Value.oneCell']
theorem rowBelow {B g : Nat} {w0 w : World} (hb : Below B w0 w) (hBg : B ≤ g) (cs : Array Value) : Below B w0 (w.setRow g cs) :=
 hb.trans ⟨rfl, rfl, rfl, by simp [World.setRow], fun k hk => setRow_other w g k cs (by omega)⟩
theorem only_c (we se ce : Int) (ic st : Bool) (w : World) : Calls Tryz.prog 74 #[.agg #[.int .i64 we, .int .i64 se, .int .i64 ce, .bool ic, .bool st]] w
  fun e w' => e = .returned (.agg #[.int .i64 we, .int .i64 we, .int .i64 se, .int .i64 se, .int .i64 ce, .int .i64 ce, .bool ic, .bool st]) ∧ Below w.heap.size w w' := by
 have eO := Tryz.entO
 have mixed : Tryz.prog.follows Departure.mixedOrders = true := by kernel_rfl
 go_enter Tryz.func74, Tryz.ntmps74
 go_wp2_with (fail)
 have _x := frm2 w #[.int .i64 we, .int .i64 se, .int .i64 ce, .bool ic, .bool st] 99 #[.int .i64 0, .int .i64 0, .int .i64 0, .int .i64 0, .int .i64 0, .int .i64 0, .bool false, .bool false] 25
 have HX := hI9 _x.1
 have HY := hI9 _x.2.1
 have HB := hI9 _x.2.2.1
 have zW := _x.2.2.2
 clear _x
 generalize World.alloc (World.alloc w _) _ = W at *
 have aHX0 := fun (r : After W) => (HX.out.below r.below).cell 0
 simp only [gtA, gtS, gtZ] at aHX0
 have aHX1 := fun (r : After W) => (HX.out.below r.below).cell 1
 simp only [gtA, gtS, gtZ] at aHX1
 have aHX2 := fun (r : After W) => (HX.out.below r.below).cell 2
 simp only [gtA, gtS, gtZ] at aHX2
 have aHX3 := fun (r : After W) => (HX.out.below r.below).cell 3
 simp only [gtA, gtS, gtZ] at aHX3
 have aHX4 := fun (r : After W) => (HX.out.below r.below).cell 4
 simp only [gtA, gtS, gtZ] at aHX4
 refine wp_region_aftert 17 (by kernel_rfl) (by kernel_rfl) ?_
 simp only [List.take_succ_cons, List.take_zero, List.drop_succ_cons, List.drop_zero]
 iterate 17 (go_big_quiet_step (first | (go_at_fn 90; refine qafter (only1_c _ _))))
 refine wpQuiet_nil ?_
 rintro _ ⟨r, rfl⟩
 have BR := r.below
 have HY2 := hI9 (HY.out.below r.below)
 go_wp2_with (first | (refine wpList_store_row rfl 25 _ _ rfl (w.heap.size + 1) _ rfl rfl 25 _ HY2.out Tryz.sizeSky rfl (oneS we we se se ce ce ic st) ?_; simp only [Act.put]))
 exact bodyPost_ret (res_c rfl _ _ _ 8 rfl (setRow_heap _ _ _ _ _ _ HY2.out) Tryz.rowSky rfl) rfl ⟨rfl, rowBelow (bthen HB.out BR) (by omega) _⟩
def siBad (pl e0 e1 we se ce : Int) : Bool := !inB e0 0 (pl - 1) || (!inB e1 0 2000 || !(Sk.mk we we se se ce ce false false).inr)
theorem sight_c (c1 c2 gc : Nat) (pl e0 e1 we se ce : Int) (ic st : Bool) (w : World) (h0 : w.cell? ⟨c1, 0, none⟩ = some (.func (.func 68) #[] #[.pointer (some ⟨gc, 0, none⟩)])) (h1 : w.cell? ⟨c2, 0, none⟩ = some (.func (.func 70) #[] #[]))
  (h2 : w.cell? ⟨gc, 0, none⟩ = some (.int .i64 pl)) (hp1 : 1 ≤ pl) (hp2 : pl ≤ 8) :
  Calls Tryz.prog 73 #[.agg #[.int .i64 e0, .int .i64 e1, .int .i64 we, .int .i64 se, .int .i64 ce, .bool ic, .bool st], .pointer (some ⟨c1, 0, none⟩), .pointer (some ⟨c2, 0, none⟩)] w
  fun e w' => e = .returned (.bool (siBad pl e0 e1 we se ce)) ∧ Below w.heap.size w w' := by
 have HC := hI9 (And.intro (fun w1 (h : Below w.heap.size w w1) => (h.cell (p := ⟨c1, 0, none⟩) (blk_lt h0)).trans h0) (And.intro (fun w1 (h : Below w.heap.size w w1) => (h.cell (p := ⟨c2, 0, none⟩) (blk_lt h1)).trans h1) (fun w1 (h : Below w.heap.size w w1) => (h.cell (p := ⟨gc, 0, none⟩) (blk_lt h2)).trans h2)))
 have eP := Tryz.entP
 have eT := Tryz.entT
 clear h0 h1 h2
 unfold siBad
 have hsk := fun w1 => sky_c ⟨we, we, se, se, ce, ce, ic, st⟩ w1
 have es : (Sk.mk we we se se ce ce ic st).inr = (Sk.mk we we se se ce ce false false).inr := rfl
 rw [es] at hsk
 dsimp only at hsk
 cases b2 : (Sk.mk we we se se ce ce false false).inr
 all_goals
  rw [b2] at hsk
  have HSK := hI9 hsk
  clear hsk es b2
  cases b0 : inB e0 0 (pl - 1)
  all_goals cases b1 : inB e1 0 2000
  all_goals
   have k0 := HC.out.1 (w.alloc (.cells #[.int .i64 e0, .int .i64 e1, .int .i64 we, .int .i64 se, .int .i64 ce, .bool ic, .bool st] 101)) (bal (Below.refl _ _) _)
   have k1 := HC.out.2.1 (w.alloc (.cells #[.int .i64 e0, .int .i64 e1, .int .i64 we, .int .i64 se, .int .i64 ce, .bool ic, .bool st] 101)) (bal (Below.refl _ _) _)
   have k2 := HC.out.2.2 (w.alloc (.cells #[.int .i64 e0, .int .i64 e1, .int .i64 we, .int .i64 se, .int .i64 ce, .bool ic, .bool st] 101)) (bal (Below.refl _ _) _)
   go_enter Tryz.func73, Tryz.ntmps73
   go_wp2_with (first | (go_at_fn 68; refine (place_c gc _ pl _ k2 hp1 hp2).mono ?_; rintro e w' ⟨rfl, rfl⟩) | (go_at_fn 70; refine (time_c _ _).mono ?_; rintro e w' ⟨rfl, rfl⟩) | (go_at_call 74; (with_reducible refine (only_c we se ce ic st _).mono ?_); rintro e w1 ⟨rfl, hb1⟩; have hB1 := bthen (show Below w.heap.size w _ from (by repeat' (first | exact Below.refl _ _ | assumption | refine Below.drew ?_ | refine bdn ?_ _ | refine bal ?_ _ | refine Below.setCell ?_ (by first | (simp; done) | omega | (simp; omega)) _))) hb1; have hz1 := hb1.size; (try simp at hz1); obtain ⟨hc1, hf1⟩ := bcell hb1; first | (have hE1 := bthen2 hE (by repeat' (first | exact Below.refl _ _ | refine Below.drew ?_ | refine bdn ?_ _ | refine bal ?_ _ | refine Below.setCell ?_ (by first | (simp; done) | omega | (simp; omega)) _)) hb1; clear hE; have hE := hE1; clear hE1; obtain ⟨hd1, hg1⟩ := bcell hE) | (have hE := hb1)) | (go_at_call 72; (with_reducible refine (HSK.out _).mono ?_); rintro e w1 ⟨rfl, hb1⟩; have hB1 := bthen (show Below w.heap.size w _ from (by repeat' (first | exact Below.refl _ _ | assumption | refine Below.drew ?_ | refine bdn ?_ _ | refine bal ?_ _ | refine Below.setCell ?_ (by first | (simp; done) | omega | (simp; omega)) _))) hb1; have hz1 := hb1.size; (try simp at hz1); obtain ⟨hc1, hf1⟩ := bcell hb1; first | (have hE1 := bthen2 hE (by repeat' (first | exact Below.refl _ _ | refine Below.drew ?_ | refine bdn ?_ _ | refine bal ?_ _ | refine Below.setCell ?_ (by first | (simp; done) | omega | (simp; omega)) _)) hb1; clear hE; have hE := hE1; clear hE1; obtain ⟨hd1, hg1⟩ := bcell hE) | (have hE := hb1)))
   go_ret
   exact ⟨ret_bool (by simp [b0, b1]), (by repeat' (first | exact Below.refl _ _ | assumption | refine Below.drew ?_ | refine bdn ?_ _ | refine bal ?_ _ | refine Below.setCell ?_ (by first | (simp; done) | omega | (simp; omega)) _))⟩
end Go.Proofs.YtlabfpjlckdmfaaGreat

namespace Go.Proofs.YtlabfpjlckdmfaaGreat
open Go Go.RowKit Go.Proofs
set_option maxRecDepth 100000
set_option maxHeartbeats 4000000
def MetD.fcB (M : MetD) (i : Nat) : Bool := fcBad M.places (M.D i 0) (M.D i 1) (M.D i 2) (M.D i 3) (M.fc i)
def MetD.siB (M : MetD) (i : Nat) : Bool := siBad M.places (M.E i 0) (M.E i 1) (M.E i 2) (M.E i 3) (M.E i 4)
def rngB (a b c : Int) : Bool := !inB a 0 20000 || (!inB b 0 20000 || !inB c 0 20000)
def MetD.bad (M : MetD) : Bool := !inB M.places 1 8 || (!M.any.inr || (rngB M.mw M.ms M.mc || (decide (40 < M.n) || ((List.range M.n).any M.fcB || (decide (20 < M.m) || (List.range M.m).any M.siB)))))
def MetD.err (M : MetD) : Int := if M.bad then 40 else 0
theorem cfb_c (b c : Nat) (m1 m2 m3 : Int) (w : World) (h0 : w.cell? ⟨b, 0, none⟩ = some (.int .i64 m1)) (h1 : w.cell? ⟨b, 1, none⟩ = some (.int .i64 m2)) (h2 : w.cell? ⟨b, 2, none⟩ = some (.int .i64 m3)) :
  Calls Tryz.prog 76 #[.slice (some ⟨b, 0, none⟩) 3 c, .func (.func 75) #[] #[]] w fun e w' => e = .returned (.bool (rngB m1 m2 m3)) ∧ Below w.heap.size w w' := by
 have h := cfInt_c (some ⟨b, 0, none⟩) 3 c (fun k => if k = 0 then m1 else if k = 1 then m2 else m3) 75 #[] (fun k => !inB (if k = 0 then m1 else if k = 1 then m2 else m3) 0 20000) w (by omega) Tryz.entB
  (fun _ => ⟨b, 0, rfl, blk_lt h0, fun k hk => by
   rcases (show k = 0 ∨ k = 1 ∨ k = 2 by omega) with rfl | rfl | rfl
   ·simpa using h0
   ·simpa using h1
   ·simpa using h2⟩)
  (fun w1 k hk hb => by
   refine (beyond_c _ w1).mono ?_
   rintro _ _ ⟨rfl, rfl⟩
   exact ⟨rfl, Below.refl _ _⟩)
 have e : (List.range 3).any (fun k => !inB (if k = 0 then m1 else if k = 1 then m2 else m3) 0 20000) = rngB m1 m2 m3 := by simp [List.range_succ, rngB]
 rw [e] at h
 exact h
theorem MetD.ok_of {M : MetD} (h : M.bad = false) : M.Ok := by
 unfold MetD.bad rngB at h
 simp only [Bool.or_eq_false_iff, Bool.not_eq_false', decide_eq_false_iff_not, inB_iff, List.any_eq_false] at h
 obtain ⟨h1, h2, ⟨h3, h4, h5⟩, h6, h7, h8, h9⟩ := h
 have F : ∀ i, i < M.n → fcBad M.places (M.D i 0) (M.D i 1) (M.D i 2) (M.D i 3) (M.fc i) = false := fun i hi => by
  have := h7 i (List.mem_range.2 hi)
  unfold MetD.fcB at this
  simpa using this
 have G : ∀ i, i < M.m → siBad M.places (M.E i 0) (M.E i 1) (M.E i 2) (M.E i 3) (M.E i 4) = false := fun i hi => by
  have := h9 i (List.mem_range.2 hi)
  unfold MetD.siB at this
  simpa using this
 have F2 : ∀ i, i < M.n → (0 ≤ M.D i 0 ∧ M.D i 0 ≤ M.places - 1) ∧ (0 ≤ M.D i 1 ∧ M.D i 1 ≤ 2000) ∧ (0 ≤ M.D i 2 ∧ M.D i 2 ≤ 2000) ∧ ¬ M.D i 2 ≤ M.D i 1 ∧ (0 ≤ M.D i 3 ∧ M.D i 3 ≤ 2000) ∧ (M.fc i).inr = true := fun i hi => by
  have := F i hi
  unfold fcBad at this
  simpa only [Bool.or_eq_false_iff, Bool.not_eq_false', decide_eq_false_iff_not, inB_iff] using this
 have G2 : ∀ i, i < M.m → (0 ≤ M.E i 0 ∧ M.E i 0 ≤ M.places - 1) ∧ (0 ≤ M.E i 1 ∧ M.E i 1 ≤ 2000) ∧ (Sk.mk (M.E i 2) (M.E i 2) (M.E i 3) (M.E i 3) (M.E i 4) (M.E i 4) false false).inr = true := fun i hi => by
  have := G i hi
  unfold siBad at this
  simpa only [Bool.or_eq_false_iff, Bool.not_eq_false', decide_eq_false_iff_not, inB_iff] using this
 have G3 : ∀ i, i < M.m → (0 ≤ M.E i 2 ∧ M.E i 2 ≤ 300) ∧ (0 ≤ M.E i 3 ∧ M.E i 3 ≤ 20000) ∧ (0 ≤ M.E i 4 ∧ M.E i 4 ≤ 20000) := fun i hi => by
  have := (G2 i hi).2.2
  unfold Sk.inr at this
  simp only [Bool.and_eq_true, insB_iff] at this
  omega
 exact ⟨h1, h2, h3, h4, h5, by omega, by omega, fun i hi => (F2 i hi).1, fun i hi => (F2 i hi).2.1, fun i hi => (F2 i hi).2.2.1, fun i hi => (F2 i hi).2.2.2.2.1, fun i hi => by have := (F2 i hi).2.2.2.1; omega, fun i hi => (F2 i hi).2.2.2.2.2,
  fun i hi => (G2 i hi).1, fun i hi => (G2 i hi).2.1, fun i hi => (G3 i hi).1, fun i hi => (G3 i hi).2.1, fun i hi => (G3 i hi).2.2⟩
end Go.Proofs.YtlabfpjlckdmfaaGreat
