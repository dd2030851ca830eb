import Derived.Test.YtlambeiafdpkgaaGreatTcB
set_option linter.all false
namespace Go.Proofs.YtlambeiafdpkgaaGreat
open Go Go.RowKit Go.Proofs
set_option maxRecDepth 100000
set_option maxHeartbeats 4000000
theorem tcValid_c (C : CasD) (vC vP : Value) (w : World) (hC : ClaAt w vC C) (hP : PrfAt w vP C) (hO : C.Ok) :
  Calls Tryz.prog 73 #[.agg #[vC, vP]] w fun e w' => e = .returned (.bool true) ∧ Below w.heap.size w w' := by
 have HC := hI9 hC
 have HP := hI9 hP
 have HO := hI9 hO
 have hn16 := hO.n16
 have hk12 := hO.k12
 obtain ⟨g, off, c, rfl, hcn, hg, -⟩ := hC
 obtain ⟨A, c', rfl, -⟩ := hP
 clear hO
 go_enter Tryz.func73, Tryz.ntmps73
 go_wp2
 have _x := frm1 w #[.slice (some ⟨g, off, none⟩) C.n c, .slice A C.k c'] 57
 have HX := hI9 _x.1
 have HB := hI9 _x.2.1
 have zW := _x.2.2
 clear _x
 generalize World.alloc w _ = W at *
 go_loopw [3, 4, 18] (fun _ _ s18 wr => ∃ k : Nat, k ≤ C.n ∧ s18 = .int .i64 k ∧ Hid (Below w.heap.size w wr) ∧ Hid (Blk wr w.heap.size 57 #[.slice (some ⟨g, off, none⟩) C.n c, .slice A C.k c'])) (fun _ _ i _ => C.n - (intOf i).toNat)
 case atStart => exact ⟨0, by omega, rfl, HB, HX⟩
 case round =>
  clear HX HB zW
  obtain ⟨k, hk, rfl, hB, HX⟩ := hrel
  have cX0 := HX.out.cell 0
  have cX1 := HX.out.cell 1
  have zX := HX.out.lt
  by_cases hlt : k < C.n
  ·obtain ⟨g', off', c'', e, -, hl, hc⟩ := HC.out
   cases e
   obtain ⟨vN, vR, h0, h1, h2, h3, h4⟩ := hc k hlt
   have c0 := (hB.out.cell (p := ⟨g, off + k * 3, none⟩) hl).trans h0
   have c1 := (hB.out.cell (p := ⟨g, off + k * 3 + 1, none⟩) hl).trans h1
   have c2 := (hB.out.cell (p := ⟨g, off + k * 3 + 2, none⟩) hl).trans h2
   have hbr := Nat.lt_of_lt_of_le hl hB.out.size
   have HN := hI9 (fun W (hb : Below wr.heap.size wr W) => tcAscends_c vN (C.nn k) (C.fn k) k W (h3.below (bthen hB.out hb)) (HO.out.nn k hlt).1 (HO.out.nn k hlt).2)
   have HR := hI9 (fun W (hb : Below wr.heap.size wr W) => tcAscends_c vR (C.nr k) (C.fr k) C.k W (h4.below (bthen hB.out hb)) (HO.out.nr k hlt).1 (HO.out.nr k hlt).2)
   obtain ⟨aN, kN, rfl, -⟩ := h3
   obtain ⟨aR, kR, rfl, -⟩ := h4
   clear hc h0 h1 h2
   go_wp2_with (first | (go_at_call 118; (with_reducible refine (HN.out _ (by repeat' (first | exact Below.refl _ _ | assumption | refine Below.drew ?_ | refine bdn ?_ _ | refine bal ?_ _ | refine Below.setCell ?_ (by first | (simp; done) | omega | (simp; omega)) _))).mono ?_); rintro e w1 ⟨rfl, hb1⟩; have hbA := bthen (show Below wr.heap.size wr _ from (by repeat' (first | exact Below.refl _ _ | assumption | refine Below.drew ?_ | refine bdn ?_ _ | refine bal ?_ _ | refine Below.setCell ?_ (by first | (simp; done) | omega | (simp; omega)) _))) hb1; obtain ⟨hc1, hf1⟩ := bcell hb1; have hz1 := hb1.size; (try simp at hz1); clear hb1) | (go_at_call 118; (with_reducible refine (HR.out _ hbA).mono ?_); rintro e w2 ⟨rfl, hb2⟩))
   go_roundw
   case rel => exact ⟨k + 1, by omega, by go_num, hI9 (bthen hB.out (bthen hbA hb2)), hI9 (HX.out.below (bthen hbA hb2))⟩
   case measure => simp [intOf]; omega
  ·obtain rfl : k = C.n := by omega
   have HF := hI9 (tcCf_c A c' C wr (HP.out.below hB.out) HO.out)
   clear HC
   go_wp2_with (first | (go_at_call 61; (with_reducible refine HF.out.mono ?_); rintro e w1 ⟨rfl, hb1⟩))
   go_ret
   exact ⟨rfl, bthen hB.out hb1⟩
theorem tcCheck_c (C : CasD) (vC vP : Value) (cl t : Int) (w : World) (hC : ClaAt w vC C) (hP : PrfAt w vP C) (hO : C.Ok) (h0 : 0 ≤ cl) (h1 : cl < C.n) (h2 : 0 ≤ t) (h3 : t ≤ 2000) :
  Calls Tryz.prog 36 #[.agg #[vC, vP], .int .i64 cl, .int .i64 t] w fun e w' => e = .returned (.int .i64 0) ∧ Below w.heap.size w w' := by
 have HV := hI9 (fun W (hb : Below w.heap.size w W) => tcValid_c C vC vP W (hC.below hb) (hP.below hb) hO)
 have hn16 := hO.n16
 obtain ⟨g, off, c, rfl, hcn, hg, -⟩ := hC
 have HW1 := hI9 (fun w1 => show Calls Tryz.prog 74 #[.int .i64 cl, .int .i64 0, .int .i64 (C.n - 1)] w1 fun e w' => e = .returned (.bool true) ∧ w1 = w' from by
  have := tcWithin_c cl 0 (C.n - 1) w1
  rwa [show inB cl 0 (C.n - 1) = true from by rw [inB]; simp; omega] at this)
 have HW2 := hI9 (fun w1 => show Calls Tryz.prog 74 #[.int .i64 t, .int .i64 0, .int .i64 2000] w1 fun e w' => e = .returned (.bool true) ∧ w1 = w' from by
  have := tcWithin_c t 0 2000 w1
  rwa [show inB t 0 2000 = true from by rw [inB]; simp; omega] at this)
 clear hP hO
 go_enter Tryz.func36, Tryz.ntmps36
 go_wp2_with (first | (go_at_call 73; (with_reducible refine (HV.out _ (by repeat' (first | exact Below.refl _ _ | assumption | refine Below.drew ?_ | refine bdn ?_ _ | refine bal ?_ _ | refine Below.setCell ?_ (by first | (simp; done) | omega | (simp; omega)) _))).mono ?_); rintro e w1 ⟨rfl, hb1⟩; have hB1 := bthen (show Below w.heap.size w _ from (by repeat' (first | exact Below.refl _ _ | assumption | refine Below.drew ?_ | refine bdn ?_ _ | refine bal ?_ _ | refine Below.setCell ?_ (by first | (simp; done) | omega | (simp; omega)) _))) hb1; have hz1 := hb1.size; (try simp at hz1); obtain ⟨hc1, hf1⟩ := bcell hb1; first | (have hE1 := bthen2 hE (by repeat' (first | exact Below.refl _ _ | refine Below.drew ?_ | refine bdn ?_ _ | refine bal ?_ _ | refine Below.setCell ?_ (by first | (simp; done) | omega | (simp; omega)) _)) hb1; clear hE; have hE := hE1; clear hE1; obtain ⟨hd1, hg1⟩ := bcell hE) | (have hE := hb1)) | (go_at_call 74; (with_reducible refine (HW2.out _).mono ?_); rintro e w1 ⟨rfl, rfl⟩) | (go_at_call 74; (with_reducible refine (HW1.out _).mono ?_); rintro e w1 ⟨rfl, rfl⟩))
 go_ret
 exact ⟨rfl, hB1⟩
end Go.Proofs.YtlambeiafdpkgaaGreat
