/- Contracts: package rotor's Check. -/
import Derived.Test.YtechkkgmdjgddaaGreatRoC
import Derived.Test.YtechkkgmdjgddaaGreatLwB
set_option linter.all false
namespace Go.Proofs.YtechkkgmdjgddaaGreat
open Go Go.RowKit Go.Proofs
set_option maxRecDepth 100000
set_option maxHeartbeats 4000000

theorem over_yes {A C : List (List Int)} {k j : Nat} (hk : k < A.length) (hj : j < (nthR A k).length) (h : decide (nth (nthR C k) j < nth (nthR A k) j) = true) : overB A C = true := by
  unfold overB; rw [List.any_eq_true]; refine ⟨k, List.mem_range.2 hk, ?_⟩
  unfold overRow; rw [List.any_eq_true]; exact ⟨j, List.mem_range.2 hj, h⟩
theorem row_no {a c : List Int} (h : ∀ j, j < a.length → decide (nth c j < nth a j) = false) : overRow a c = false := by
  unfold overRow; rw [List.any_eq_false]; intro j hj; simp [h j (List.mem_range.1 hj)]
theorem over_no {A C : List (List Int)} (h : ∀ j, j < A.length → overRow (nthR A j) (nthR C j) = false) : overB A C = false := by
  unfold overB; rw [List.any_eq_false]; intro j hj; simp [h j (List.mem_range.1 hj)]
theorem Blk.drew {W : World} {g : Nat} {t : TypeId} {cs : Array Value} (h : Blk W g t cs) : Blk W.drew g t cs := h

theorem Check_c (hx hy hv gx gy gv lx ly lv px py pv nx ny nv ax ay av cx cy cv dx dy dv : Value) (cl bu : Int) (S : Tabs) (w : World) (hR : RotAt w hx hy hv gx gy gv lx ly lv px py pv nx ny nv ax ay av cx cy cv dx dy dv cl bu S) :
   Calls Tryz.prog 56 #[.agg #[hx, hy, hv, gx, gy, gv, lx, ly, lv, px, py, pv, nx, ny, nv, ax, ay, av, cx, cy, cv, dx, dy, dv, .int .i64 cl, .int .i64 bu]] w fun e w' => e = .returned (.int .i64 (rotE (rotB S cl bu))) ∧ Below w.heap.size w w' := by
  obtain ⟨aa, na, ma, rfl⟩ := hR.a.s1
  obtain ⟨ab, nb, mb, rfl⟩ := hR.a.s2
  obtain ⟨ac, mc, avs, rfl, mA1, mA2, hAv, hAr⟩ := id hR.a.v
  obtain ⟨ca, pa, qa, rfl⟩ := hR.c.s1
  obtain ⟨cb, pb, qb, rfl⟩ := hR.c.s2
  obtain ⟨cc, qc, cvs, rfl, mC1, mC2, hCv, hCr⟩ := id hR.c.v
  have HAv := Lib.hid hAv
  have HAr := Lib.hid hAr
  have HCv := Lib.hid hCv
  have HCr := Lib.hid hCr
  clear hAv hAr hCv hCr
  have HR := Lib.hid hR
  clear hR
  go_enter Tryz.func56, Tryz.ntmps56
  go_wp2
  have B1 : Blk ((w.alloc (.cells #[hx, hy, hv, gx, gy, gv, lx, ly, lv, px, py, pv, nx, ny, nv, (.slice aa na ma), (.slice ab nb mb), (.slice ac S.a.V.length mc), (.slice ca pa qa), (.slice cb pb qb), (.slice cc S.c.V.length qc), dx, dy, dv, .int .i64 cl, .int .i64 bu] 27)).alloc (.cells #[hx, hy, hv, .int .i64 0, .int .i64 100000, gx, gy, gv, .int .i64 0, .int .i64 100, lx, ly, lv, .int .i64 0, .int .i64 100000, px, py, pv, .int .i64 0, .int .i64 100000, nx, ny, nv, .int .i64 0, .int .i64 10000, (.slice aa na ma), (.slice ab nb mb), (.slice ac S.a.V.length mc), .int .i64 0, .int .i64 10000, (.slice ca pa qa), (.slice cb pb qb), (.slice cc S.c.V.length qc), .int .i64 0, .int .i64 10000, dx, dy, dv, .int .i64 1, .int .i64 10000] 98)) w.heap.size 27 #[hx, hy, hv, gx, gy, gv, lx, ly, lv, px, py, pv, nx, ny, nv, (.slice aa na ma), (.slice ab nb mb), (.slice ac S.a.V.length mc), (.slice ca pa qa), (.slice cb pb qb), (.slice cc S.c.V.length qc), dx, dy, dv, .int .i64 cl, .int .i64 bu] := (by repeat (first | (refine Blk.newAt _ _ _ ?_; first | rfl | (simp; done)) | refine Blk.alloc ?_ _))
  have B2 : Blk ((w.alloc (.cells #[hx, hy, hv, gx, gy, gv, lx, ly, lv, px, py, pv, nx, ny, nv, (.slice aa na ma), (.slice ab nb mb), (.slice ac S.a.V.length mc), (.slice ca pa qa), (.slice cb pb qb), (.slice cc S.c.V.length qc), dx, dy, dv, .int .i64 cl, .int .i64 bu] 27)).alloc (.cells #[hx, hy, hv, .int .i64 0, .int .i64 100000, gx, gy, gv, .int .i64 0, .int .i64 100, lx, ly, lv, .int .i64 0, .int .i64 100000, px, py, pv, .int .i64 0, .int .i64 100000, nx, ny, nv, .int .i64 0, .int .i64 10000, (.slice aa na ma), (.slice ab nb mb), (.slice ac S.a.V.length mc), .int .i64 0, .int .i64 10000, (.slice ca pa qa), (.slice cb pb qb), (.slice cc S.c.V.length qc), .int .i64 0, .int .i64 10000, dx, dy, dv, .int .i64 1, .int .i64 10000] 98)) (w.heap.size + 1) 98 #[hx, hy, hv, .int .i64 0, .int .i64 100000, gx, gy, gv, .int .i64 0, .int .i64 100, lx, ly, lv, .int .i64 0, .int .i64 100000, px, py, pv, .int .i64 0, .int .i64 100000, nx, ny, nv, .int .i64 0, .int .i64 10000, (.slice aa na ma), (.slice ab nb mb), (.slice ac S.a.V.length mc), .int .i64 0, .int .i64 10000, (.slice ca pa qa), (.slice cb pb qb), (.slice cc S.c.V.length qc), .int .i64 0, .int .i64 10000, dx, dy, dv, .int .i64 1, .int .i64 10000] := (by repeat (first | (refine Blk.newAt _ _ _ ?_; first | rfl | (simp; done)) | refine Blk.alloc ?_ _))
  have BW : Below w.heap.size w ((w.alloc (.cells #[hx, hy, hv, gx, gy, gv, lx, ly, lv, px, py, pv, nx, ny, nv, (.slice aa na ma), (.slice ab nb mb), (.slice ac S.a.V.length mc), (.slice ca pa qa), (.slice cb pb qb), (.slice cc S.c.V.length qc), dx, dy, dv, .int .i64 cl, .int .i64 bu] 27)).alloc (.cells #[hx, hy, hv, .int .i64 0, .int .i64 100000, gx, gy, gv, .int .i64 0, .int .i64 100, lx, ly, lv, .int .i64 0, .int .i64 100000, px, py, pv, .int .i64 0, .int .i64 100000, nx, ny, nv, .int .i64 0, .int .i64 10000, (.slice aa na ma), (.slice ab nb mb), (.slice ac S.a.V.length mc), .int .i64 0, .int .i64 10000, (.slice ca pa qa), (.slice cb pb qb), (.slice cc S.c.V.length qc), .int .i64 0, .int .i64 10000, dx, dy, dv, .int .i64 1, .int .i64 10000] 98)) := (by repeat' (first | exact Below.refl _ _ | assumption | refine Below.drew ?_ | refine bdn ?_ _ | refine bal ?_ _ | refine Below.setCell ?_ (by first | (simp; done) | omega | (simp; omega)) _))
  generalize ((w.alloc (.cells #[hx, hy, hv, gx, gy, gv, lx, ly, lv, px, py, pv, nx, ny, nv, (.slice aa na ma), (.slice ab nb mb), (.slice ac S.a.V.length mc), (.slice ca pa qa), (.slice cb pb qb), (.slice cc S.c.V.length qc), dx, dy, dv, .int .i64 cl, .int .i64 bu] 27)).alloc (.cells #[hx, hy, hv, .int .i64 0, .int .i64 100000, gx, gy, gv, .int .i64 0, .int .i64 100, lx, ly, lv, .int .i64 0, .int .i64 100000, px, py, pv, .int .i64 0, .int .i64 100000, nx, ny, nv, .int .i64 0, .int .i64 10000, (.slice aa na ma), (.slice ab nb mb), (.slice ac S.a.V.length mc), .int .i64 0, .int .i64 10000, (.slice ca pa qa), (.slice cb pb qb), (.slice cc S.c.V.length qc), .int .i64 0, .int .i64 10000, dx, dy, dv, .int .i64 1, .int .i64 10000] 98)) = W at *
  have hcell : ∀ k, k < 8 → W.cell? ⟨w.heap.size + 1, 0 + k * 5, none⟩ = some (sel8 hx gx lx px nx (.slice aa na ma) (.slice ca pa qa) dx k) ∧ W.cell? ⟨w.heap.size + 1, 0 + k * 5 + 1, none⟩ = some (sel8 hy gy ly py ny (.slice ab nb mb) (.slice cb pb qb) dy k) ∧ W.cell? ⟨w.heap.size + 1, 0 + k * 5 + 2, none⟩ = some (sel8 hv gv lv pv nv (.slice ac S.a.V.length mc) (.slice cc S.c.V.length qc) dv k) ∧ W.cell? ⟨w.heap.size + 1, 0 + k * 5 + 3, none⟩ = some (.int .i64 (limLo k)) ∧ W.cell? ⟨w.heap.size + 1, 0 + k * 5 + 4, none⟩ = some (.int .i64 (limHi k)) := by
    intro k hk
    rcases (show k = 0 ∨ k = 1 ∨ k = 2 ∨ k = 3 ∨ k = 4 ∨ k = 5 ∨ k = 6 ∨ k = 7 by omega) with rfl | rfl | rfl | rfl | rfl | rfl | rfl | rfl
    all_goals exact ⟨B2.cell _, B2.cell _, B2.cell _, B2.cell _, B2.cell _⟩
  have hTb : ∀ k, k < 8 → TblAt w (sel8 hx gx lx px nx (.slice aa na ma) (.slice ca pa qa) dx k) (sel8 hy gy ly py ny (.slice ab nb mb) (.slice cb pb qb) dy k) (sel8 hv gv lv pv nv (.slice ac S.a.V.length mc) (.slice cc S.c.V.length qc) dv k) (limT S k) := by
    intro k hk
    rcases (show k = 0 ∨ k = 1 ∨ k = 2 ∨ k = 3 ∨ k = 4 ∨ k = 5 ∨ k = 6 ∨ k = 7 by omega) with rfl | rfl | rfl | rfl | rfl | rfl | rfl | rfl
    · exact HR.out.h
    · exact HR.out.g
    · exact HR.out.l
    · exact HR.out.p
    · exact HR.out.n
    · exact HR.out.a
    · exact HR.out.c
    · exact HR.out.d
  have hTB := Lib.hid hTb
  clear hTb
  have hB1 := Lib.hid B1
  have hC := Lib.hid hcell
  have hWb := Lib.hid BW
  have hWz := B2.lt
  clear B1 B2 hcell BW
  go_loopw [4, 37] (fun _ s wr => ∃ k : Nat, k ≤ 8 ∧ s = .int .i64 k ∧ Hid (Below W.heap.size W wr) ∧ Hid (∀ j, j < k → rightB (limT S j) (limLo j) (limHi j) = true)) (fun _ i _ => 8 - (intOf i).toNat)
  case atStart => exact ⟨0, by omega, rfl, Below.refl _ _, fun j hj => absurd hj (by omega)⟩
  case round =>
    obtain ⟨k, hk, rfl, hB, hF⟩ := hrel
    by_cases hlt : k < 8
    · have ⟨c0, c1, c2, c3, c4⟩ := hC.out k hlt
      have hbl := hB.out.cell (p := ⟨w.heap.size + 1, 0 + k * 5, none⟩) hWz
      replace c0 := (hB.out.cell (p := ⟨w.heap.size + 1, 0 + k * 5, none⟩) hWz).trans c0
      replace c1 := (hB.out.cell (p := ⟨w.heap.size + 1, 0 + k * 5 + 1, none⟩) hWz).trans c1
      replace c2 := (hB.out.cell (p := ⟨w.heap.size + 1, 0 + k * 5 + 2, none⟩) hWz).trans c2
      replace c3 := (hB.out.cell (p := ⟨w.heap.size + 1, 0 + k * 5 + 3, none⟩) hWz).trans c3
      replace c4 := (hB.out.cell (p := ⟨w.heap.size + 1, 0 + k * 5 + 4, none⟩) hWz).trans c4
      clear hbl
      simp only [Nat.zero_add] at c0 c1 c2 c3 c4
      have ht := hTB.out k hlt
      obtain ⟨a1, n1, d1, e1⟩ := ht.s1
      obtain ⟨a2, n2, d2, e2⟩ := ht.s2
      obtain ⟨a3, n3, d3, e3⟩ := ht.s3
      rw [e1] at c0
      rw [e2] at c1
      rw [e3] at c2
      rw [e1, e2, e3] at ht
      clear e1 e2 e3
      have HT := Lib.hid ht
      clear ht
      have hBw : Below w.heap.size w wr := hWb.out.trans (hB.out.mono hWb.out.size)
      have hzw := hBw.size
      cases hr : rightB (limT S k) (limLo k) (limHi k)
      · go_wp2_with (first | (go_at_call 78; (with_reducible refine (right_c _ _ _ (limT S k) _ _ _ (HT.out.below (by repeat' (first | exact Below.refl _ _ | assumption | refine Below.drew ?_ | refine bdn ?_ _ | refine bal ?_ _ | refine Below.setCell ?_ (by first | (simp; done) | omega | (simp; omega)) _)))).mono ?_); rintro e w1 ⟨rfl, hb1⟩; have hB1 := bthen (show Below w.heap.size w _ from (by repeat' (first | exact Below.refl _ _ | assumption | refine Below.drew ?_ | refine bdn ?_ _ | refine bal ?_ _ | refine Below.setCell ?_ (by first | (simp; done) | omega | (simp; omega)) _))) hb1; have hz1 := hb1.size; (try simp at hz1); obtain ⟨hc1, hf1⟩ := bcell hb1; first | (have hE1 := bthen2 hE (by repeat' (first | exact Below.refl _ _ | refine Below.drew ?_ | refine bdn ?_ _ | refine bal ?_ _ | refine Below.setCell ?_ (by first | (simp; done) | omega | (simp; omega)) _)) hb1; clear hE; have hE := hE1; clear hE1; obtain ⟨hd1, hg1⟩ := bcell hE) | (have hE := hb1)))
        go_ret
        exact ⟨ret_int (by rw [rotB, limsB_no hlt hr]; rfl), hB1⟩
      · go_wp2_with (first | (go_at_call 78; (with_reducible refine (right_c _ _ _ (limT S k) _ _ _ (HT.out.below (by repeat' (first | exact Below.refl _ _ | assumption | refine Below.drew ?_ | refine bdn ?_ _ | refine bal ?_ _ | refine Below.setCell ?_ (by first | (simp; done) | omega | (simp; omega)) _)))).mono ?_); rintro e w1 ⟨rfl, hb1⟩; have hB1 := bthen (show Below w.heap.size w _ from (by repeat' (first | exact Below.refl _ _ | assumption | refine Below.drew ?_ | refine bdn ?_ _ | refine bal ?_ _ | refine Below.setCell ?_ (by first | (simp; done) | omega | (simp; omega)) _))) hb1; have hz1 := hb1.size; (try simp at hz1); obtain ⟨hc1, hf1⟩ := bcell hb1; first | (have hE1 := bthen2 hE (by repeat' (first | exact Below.refl _ _ | refine Below.drew ?_ | refine bdn ?_ _ | refine bal ?_ _ | refine Below.setCell ?_ (by first | (simp; done) | omega | (simp; omega)) _)) hb1; clear hE; have hE := hE1; clear hE1; obtain ⟨hd1, hg1⟩ := bcell hE) | (have hE := hb1)))
        have hBo := hB.out
        have hzo := hBo.size
        have hBn : Below W.heap.size W w1 := bthen (show Below W.heap.size W _ from (by repeat' (first | exact Below.refl _ _ | assumption | refine Below.drew ?_ | refine bdn ?_ _ | refine bal ?_ _ | refine Below.setCell ?_ (by first | (simp; done) | omega | (simp; omega)) _))) hb1
        go_roundw
        case rel => exact ⟨k + 1, by omega, by go_num, hBn, fun j hj => by
          by_cases e : j = k
          · subst e; exact hr
          · exact hF.out j (by omega)⟩
        case measure => simp [intOf]; omega
    · obtain rfl : k = 8 := by omega
      have HL : Hid (limsB S = true) := limsB_yes hF.out
      have hBo := hB.out
      have hc := Blk.below hB1.out hBo
      have hzo := hBo.size
      have c15 := hc.cell 15
      have c16 := hc.cell 16
      have c17 := hc.cell 17
      have c18 := hc.cell 18
      have c19 := hc.cell 19
      have c20 := hc.cell 20
      clear hc
      have hzz : w.heap.size < wr.heap.size := by omega
      go_wp2
      go_region
      · have k5 := (Blk.new wr 25 #[(.slice aa na ma), (.slice ab nb mb), (.slice ac S.a.V.length mc)]).alloc (.cells #[(.slice ca pa qa), (.slice cb pb qb), (.slice cc S.c.V.length qc)] 25)
        have k6 := Blk.new (wr.alloc (.cells #[(.slice aa na ma), (.slice ab nb mb), (.slice ac S.a.V.length mc)] 25)) 25 #[(.slice ca pa qa), (.slice cb pb qb), (.slice cc S.c.V.length qc)]
        simp only [World.size_alloc] at k6
        have k1 := ((Blk.below hB1.out hBo).alloc (.cells #[(.slice aa na ma), (.slice ab nb mb), (.slice ac S.a.V.length mc)] 25)).alloc (.cells #[(.slice ca pa qa), (.slice cb pb qb), (.slice cc S.c.V.length qc)] 25)
        have kB : Below w.heap.size w _ := (bal (bal (hWb.out.trans (hBo.mono hWb.out.size)) (.cells #[(.slice aa na ma), (.slice ab nb mb), (.slice ac S.a.V.length mc)] 25)) (.cells #[(.slice ca pa qa), (.slice cb pb qb), (.slice cc S.c.V.length qc)] 25)).drew
        replace k5 := k5.drew
        replace k6 := k6.drew
        replace k1 := k1.drew
        generalize ((wr.alloc (.cells #[(.slice aa na ma), (.slice ab nb mb), (.slice ac S.a.V.length mc)] 25)).alloc (.cells #[(.slice ca pa qa), (.slice cb pb qb), (.slice cc S.c.V.length qc)] 25)).drew = Z at *
        generalize wr.heap.size + 1 = b6 at *
        generalize wr.heap.size = b5 at *
        have q50 := k5.cell 0
        have q51 := k5.cell 1
        have q52 := k5.cell 2
        have q60 := k6.cell 0
        have q61 := k6.cell 1
        have q62 := k6.cell 2
        have q24 := k1.cell 24
        have q25 := k1.cell 25
        have z5 := k5.lt
        have z6 := k6.lt
        have z1 := k1.lt
        simp at q50 q51 q52 q60 q61 q62 q24 q25
        clear k5 k6 k1 hTB hB1 hC hWb hWz hB hF hBo c15 c16 c17 c18 c19 c20 hzo hzz
        cases p1 : decide (S.a.X = S.c.X)
        · go_wp2_with (first | (go_at_call 79; (with_reducible refine (equal_c _ _ S.a.X S.c.X _ (HR.out.a.x.below (by repeat' (first | exact Below.refl _ _ | assumption | refine Below.drew ?_ | refine bdn ?_ _ | refine bal ?_ _ | refine Below.setCell ?_ (by first | (simp; done) | omega | (simp; omega)) _))) (HR.out.c.x.below (by repeat' (first | exact Below.refl _ _ | assumption | refine Below.drew ?_ | refine bdn ?_ _ | refine bal ?_ _ | refine Below.setCell ?_ (by first | (simp; done) | omega | (simp; omega)) _)))).mono ?_); rintro e w1 ⟨rfl, hb1⟩; have hB1 := bthen (show Below w.heap.size w _ from (by repeat' (first | exact Below.refl _ _ | assumption | refine Below.drew ?_ | refine bdn ?_ _ | refine bal ?_ _ | refine Below.setCell ?_ (by first | (simp; done) | omega | (simp; omega)) _))) hb1; have hz1 := hb1.size; (try simp at hz1); obtain ⟨hc1, hf1⟩ := bcell hb1; first | (have hE1 := bthen2 hE (by repeat' (first | exact Below.refl _ _ | refine Below.drew ?_ | refine bdn ?_ _ | refine bal ?_ _ | refine Below.setCell ?_ (by first | (simp; done) | omega | (simp; omega)) _)) hb1; clear hE; have hE := hE1; clear hE1; obtain ⟨hd1, hg1⟩ := bcell hE) | (have hE := hb1)) | (go_at_call 79; (with_reducible refine (equal_c _ _ S.a.Y S.c.Y _ (HR.out.a.y.below (by repeat' (first | exact Below.refl _ _ | assumption | refine Below.drew ?_ | refine bdn ?_ _ | refine bal ?_ _ | refine Below.setCell ?_ (by first | (simp; done) | omega | (simp; omega)) _))) (HR.out.c.y.below (by repeat' (first | exact Below.refl _ _ | assumption | refine Below.drew ?_ | refine bdn ?_ _ | refine bal ?_ _ | refine Below.setCell ?_ (by first | (simp; done) | omega | (simp; omega)) _)))).mono ?_); rintro e w1 ⟨rfl, hb1⟩; have hB1 := bthen (show Below w.heap.size w _ from (by repeat' (first | exact Below.refl _ _ | assumption | refine Below.drew ?_ | refine bdn ?_ _ | refine bal ?_ _ | refine Below.setCell ?_ (by first | (simp; done) | omega | (simp; omega)) _))) hb1; have hz1 := hb1.size; (try simp at hz1); obtain ⟨hc1, hf1⟩ := bcell hb1; first | (have hE1 := bthen2 hE (by repeat' (first | exact Below.refl _ _ | refine Below.drew ?_ | refine bdn ?_ _ | refine bal ?_ _ | refine Below.setCell ?_ (by first | (simp; done) | omega | (simp; omega)) _)) hb1; clear hE; have hE := hE1; clear hE1; obtain ⟨hd1, hg1⟩ := bcell hE) | (have hE := hb1)) | (go_at_call 80; (with_reducible refine (ro_within_c _ _ _ _).mono ?_); rintro e w1 ⟨rfl, rfl⟩))
          go_ret
          exact ⟨ret_int (by simp [rotB, ringsB, p1, rotE]), (by repeat' (first | exact Below.refl _ _ | assumption | refine Below.drew ?_ | refine bdn ?_ _ | refine bal ?_ _ | refine Below.setCell ?_ (by first | (simp; done) | omega | (simp; omega)) _))⟩
        · cases p2 : decide (S.a.Y = S.c.Y)
          · go_wp2_with (first | (go_at_call 79; (with_reducible refine (equal_c _ _ S.a.X S.c.X _ (HR.out.a.x.below (by repeat' (first | exact Below.refl _ _ | assumption | refine Below.drew ?_ | refine bdn ?_ _ | refine bal ?_ _ | refine Below.setCell ?_ (by first | (simp; done) | omega | (simp; omega)) _))) (HR.out.c.x.below (by repeat' (first | exact Below.refl _ _ | assumption | refine Below.drew ?_ | refine bdn ?_ _ | refine bal ?_ _ | refine Below.setCell ?_ (by first | (simp; done) | omega | (simp; omega)) _)))).mono ?_); rintro e w1 ⟨rfl, hb1⟩; have hB1 := bthen (show Below w.heap.size w _ from (by repeat' (first | exact Below.refl _ _ | assumption | refine Below.drew ?_ | refine bdn ?_ _ | refine bal ?_ _ | refine Below.setCell ?_ (by first | (simp; done) | omega | (simp; omega)) _))) hb1; have hz1 := hb1.size; (try simp at hz1); obtain ⟨hc1, hf1⟩ := bcell hb1; first | (have hE1 := bthen2 hE (by repeat' (first | exact Below.refl _ _ | refine Below.drew ?_ | refine bdn ?_ _ | refine bal ?_ _ | refine Below.setCell ?_ (by first | (simp; done) | omega | (simp; omega)) _)) hb1; clear hE; have hE := hE1; clear hE1; obtain ⟨hd1, hg1⟩ := bcell hE) | (have hE := hb1)) | (go_at_call 79; (with_reducible refine (equal_c _ _ S.a.Y S.c.Y _ (HR.out.a.y.below (by repeat' (first | exact Below.refl _ _ | assumption | refine Below.drew ?_ | refine bdn ?_ _ | refine bal ?_ _ | refine Below.setCell ?_ (by first | (simp; done) | omega | (simp; omega)) _))) (HR.out.c.y.below (by repeat' (first | exact Below.refl _ _ | assumption | refine Below.drew ?_ | refine bdn ?_ _ | refine bal ?_ _ | refine Below.setCell ?_ (by first | (simp; done) | omega | (simp; omega)) _)))).mono ?_); rintro e w1 ⟨rfl, hb1⟩; have hB1 := bthen (show Below w.heap.size w _ from (by repeat' (first | exact Below.refl _ _ | assumption | refine Below.drew ?_ | refine bdn ?_ _ | refine bal ?_ _ | refine Below.setCell ?_ (by first | (simp; done) | omega | (simp; omega)) _))) hb1; have hz1 := hb1.size; (try simp at hz1); obtain ⟨hc1, hf1⟩ := bcell hb1; first | (have hE1 := bthen2 hE (by repeat' (first | exact Below.refl _ _ | refine Below.drew ?_ | refine bdn ?_ _ | refine bal ?_ _ | refine Below.setCell ?_ (by first | (simp; done) | omega | (simp; omega)) _)) hb1; clear hE; have hE := hE1; clear hE1; obtain ⟨hd1, hg1⟩ := bcell hE) | (have hE := hb1)) | (go_at_call 80; (with_reducible refine (ro_within_c _ _ _ _).mono ?_); rintro e w1 ⟨rfl, rfl⟩))
            go_ret
            exact ⟨ret_int (by simp [rotB, ringsB, p1, p2, rotE]), (by repeat' (first | exact Below.refl _ _ | assumption | refine Below.drew ?_ | refine bdn ?_ _ | refine bal ?_ _ | refine Below.setCell ?_ (by first | (simp; done) | omega | (simp; omega)) _))⟩
          · cases p3 : inB cl 1 1000
            · go_wp2_with (first | (go_at_call 79; (with_reducible refine (equal_c _ _ S.a.X S.c.X _ (HR.out.a.x.below (by repeat' (first | exact Below.refl _ _ | assumption | refine Below.drew ?_ | refine bdn ?_ _ | refine bal ?_ _ | refine Below.setCell ?_ (by first | (simp; done) | omega | (simp; omega)) _))) (HR.out.c.x.below (by repeat' (first | exact Below.refl _ _ | assumption | refine Below.drew ?_ | refine bdn ?_ _ | refine bal ?_ _ | refine Below.setCell ?_ (by first | (simp; done) | omega | (simp; omega)) _)))).mono ?_); rintro e w1 ⟨rfl, hb1⟩; have hB1 := bthen (show Below w.heap.size w _ from (by repeat' (first | exact Below.refl _ _ | assumption | refine Below.drew ?_ | refine bdn ?_ _ | refine bal ?_ _ | refine Below.setCell ?_ (by first | (simp; done) | omega | (simp; omega)) _))) hb1; have hz1 := hb1.size; (try simp at hz1); obtain ⟨hc1, hf1⟩ := bcell hb1; first | (have hE1 := bthen2 hE (by repeat' (first | exact Below.refl _ _ | refine Below.drew ?_ | refine bdn ?_ _ | refine bal ?_ _ | refine Below.setCell ?_ (by first | (simp; done) | omega | (simp; omega)) _)) hb1; clear hE; have hE := hE1; clear hE1; obtain ⟨hd1, hg1⟩ := bcell hE) | (have hE := hb1)) | (go_at_call 79; (with_reducible refine (equal_c _ _ S.a.Y S.c.Y _ (HR.out.a.y.below (by repeat' (first | exact Below.refl _ _ | assumption | refine Below.drew ?_ | refine bdn ?_ _ | refine bal ?_ _ | refine Below.setCell ?_ (by first | (simp; done) | omega | (simp; omega)) _))) (HR.out.c.y.below (by repeat' (first | exact Below.refl _ _ | assumption | refine Below.drew ?_ | refine bdn ?_ _ | refine bal ?_ _ | refine Below.setCell ?_ (by first | (simp; done) | omega | (simp; omega)) _)))).mono ?_); rintro e w1 ⟨rfl, hb1⟩; have hB1 := bthen (show Below w.heap.size w _ from (by repeat' (first | exact Below.refl _ _ | assumption | refine Below.drew ?_ | refine bdn ?_ _ | refine bal ?_ _ | refine Below.setCell ?_ (by first | (simp; done) | omega | (simp; omega)) _))) hb1; have hz1 := hb1.size; (try simp at hz1); obtain ⟨hc1, hf1⟩ := bcell hb1; first | (have hE1 := bthen2 hE (by repeat' (first | exact Below.refl _ _ | refine Below.drew ?_ | refine bdn ?_ _ | refine bal ?_ _ | refine Below.setCell ?_ (by first | (simp; done) | omega | (simp; omega)) _)) hb1; clear hE; have hE := hE1; clear hE1; obtain ⟨hd1, hg1⟩ := bcell hE) | (have hE := hb1)) | (go_at_call 80; (with_reducible refine (ro_within_c _ _ _ _).mono ?_); rintro e w1 ⟨rfl, rfl⟩))
              go_ret
              exact ⟨ret_int (by simp [rotB, ringsB, p1, p2, p3, rotE]), (by repeat' (first | exact Below.refl _ _ | assumption | refine Below.drew ?_ | refine bdn ?_ _ | refine bal ?_ _ | refine Below.setCell ?_ (by first | (simp; done) | omega | (simp; omega)) _))⟩
            · cases p4 : inB bu 1 1000
              · go_wp2_with (first | (go_at_call 79; (with_reducible refine (equal_c _ _ S.a.X S.c.X _ (HR.out.a.x.below (by repeat' (first | exact Below.refl _ _ | assumption | refine Below.drew ?_ | refine bdn ?_ _ | refine bal ?_ _ | refine Below.setCell ?_ (by first | (simp; done) | omega | (simp; omega)) _))) (HR.out.c.x.below (by repeat' (first | exact Below.refl _ _ | assumption | refine Below.drew ?_ | refine bdn ?_ _ | refine bal ?_ _ | refine Below.setCell ?_ (by first | (simp; done) | omega | (simp; omega)) _)))).mono ?_); rintro e w1 ⟨rfl, hb1⟩; have hB1 := bthen (show Below w.heap.size w _ from (by repeat' (first | exact Below.refl _ _ | assumption | refine Below.drew ?_ | refine bdn ?_ _ | refine bal ?_ _ | refine Below.setCell ?_ (by first | (simp; done) | omega | (simp; omega)) _))) hb1; have hz1 := hb1.size; (try simp at hz1); obtain ⟨hc1, hf1⟩ := bcell hb1; first | (have hE1 := bthen2 hE (by repeat' (first | exact Below.refl _ _ | refine Below.drew ?_ | refine bdn ?_ _ | refine bal ?_ _ | refine Below.setCell ?_ (by first | (simp; done) | omega | (simp; omega)) _)) hb1; clear hE; have hE := hE1; clear hE1; obtain ⟨hd1, hg1⟩ := bcell hE) | (have hE := hb1)) | (go_at_call 79; (with_reducible refine (equal_c _ _ S.a.Y S.c.Y _ (HR.out.a.y.below (by repeat' (first | exact Below.refl _ _ | assumption | refine Below.drew ?_ | refine bdn ?_ _ | refine bal ?_ _ | refine Below.setCell ?_ (by first | (simp; done) | omega | (simp; omega)) _))) (HR.out.c.y.below (by repeat' (first | exact Below.refl _ _ | assumption | refine Below.drew ?_ | refine bdn ?_ _ | refine bal ?_ _ | refine Below.setCell ?_ (by first | (simp; done) | omega | (simp; omega)) _)))).mono ?_); rintro e w1 ⟨rfl, hb1⟩; have hB1 := bthen (show Below w.heap.size w _ from (by repeat' (first | exact Below.refl _ _ | assumption | refine Below.drew ?_ | refine bdn ?_ _ | refine bal ?_ _ | refine Below.setCell ?_ (by first | (simp; done) | omega | (simp; omega)) _))) hb1; have hz1 := hb1.size; (try simp at hz1); obtain ⟨hc1, hf1⟩ := bcell hb1; first | (have hE1 := bthen2 hE (by repeat' (first | exact Below.refl _ _ | refine Below.drew ?_ | refine bdn ?_ _ | refine bal ?_ _ | refine Below.setCell ?_ (by first | (simp; done) | omega | (simp; omega)) _)) hb1; clear hE; have hE := hE1; clear hE1; obtain ⟨hd1, hg1⟩ := bcell hE) | (have hE := hb1)) | (go_at_call 80; (with_reducible refine (ro_within_c _ _ _ _).mono ?_); rintro e w1 ⟨rfl, rfl⟩))
                go_ret
                exact ⟨ret_int (by simp [rotB, ringsB, p1, p2, p3, p4, rotE]), (by repeat' (first | exact Below.refl _ _ | assumption | refine Below.drew ?_ | refine bdn ?_ _ | refine bal ?_ _ | refine Below.setCell ?_ (by first | (simp; done) | omega | (simp; omega)) _))⟩
              · have HG : RowKit.Hid (ringsB S cl bu = true) := by show ringsB S cl bu = true; unfold ringsB; rw [p1, p2, p3, p4]; rfl
                go_wp2_with (first | (go_at_call 79; (with_reducible refine (equal_c _ _ S.a.X S.c.X _ (HR.out.a.x.below (by repeat' (first | exact Below.refl _ _ | assumption | refine Below.drew ?_ | refine bdn ?_ _ | refine bal ?_ _ | refine Below.setCell ?_ (by first | (simp; done) | omega | (simp; omega)) _))) (HR.out.c.x.below (by repeat' (first | exact Below.refl _ _ | assumption | refine Below.drew ?_ | refine bdn ?_ _ | refine bal ?_ _ | refine Below.setCell ?_ (by first | (simp; done) | omega | (simp; omega)) _)))).mono ?_); rintro e w1 ⟨rfl, hb1⟩; have hB1 := bthen (show Below w.heap.size w _ from (by repeat' (first | exact Below.refl _ _ | assumption | refine Below.drew ?_ | refine bdn ?_ _ | refine bal ?_ _ | refine Below.setCell ?_ (by first | (simp; done) | omega | (simp; omega)) _))) hb1; have hz1 := hb1.size; (try simp at hz1); obtain ⟨hc1, hf1⟩ := bcell hb1; first | (have hE1 := bthen2 hE (by repeat' (first | exact Below.refl _ _ | refine Below.drew ?_ | refine bdn ?_ _ | refine bal ?_ _ | refine Below.setCell ?_ (by first | (simp; done) | omega | (simp; omega)) _)) hb1; clear hE; have hE := hE1; clear hE1; obtain ⟨hd1, hg1⟩ := bcell hE) | (have hE := hb1)) | (go_at_call 79; (with_reducible refine (equal_c _ _ S.a.Y S.c.Y _ (HR.out.a.y.below (by repeat' (first | exact Below.refl _ _ | assumption | refine Below.drew ?_ | refine bdn ?_ _ | refine bal ?_ _ | refine Below.setCell ?_ (by first | (simp; done) | omega | (simp; omega)) _))) (HR.out.c.y.below (by repeat' (first | exact Below.refl _ _ | assumption | refine Below.drew ?_ | refine bdn ?_ _ | refine bal ?_ _ | refine Below.setCell ?_ (by first | (simp; done) | omega | (simp; omega)) _)))).mono ?_); rintro e w1 ⟨rfl, hb1⟩; have hB1 := bthen (show Below w.heap.size w _ from (by repeat' (first | exact Below.refl _ _ | assumption | refine Below.drew ?_ | refine bdn ?_ _ | refine bal ?_ _ | refine Below.setCell ?_ (by first | (simp; done) | omega | (simp; omega)) _))) hb1; have hz1 := hb1.size; (try simp at hz1); obtain ⟨hc1, hf1⟩ := bcell hb1; first | (have hE1 := bthen2 hE (by repeat' (first | exact Below.refl _ _ | refine Below.drew ?_ | refine bdn ?_ _ | refine bal ?_ _ | refine Below.setCell ?_ (by first | (simp; done) | omega | (simp; omega)) _)) hb1; clear hE; have hE := hE1; clear hE1; obtain ⟨hd1, hg1⟩ := bcell hE) | (have hE := hb1)) | (go_at_call 80; (with_reducible refine (ro_within_c _ _ _ _).mono ?_); rintro e w1 ⟨rfl, rfl⟩))
                have r52 := (hE.cell (p := ⟨b5, 2, none⟩) z5).trans q52
                have r62 := (hE.cell (p := ⟨b6, 2, none⟩) z6).trans q62
                have HB := Lib.hid hB1
                have hT5 : rightB S.a 0 10000 = true := limsB_at HL.out (k := 5) (by omega)
                have hT6 : rightB S.c 0 10000 = true := limsB_at HL.out (k := 6) (by omega)
                have eA : S.a.V.length = S.a.X.length := tblB_len (right_t hT5)
                have eC : S.c.V.length = S.c.X.length := tblB_len (right_t hT6)
                have eX : S.a.X.length = S.c.X.length := by rw [of_decide_eq_true p1]
                have eY : S.a.Y.length = S.c.Y.length := by rw [of_decide_eq_true p2]
                have lX := axisB_len (tblB_X (right_t hT5))
                have lY := axisB_len (tblB_Y (right_t hT5))
                have eL : S.c.V.length = S.a.V.length := by omega
                have lA : S.a.V.length ≤ 12 := by omega
                have rA : RowKit.Hid (∀ k, k < S.a.V.length → (nthR S.a.V k).length = S.a.Y.length) := fun k hk => (tblB_row (right_t hT5) hk).1
                have rC : RowKit.Hid (∀ k, k < S.a.V.length → (nthR S.c.V k).length = S.a.Y.length) := fun k hk => by rw [(tblB_row (right_t hT6) (show k < S.c.V.length by omega)).1]; exact eY.symm
                have HeL := Lib.hid eL
                clear q50 q51 q52 q60 q61 q62 q24 q25 p1 p2 p3 p4 hE hB1 hc1 hf1 hz1 hb1 hT5 hT6 eA eC eX eY eL lX z5 z6 z1
                try clear hd1 hg1
                go_loop [78] (fun s => ∃ k : Nat, k ≤ S.a.V.length ∧ s = .int .i64 k ∧ RowKit.Hid (∀ j, j < k → overRow (nthR S.a.V j) (nthR S.c.V j) = false)) (fun s => S.a.V.length - (intOf s).toNat)
                case atStart => exact ⟨0, by omega, rfl, fun j hj => absurd hj (by omega)⟩
                case round =>
                  obtain ⟨k, hk, rfl, hF⟩ := hrel
                  by_cases hlt : k < S.a.V.length
                  · obtain ⟨bA, oA, rfl, hbA, hcA⟩ := HAv.out (by omega)
                    obtain ⟨bC, oC, rfl, hbC, hcC⟩ := HCv.out (by have := HeL.out; omega)
                    have ck := (HB.out.cell (p := ⟨bA, oA + k, none⟩) hbA).trans (hcA k hlt)
                    have dk := (HB.out.cell (p := ⟨bC, oC + k, none⟩) hbC).trans (hcC k (by have := HeL.out; omega))
                    have iA := HAr.out k hlt
                    have iC := HCr.out k (by have := HeL.out; omega)
                    have lA' := rA.out k hlt
                    have lC' := rC.out k hlt
                    obtain ⟨ra, rm, hra, s1, s2, _, hRA⟩ := iA
                    obtain ⟨sa, sm, hsa, s3, s4, _, hRC⟩ := iC
                    rw [hra, lA'] at ck
                    rw [hsa, lC'] at dk
                    rw [lA'] at hRA
                    rw [lC'] at hRC
                    have HlA := Lib.hid lA'
                    have hkC : k < S.c.V.length := by have := HeL.out; omega
                    clear hra hsa hcA hcC lA' lC' s1 s3
                    go_wp2
                    go_loop [85] (fun s => ∃ j : Nat, j ≤ S.a.Y.length ∧ s = .int .i64 j ∧ RowKit.Hid (∀ i, i < j → decide (nth (nthR S.c.V k) i < nth (nthR S.a.V k) i) = false)) (fun s => S.a.Y.length - (intOf s).toNat)
                    case atStart => exact ⟨0, by omega, rfl, fun j hj => absurd hj (by omega)⟩
                    case round =>
                      obtain ⟨j, hj, rfl, hG⟩ := hrel
                      by_cases hjt : j < S.a.Y.length
                      · obtain ⟨b1, o1, rfl, hb1, h1⟩ := hRA (by omega)
                        obtain ⟨b2, o2, rfl, hb2, h2⟩ := hRC (by omega)
                        have e1 := (HB.out.cell (p := ⟨b1, o1 + j, none⟩) hb1).trans (h1 j hjt)
                        have e2 := (HB.out.cell (p := ⟨b2, o2 + j, none⟩) hb2).trans (h2 j hjt)
                        clear h1 h2 hRA hRC
                        cases ht : decide (nth (nthR S.c.V k) j < nth (nthR S.a.V k) j)
                        · have Ht := Lib.hid ht
                          go_wp2
                          go_round
                          case rel => exact ⟨j + 1, by omega, by go_num, fun i hi => by
                            by_cases e : i = j
                            · subst e; exact Ht.out
                            · exact hG.out i (by omega)⟩
                          case measure => simp [intOf]; omega
                        · have Ht := Lib.hid ht
                          go_wp2
                          go_ret
                          exact ⟨ret_int (by rw [rotB, over_yes hlt (j := j) (by rw [HlA.out]; exact hjt) Ht.out, HL.out, HG.out]; rfl), HB.out⟩
                      · obtain rfl : j = S.a.Y.length := by omega
                        go_wp2
                        go_round
                        case rel => exact ⟨k + 1, by omega, by go_num, fun i hi => by
                          by_cases e : i = k
                          · subst e; exact row_no (fun j hj => hG.out j (by rw [← HlA.out]; exact hj))
                          · exact hF.out i (by omega)⟩
                        case measure => simp [intOf]; omega
                  · obtain rfl : k = S.a.V.length := by omega
                    go_wp2
                    go_ret
                    exact ⟨ret_int (by rw [rotB, over_no hF.out, HL.out, HG.out]; rfl), HB.out⟩
      · have k6 := (Blk.new wr 25 #[(.slice ca pa qa), (.slice cb pb qb), (.slice cc S.c.V.length qc)]).alloc (.cells #[(.slice aa na ma), (.slice ab nb mb), (.slice ac S.a.V.length mc)] 25)
        have k5 := Blk.new (wr.alloc (.cells #[(.slice ca pa qa), (.slice cb pb qb), (.slice cc S.c.V.length qc)] 25)) 25 #[(.slice aa na ma), (.slice ab nb mb), (.slice ac S.a.V.length mc)]
        simp only [World.size_alloc] at k5
        have k1 := ((Blk.below hB1.out hBo).alloc (.cells #[(.slice ca pa qa), (.slice cb pb qb), (.slice cc S.c.V.length qc)] 25)).alloc (.cells #[(.slice aa na ma), (.slice ab nb mb), (.slice ac S.a.V.length mc)] 25)
        have kB : Below w.heap.size w _ := (bal (bal (hWb.out.trans (hBo.mono hWb.out.size)) (.cells #[(.slice ca pa qa), (.slice cb pb qb), (.slice cc S.c.V.length qc)] 25)) (.cells #[(.slice aa na ma), (.slice ab nb mb), (.slice ac S.a.V.length mc)] 25)).drew
        replace k6 := k6.drew
        replace k5 := k5.drew
        replace k1 := k1.drew
        generalize ((wr.alloc (.cells #[(.slice ca pa qa), (.slice cb pb qb), (.slice cc S.c.V.length qc)] 25)).alloc (.cells #[(.slice aa na ma), (.slice ab nb mb), (.slice ac S.a.V.length mc)] 25)).drew = Z at *
        generalize wr.heap.size + 1 = b5 at *
        generalize wr.heap.size = b6 at *
        have q50 := k5.cell 0
        have q51 := k5.cell 1
        have q52 := k5.cell 2
        have q60 := k6.cell 0
        have q61 := k6.cell 1
        have q62 := k6.cell 2
        have q24 := k1.cell 24
        have q25 := k1.cell 25
        have z5 := k5.lt
        have z6 := k6.lt
        have z1 := k1.lt
        simp at q50 q51 q52 q60 q61 q62 q24 q25
        clear k5 k6 k1 hTB hB1 hC hWb hWz hB hF hBo c15 c16 c17 c18 c19 c20 hzo hzz
        cases p1 : decide (S.a.X = S.c.X)
        · go_wp2_with (first | (go_at_call 79; (with_reducible refine (equal_c _ _ S.a.X S.c.X _ (HR.out.a.x.below (by repeat' (first | exact Below.refl _ _ | assumption | refine Below.drew ?_ | refine bdn ?_ _ | refine bal ?_ _ | refine Below.setCell ?_ (by first | (simp; done) | omega | (simp; omega)) _))) (HR.out.c.x.below (by repeat' (first | exact Below.refl _ _ | assumption | refine Below.drew ?_ | refine bdn ?_ _ | refine bal ?_ _ | refine Below.setCell ?_ (by first | (simp; done) | omega | (simp; omega)) _)))).mono ?_); rintro e w1 ⟨rfl, hb1⟩; have hB1 := bthen (show Below w.heap.size w _ from (by repeat' (first | exact Below.refl _ _ | assumption | refine Below.drew ?_ | refine bdn ?_ _ | refine bal ?_ _ | refine Below.setCell ?_ (by first | (simp; done) | omega | (simp; omega)) _))) hb1; have hz1 := hb1.size; (try simp at hz1); obtain ⟨hc1, hf1⟩ := bcell hb1; first | (have hE1 := bthen2 hE (by repeat' (first | exact Below.refl _ _ | refine Below.drew ?_ | refine bdn ?_ _ | refine bal ?_ _ | refine Below.setCell ?_ (by first | (simp; done) | omega | (simp; omega)) _)) hb1; clear hE; have hE := hE1; clear hE1; obtain ⟨hd1, hg1⟩ := bcell hE) | (have hE := hb1)) | (go_at_call 79; (with_reducible refine (equal_c _ _ S.a.Y S.c.Y _ (HR.out.a.y.below (by repeat' (first | exact Below.refl _ _ | assumption | refine Below.drew ?_ | refine bdn ?_ _ | refine bal ?_ _ | refine Below.setCell ?_ (by first | (simp; done) | omega | (simp; omega)) _))) (HR.out.c.y.below (by repeat' (first | exact Below.refl _ _ | assumption | refine Below.drew ?_ | refine bdn ?_ _ | refine bal ?_ _ | refine Below.setCell ?_ (by first | (simp; done) | omega | (simp; omega)) _)))).mono ?_); rintro e w1 ⟨rfl, hb1⟩; have hB1 := bthen (show Below w.heap.size w _ from (by repeat' (first | exact Below.refl _ _ | assumption | refine Below.drew ?_ | refine bdn ?_ _ | refine bal ?_ _ | refine Below.setCell ?_ (by first | (simp; done) | omega | (simp; omega)) _))) hb1; have hz1 := hb1.size; (try simp at hz1); obtain ⟨hc1, hf1⟩ := bcell hb1; first | (have hE1 := bthen2 hE (by repeat' (first | exact Below.refl _ _ | refine Below.drew ?_ | refine bdn ?_ _ | refine bal ?_ _ | refine Below.setCell ?_ (by first | (simp; done) | omega | (simp; omega)) _)) hb1; clear hE; have hE := hE1; clear hE1; obtain ⟨hd1, hg1⟩ := bcell hE) | (have hE := hb1)) | (go_at_call 80; (with_reducible refine (ro_within_c _ _ _ _).mono ?_); rintro e w1 ⟨rfl, rfl⟩))
          go_ret
          exact ⟨ret_int (by simp [rotB, ringsB, p1, rotE]), (by repeat' (first | exact Below.refl _ _ | assumption | refine Below.drew ?_ | refine bdn ?_ _ | refine bal ?_ _ | refine Below.setCell ?_ (by first | (simp; done) | omega | (simp; omega)) _))⟩
        · cases p2 : decide (S.a.Y = S.c.Y)
          · go_wp2_with (first | (go_at_call 79; (with_reducible refine (equal_c _ _ S.a.X S.c.X _ (HR.out.a.x.below (by repeat' (first | exact Below.refl _ _ | assumption | refine Below.drew ?_ | refine bdn ?_ _ | refine bal ?_ _ | refine Below.setCell ?_ (by first | (simp; done) | omega | (simp; omega)) _))) (HR.out.c.x.below (by repeat' (first | exact Below.refl _ _ | assumption | refine Below.drew ?_ | refine bdn ?_ _ | refine bal ?_ _ | refine Below.setCell ?_ (by first | (simp; done) | omega | (simp; omega)) _)))).mono ?_); rintro e w1 ⟨rfl, hb1⟩; have hB1 := bthen (show Below w.heap.size w _ from (by repeat' (first | exact Below.refl _ _ | assumption | refine Below.drew ?_ | refine bdn ?_ _ | refine bal ?_ _ | refine Below.setCell ?_ (by first | (simp; done) | omega | (simp; omega)) _))) hb1; have hz1 := hb1.size; (try simp at hz1); obtain ⟨hc1, hf1⟩ := bcell hb1; first | (have hE1 := bthen2 hE (by repeat' (first | exact Below.refl _ _ | refine Below.drew ?_ | refine bdn ?_ _ | refine bal ?_ _ | refine Below.setCell ?_ (by first | (simp; done) | omega | (simp; omega)) _)) hb1; clear hE; have hE := hE1; clear hE1; obtain ⟨hd1, hg1⟩ := bcell hE) | (have hE := hb1)) | (go_at_call 79; (with_reducible refine (equal_c _ _ S.a.Y S.c.Y _ (HR.out.a.y.below (by repeat' (first | exact Below.refl _ _ | assumption | refine Below.drew ?_ | refine bdn ?_ _ | refine bal ?_ _ | refine Below.setCell ?_ (by first | (simp; done) | omega | (simp; omega)) _))) (HR.out.c.y.below (by repeat' (first | exact Below.refl _ _ | assumption | refine Below.drew ?_ | refine bdn ?_ _ | refine bal ?_ _ | refine Below.setCell ?_ (by first | (simp; done) | omega | (simp; omega)) _)))).mono ?_); rintro e w1 ⟨rfl, hb1⟩; have hB1 := bthen (show Below w.heap.size w _ from (by repeat' (first | exact Below.refl _ _ | assumption | refine Below.drew ?_ | refine bdn ?_ _ | refine bal ?_ _ | refine Below.setCell ?_ (by first | (simp; done) | omega | (simp; omega)) _))) hb1; have hz1 := hb1.size; (try simp at hz1); obtain ⟨hc1, hf1⟩ := bcell hb1; first | (have hE1 := bthen2 hE (by repeat' (first | exact Below.refl _ _ | refine Below.drew ?_ | refine bdn ?_ _ | refine bal ?_ _ | refine Below.setCell ?_ (by first | (simp; done) | omega | (simp; omega)) _)) hb1; clear hE; have hE := hE1; clear hE1; obtain ⟨hd1, hg1⟩ := bcell hE) | (have hE := hb1)) | (go_at_call 80; (with_reducible refine (ro_within_c _ _ _ _).mono ?_); rintro e w1 ⟨rfl, rfl⟩))
            go_ret
            exact ⟨ret_int (by simp [rotB, ringsB, p1, p2, rotE]), (by repeat' (first | exact Below.refl _ _ | assumption | refine Below.drew ?_ | refine bdn ?_ _ | refine bal ?_ _ | refine Below.setCell ?_ (by first | (simp; done) | omega | (simp; omega)) _))⟩
          · cases p3 : inB cl 1 1000
            · go_wp2_with (first | (go_at_call 79; (with_reducible refine (equal_c _ _ S.a.X S.c.X _ (HR.out.a.x.below (by repeat' (first | exact Below.refl _ _ | assumption | refine Below.drew ?_ | refine bdn ?_ _ | refine bal ?_ _ | refine Below.setCell ?_ (by first | (simp; done) | omega | (simp; omega)) _))) (HR.out.c.x.below (by repeat' (first | exact Below.refl _ _ | assumption | refine Below.drew ?_ | refine bdn ?_ _ | refine bal ?_ _ | refine Below.setCell ?_ (by first | (simp; done) | omega | (simp; omega)) _)))).mono ?_); rintro e w1 ⟨rfl, hb1⟩; have hB1 := bthen (show Below w.heap.size w _ from (by repeat' (first | exact Below.refl _ _ | assumption | refine Below.drew ?_ | refine bdn ?_ _ | refine bal ?_ _ | refine Below.setCell ?_ (by first | (simp; done) | omega | (simp; omega)) _))) hb1; have hz1 := hb1.size; (try simp at hz1); obtain ⟨hc1, hf1⟩ := bcell hb1; first | (have hE1 := bthen2 hE (by repeat' (first | exact Below.refl _ _ | refine Below.drew ?_ | refine bdn ?_ _ | refine bal ?_ _ | refine Below.setCell ?_ (by first | (simp; done) | omega | (simp; omega)) _)) hb1; clear hE; have hE := hE1; clear hE1; obtain ⟨hd1, hg1⟩ := bcell hE) | (have hE := hb1)) | (go_at_call 79; (with_reducible refine (equal_c _ _ S.a.Y S.c.Y _ (HR.out.a.y.below (by repeat' (first | exact Below.refl _ _ | assumption | refine Below.drew ?_ | refine bdn ?_ _ | refine bal ?_ _ | refine Below.setCell ?_ (by first | (simp; done) | omega | (simp; omega)) _))) (HR.out.c.y.below (by repeat' (first | exact Below.refl _ _ | assumption | refine Below.drew ?_ | refine bdn ?_ _ | refine bal ?_ _ | refine Below.setCell ?_ (by first | (simp; done) | omega | (simp; omega)) _)))).mono ?_); rintro e w1 ⟨rfl, hb1⟩; have hB1 := bthen (show Below w.heap.size w _ from (by repeat' (first | exact Below.refl _ _ | assumption | refine Below.drew ?_ | refine bdn ?_ _ | refine bal ?_ _ | refine Below.setCell ?_ (by first | (simp; done) | omega | (simp; omega)) _))) hb1; have hz1 := hb1.size; (try simp at hz1); obtain ⟨hc1, hf1⟩ := bcell hb1; first | (have hE1 := bthen2 hE (by repeat' (first | exact Below.refl _ _ | refine Below.drew ?_ | refine bdn ?_ _ | refine bal ?_ _ | refine Below.setCell ?_ (by first | (simp; done) | omega | (simp; omega)) _)) hb1; clear hE; have hE := hE1; clear hE1; obtain ⟨hd1, hg1⟩ := bcell hE) | (have hE := hb1)) | (go_at_call 80; (with_reducible refine (ro_within_c _ _ _ _).mono ?_); rintro e w1 ⟨rfl, rfl⟩))
              go_ret
              exact ⟨ret_int (by simp [rotB, ringsB, p1, p2, p3, rotE]), (by repeat' (first | exact Below.refl _ _ | assumption | refine Below.drew ?_ | refine bdn ?_ _ | refine bal ?_ _ | refine Below.setCell ?_ (by first | (simp; done) | omega | (simp; omega)) _))⟩
            · cases p4 : inB bu 1 1000
              · go_wp2_with (first | (go_at_call 79; (with_reducible refine (equal_c _ _ S.a.X S.c.X _ (HR.out.a.x.below (by repeat' (first | exact Below.refl _ _ | assumption | refine Below.drew ?_ | refine bdn ?_ _ | refine bal ?_ _ | refine Below.setCell ?_ (by first | (simp; done) | omega | (simp; omega)) _))) (HR.out.c.x.below (by repeat' (first | exact Below.refl _ _ | assumption | refine Below.drew ?_ | refine bdn ?_ _ | refine bal ?_ _ | refine Below.setCell ?_ (by first | (simp; done) | omega | (simp; omega)) _)))).mono ?_); rintro e w1 ⟨rfl, hb1⟩; have hB1 := bthen (show Below w.heap.size w _ from (by repeat' (first | exact Below.refl _ _ | assumption | refine Below.drew ?_ | refine bdn ?_ _ | refine bal ?_ _ | refine Below.setCell ?_ (by first | (simp; done) | omega | (simp; omega)) _))) hb1; have hz1 := hb1.size; (try simp at hz1); obtain ⟨hc1, hf1⟩ := bcell hb1; first | (have hE1 := bthen2 hE (by repeat' (first | exact Below.refl _ _ | refine Below.drew ?_ | refine bdn ?_ _ | refine bal ?_ _ | refine Below.setCell ?_ (by first | (simp; done) | omega | (simp; omega)) _)) hb1; clear hE; have hE := hE1; clear hE1; obtain ⟨hd1, hg1⟩ := bcell hE) | (have hE := hb1)) | (go_at_call 79; (with_reducible refine (equal_c _ _ S.a.Y S.c.Y _ (HR.out.a.y.below (by repeat' (first | exact Below.refl _ _ | assumption | refine Below.drew ?_ | refine bdn ?_ _ | refine bal ?_ _ | refine Below.setCell ?_ (by first | (simp; done) | omega | (simp; omega)) _))) (HR.out.c.y.below (by repeat' (first | exact Below.refl _ _ | assumption | refine Below.drew ?_ | refine bdn ?_ _ | refine bal ?_ _ | refine Below.setCell ?_ (by first | (simp; done) | omega | (simp; omega)) _)))).mono ?_); rintro e w1 ⟨rfl, hb1⟩; have hB1 := bthen (show Below w.heap.size w _ from (by repeat' (first | exact Below.refl _ _ | assumption | refine Below.drew ?_ | refine bdn ?_ _ | refine bal ?_ _ | refine Below.setCell ?_ (by first | (simp; done) | omega | (simp; omega)) _))) hb1; have hz1 := hb1.size; (try simp at hz1); obtain ⟨hc1, hf1⟩ := bcell hb1; first | (have hE1 := bthen2 hE (by repeat' (first | exact Below.refl _ _ | refine Below.drew ?_ | refine bdn ?_ _ | refine bal ?_ _ | refine Below.setCell ?_ (by first | (simp; done) | omega | (simp; omega)) _)) hb1; clear hE; have hE := hE1; clear hE1; obtain ⟨hd1, hg1⟩ := bcell hE) | (have hE := hb1)) | (go_at_call 80; (with_reducible refine (ro_within_c _ _ _ _).mono ?_); rintro e w1 ⟨rfl, rfl⟩))
                go_ret
                exact ⟨ret_int (by simp [rotB, ringsB, p1, p2, p3, p4, rotE]), (by repeat' (first | exact Below.refl _ _ | assumption | refine Below.drew ?_ | refine bdn ?_ _ | refine bal ?_ _ | refine Below.setCell ?_ (by first | (simp; done) | omega | (simp; omega)) _))⟩
              · have HG : RowKit.Hid (ringsB S cl bu = true) := by show ringsB S cl bu = true; unfold ringsB; rw [p1, p2, p3, p4]; rfl
                go_wp2_with (first | (go_at_call 79; (with_reducible refine (equal_c _ _ S.a.X S.c.X _ (HR.out.a.x.below (by repeat' (first | exact Below.refl _ _ | assumption | refine Below.drew ?_ | refine bdn ?_ _ | refine bal ?_ _ | refine Below.setCell ?_ (by first | (simp; done) | omega | (simp; omega)) _))) (HR.out.c.x.below (by repeat' (first | exact Below.refl _ _ | assumption | refine Below.drew ?_ | refine bdn ?_ _ | refine bal ?_ _ | refine Below.setCell ?_ (by first | (simp; done) | omega | (simp; omega)) _)))).mono ?_); rintro e w1 ⟨rfl, hb1⟩; have hB1 := bthen (show Below w.heap.size w _ from (by repeat' (first | exact Below.refl _ _ | assumption | refine Below.drew ?_ | refine bdn ?_ _ | refine bal ?_ _ | refine Below.setCell ?_ (by first | (simp; done) | omega | (simp; omega)) _))) hb1; have hz1 := hb1.size; (try simp at hz1); obtain ⟨hc1, hf1⟩ := bcell hb1; first | (have hE1 := bthen2 hE (by repeat' (first | exact Below.refl _ _ | refine Below.drew ?_ | refine bdn ?_ _ | refine bal ?_ _ | refine Below.setCell ?_ (by first | (simp; done) | omega | (simp; omega)) _)) hb1; clear hE; have hE := hE1; clear hE1; obtain ⟨hd1, hg1⟩ := bcell hE) | (have hE := hb1)) | (go_at_call 79; (with_reducible refine (equal_c _ _ S.a.Y S.c.Y _ (HR.out.a.y.below (by repeat' (first | exact Below.refl _ _ | assumption | refine Below.drew ?_ | refine bdn ?_ _ | refine bal ?_ _ | refine Below.setCell ?_ (by first | (simp; done) | omega | (simp; omega)) _))) (HR.out.c.y.below (by repeat' (first | exact Below.refl _ _ | assumption | refine Below.drew ?_ | refine bdn ?_ _ | refine bal ?_ _ | refine Below.setCell ?_ (by first | (simp; done) | omega | (simp; omega)) _)))).mono ?_); rintro e w1 ⟨rfl, hb1⟩; have hB1 := bthen (show Below w.heap.size w _ from (by repeat' (first | exact Below.refl _ _ | assumption | refine Below.drew ?_ | refine bdn ?_ _ | refine bal ?_ _ | refine Below.setCell ?_ (by first | (simp; done) | omega | (simp; omega)) _))) hb1; have hz1 := hb1.size; (try simp at hz1); obtain ⟨hc1, hf1⟩ := bcell hb1; first | (have hE1 := bthen2 hE (by repeat' (first | exact Below.refl _ _ | refine Below.drew ?_ | refine bdn ?_ _ | refine bal ?_ _ | refine Below.setCell ?_ (by first | (simp; done) | omega | (simp; omega)) _)) hb1; clear hE; have hE := hE1; clear hE1; obtain ⟨hd1, hg1⟩ := bcell hE) | (have hE := hb1)) | (go_at_call 80; (with_reducible refine (ro_within_c _ _ _ _).mono ?_); rintro e w1 ⟨rfl, rfl⟩))
                have r52 := (hE.cell (p := ⟨b5, 2, none⟩) z5).trans q52
                have r62 := (hE.cell (p := ⟨b6, 2, none⟩) z6).trans q62
                have HB := Lib.hid hB1
                have hT5 : rightB S.a 0 10000 = true := limsB_at HL.out (k := 5) (by omega)
                have hT6 : rightB S.c 0 10000 = true := limsB_at HL.out (k := 6) (by omega)
                have eA : S.a.V.length = S.a.X.length := tblB_len (right_t hT5)
                have eC : S.c.V.length = S.c.X.length := tblB_len (right_t hT6)
                have eX : S.a.X.length = S.c.X.length := by rw [of_decide_eq_true p1]
                have eY : S.a.Y.length = S.c.Y.length := by rw [of_decide_eq_true p2]
                have lX := axisB_len (tblB_X (right_t hT5))
                have lY := axisB_len (tblB_Y (right_t hT5))
                have eL : S.c.V.length = S.a.V.length := by omega
                have lA : S.a.V.length ≤ 12 := by omega
                have rA : RowKit.Hid (∀ k, k < S.a.V.length → (nthR S.a.V k).length = S.a.Y.length) := fun k hk => (tblB_row (right_t hT5) hk).1
                have rC : RowKit.Hid (∀ k, k < S.a.V.length → (nthR S.c.V k).length = S.a.Y.length) := fun k hk => by rw [(tblB_row (right_t hT6) (show k < S.c.V.length by omega)).1]; exact eY.symm
                have HeL := Lib.hid eL
                clear q50 q51 q52 q60 q61 q62 q24 q25 p1 p2 p3 p4 hE hB1 hc1 hf1 hz1 hb1 hT5 hT6 eA eC eX eY eL lX z5 z6 z1
                try clear hd1 hg1
                go_loop [78] (fun s => ∃ k : Nat, k ≤ S.a.V.length ∧ s = .int .i64 k ∧ RowKit.Hid (∀ j, j < k → overRow (nthR S.a.V j) (nthR S.c.V j) = false)) (fun s => S.a.V.length - (intOf s).toNat)
                case atStart => exact ⟨0, by omega, rfl, fun j hj => absurd hj (by omega)⟩
                case round =>
                  obtain ⟨k, hk, rfl, hF⟩ := hrel
                  by_cases hlt : k < S.a.V.length
                  · obtain ⟨bA, oA, rfl, hbA, hcA⟩ := HAv.out (by omega)
                    obtain ⟨bC, oC, rfl, hbC, hcC⟩ := HCv.out (by have := HeL.out; omega)
                    have ck := (HB.out.cell (p := ⟨bA, oA + k, none⟩) hbA).trans (hcA k hlt)
                    have dk := (HB.out.cell (p := ⟨bC, oC + k, none⟩) hbC).trans (hcC k (by have := HeL.out; omega))
                    have iA := HAr.out k hlt
                    have iC := HCr.out k (by have := HeL.out; omega)
                    have lA' := rA.out k hlt
                    have lC' := rC.out k hlt
                    obtain ⟨ra, rm, hra, s1, s2, _, hRA⟩ := iA
                    obtain ⟨sa, sm, hsa, s3, s4, _, hRC⟩ := iC
                    rw [hra, lA'] at ck
                    rw [hsa, lC'] at dk
                    rw [lA'] at hRA
                    rw [lC'] at hRC
                    have HlA := Lib.hid lA'
                    have hkC : k < S.c.V.length := by have := HeL.out; omega
                    clear hra hsa hcA hcC lA' lC' s1 s3
                    go_wp2
                    go_loop [85] (fun s => ∃ j : Nat, j ≤ S.a.Y.length ∧ s = .int .i64 j ∧ RowKit.Hid (∀ i, i < j → decide (nth (nthR S.c.V k) i < nth (nthR S.a.V k) i) = false)) (fun s => S.a.Y.length - (intOf s).toNat)
                    case atStart => exact ⟨0, by omega, rfl, fun j hj => absurd hj (by omega)⟩
                    case round =>
                      obtain ⟨j, hj, rfl, hG⟩ := hrel
                      by_cases hjt : j < S.a.Y.length
                      · obtain ⟨b1, o1, rfl, hb1, h1⟩ := hRA (by omega)
                        obtain ⟨b2, o2, rfl, hb2, h2⟩ := hRC (by omega)
                        have e1 := (HB.out.cell (p := ⟨b1, o1 + j, none⟩) hb1).trans (h1 j hjt)
                        have e2 := (HB.out.cell (p := ⟨b2, o2 + j, none⟩) hb2).trans (h2 j hjt)
                        clear h1 h2 hRA hRC
                        cases ht : decide (nth (nthR S.c.V k) j < nth (nthR S.a.V k) j)
                        · have Ht := Lib.hid ht
                          go_wp2
                          go_round
                          case rel => exact ⟨j + 1, by omega, by go_num, fun i hi => by
                            by_cases e : i = j
                            · subst e; exact Ht.out
                            · exact hG.out i (by omega)⟩
                          case measure => simp [intOf]; omega
                        · have Ht := Lib.hid ht
                          go_wp2
                          go_ret
                          exact ⟨ret_int (by rw [rotB, over_yes hlt (j := j) (by rw [HlA.out]; exact hjt) Ht.out, HL.out, HG.out]; rfl), HB.out⟩
                      · obtain rfl : j = S.a.Y.length := by omega
                        go_wp2
                        go_round
                        case rel => exact ⟨k + 1, by omega, by go_num, fun i hi => by
                          by_cases e : i = k
                          · subst e; exact row_no (fun j hj => hG.out j (by rw [← HlA.out]; exact hj))
                          · exact hF.out i (by omega)⟩
                        case measure => simp [intOf]; omega
                  · obtain rfl : k = S.a.V.length := by omega
                    go_wp2
                    go_ret
                    exact ⟨ret_int (by rw [rotB, over_no hF.out, HL.out, HG.out]; rfl), HB.out⟩
