/- Contract: Copy of a deck (the reference of decks). -/
import Derived.Test.YtafkifjebimdaaaGreatJAO
set_option linter.all false
namespace Go.Proofs.YtafkifjebimdaaaGreat
open Go Go.RowKit Go.Proofs
set_option maxRecDepth 100000
set_option maxHeartbeats 8000000
theorem Tryz.spU2 : Tryz.prog.underlying 24 = some (.slice 28) := by kernel_rfl
theorem Tryz.spI2 : (Tryz.prog.info? 28).map (fun i => (i.zero.map (·.cells.size), i.size, decide (i.bytes ≤ 200))) = some (some 2, 2, true) := by kernel_rfl
theorem Tryz.sizeDek : (Tryz.prog.info? 26).map (·.size) = some 10 := by kernel_rfl
theorem SlN.put {n0 : Nat} {w w' : World} {v : Value} {n k g i : Nat} {V : Nat → Nat → Value} {u : Value} {o : Obj} (h : SlN n0 w v n k V) (hg : g < n0) (hb : Below ((w.setCell ⟨g, i, none⟩ u).alloc o).heap.size ((w.setCell ⟨g, i, none⟩ u).alloc o) w') : SlN n0 w' v n k V := by
  refine ⟨((h.1.frame (w' := w.setCell ⟨g, i, none⟩ u) (by simp [World.setCell]) (fun b hb' => Below.heap_setCell _ _ _ _ (by have := h.2 b hb'; show b ≠ g; omega))).below (bal (Below.refl _ _) o)).below hb, h.2⟩
theorem Blk.putFar {w w' : World} {k g i : Nat} {t : TypeId} {cs : Array Value} {u : Value} {o : Obj} (h : Blk w k t cs) (hk : k ≠ g) (hb : Below ((w.setCell ⟨g, i, none⟩ u).alloc o).heap.size ((w.setCell ⟨g, i, none⟩ u).alloc o) w') : Blk w' k t cs := ((h.far' hk (i := i) u).alloc o).below hb
theorem Blk.putIn {w w' : World} {g i : Nat} {t : TypeId} {cs : Array Value} {u : Value} {o : Obj} (h : Blk w g t cs) (hb : Below ((w.setCell ⟨g, i, none⟩ u).alloc o).heap.size ((w.setCell ⟨g, i, none⟩ u).alloc o) w') : Blk w' g t (cs.setIfInBounds i u) := ((h.set_ i u).alloc o).below hb
theorem dCopy_c (D : DekD) (vA vB vC : Value) (w : World) (hD : DekAt w vA vB vC D) (h1 : D.ns ≤ 200) (h2 : D.nh ≤ 200) (h3 : D.nu ≤ 200) :
   Calls Tryz.prog 29 #[.agg #[.int .i64 D.size, .int .i64 D.load, .int .i64 D.wind, vA, .int .i64 D.pitch, .int .i64 D.roll, .int .i64 D.heave, .int .i64 D.fire, vB, vC]] w fun e w' => ∃ vA' vB' vC', e = .returned (.agg #[.int .i64 D.size, .int .i64 D.load, .int .i64 D.wind, vA', .int .i64 D.pitch, .int .i64 D.roll, .int .i64 D.heave, .int .i64 D.fire, vB', vC']) ∧ Below w.heap.size w w' ∧ SlN w.heap.size w' vA' D.ns 3 (iV D.S) ∧ SlN w.heap.size w' vB' D.nh 3 (iV D.H) ∧ SlN w.heap.size w' vC' D.nu 2 (iV D.U) := by
  obtain ⟨A1, c1, rfl, -, -, r1⟩ := hD.s.e
  obtain ⟨A2, c2, rfl, -, -, r2⟩ := hD.h.e
  obtain ⟨A3, c3, rfl, -, -, r3⟩ := hD.u.e
  have R1 := Lib.hid r1
  have R2 := Lib.hid r2
  have R3 := Lib.hid r3
  clear hD r1 r2 r3
  go_enter Tryz.func29, Tryz.ntmps29
  go_wp2_with (first | (at_builtin; refine wpl_cpk rfl _ _ Tryz.seU Tryz.seI (by omega) (iV_one D.S) rfl _ rfl (Blk.newA _ _ _ (by simp)) A1 D.ns c1 rfl (R1.out.below (by repeat' (first | exact Below.refl _ _ | assumption | refine Below.drew ?_ | refine bdn ?_ _ | refine bal ?_ _ | refine Below.setCell ?_ (by first | (simp; done) | omega | (simp; omega)) _))) h1 ?_))
  intro v1 w1 hq hbh
  have hb1 := hbh.out
  obtain ⟨B1, e1, rfl, q1, q2, q3, q4⟩ := hq.out
  clear hbh hq
  have HX := Lib.hid (Blk.under ((((Blk.newA (g := w.heap.size) w 26 #[.int .i64 D.size, .int .i64 D.load, .int .i64 D.wind, .slice A1 D.ns c1, .int .i64 D.pitch, .int .i64 D.roll, .int .i64 D.heave, .int .i64 D.fire, .slice A2 D.nh c2, .slice A3 D.nu c3] rfl).alloc _).alloc _).alloc _) hb1 (by omega))
  have HR := Lib.hid (Blk.under (((Blk.newA (g := w.heap.size + 1) (w.alloc _) 26 #[.int .i64 0, .int .i64 0, .int .i64 0, .slice none 0 0, .int .i64 0, .int .i64 0, .int .i64 0, .int .i64 0, .slice none 0 0, .slice none 0 0] (by simp)).alloc _).alloc _) hb1 (by omega))
  have HO := Lib.hid (Blk.under ((Blk.newA (g := w.heap.size + 1 + 1) ((w.alloc _).alloc _) 26 #[.int .i64 D.size, .int .i64 D.load, .int .i64 D.wind, .slice A1 D.ns c1, .int .i64 D.pitch, .int .i64 D.roll, .int .i64 D.heave, .int .i64 D.fire, .slice A2 D.nh c2, .slice A3 D.nu c3] (by simp)).alloc _) hb1 (by omega))
  have HB := Lib.hid ((show Below w.heap.size w _ from (by repeat' (first | exact Below.refl _ _ | assumption | refine Below.drew ?_ | refine bdn ?_ _ | refine bal ?_ _ | refine Below.setCell ?_ (by first | (simp; done) | omega | (simp; omega)) _))).trans (hb1.mono (by omega)))
  have hz1 : w.heap.size + 1 + 1 + 1 ≤ w1.heap.size := by have := hb1.size; simp at this; omega
  have N1 := Lib.hid (show SlN (w.heap.size + 1 + 1 + 1) w1 (.slice B1 D.ns e1) D.ns 3 (iV D.S) from ⟨⟨B1, e1, rfl, q1, q2, q3⟩, fun b hb => by have := q4 b hb; first | omega | (simp at this; omega)⟩)
  clear q1 q2 q3 q4 hb1
  have x8 := HX.out.cell 8
  have o3 := HO.out.cell 3
  have f3 := HO.out.frozen 3
  simp only [List.getElem?_toArray, List.getElem?_cons_succ, List.getElem?_cons_zero] at x8 o3
  have hy1 : w.heap.size < w1.heap.size := by omega
  have hy2 : w.heap.size + 1 + 1 < w1.heap.size := by omega
  have HZ := Lib.hid hz1
  clear hz1
  go_wp2_with (first | (at_builtin; refine wpl_cpk rfl _ _ Tryz.shU Tryz.shI (by omega) (iV_one D.H) rfl _ rfl (Blk.newA _ _ _ (by simp [World.setCell])) A2 D.nh c2 rfl (R2.out.below (bal (bset HB.out (by omega) _) _)) h2 ?_))
  intro v2 w2 hq2 hbh2
  have hb2 : Below ((w1.setCell ⟨w.heap.size + 1 + 1, 3, none⟩ (.slice B1 D.ns e1)).alloc (.cells #[] 131)).heap.size ((w1.setCell ⟨w.heap.size + 1 + 1, 3, none⟩ (.slice B1 D.ns e1)).alloc (.cells #[] 131)) w2 := hbh2.out.mono (by simp [World.setCell])
  obtain ⟨B2, e2, rfl, q1, q2, q3, q4⟩ := hq2.out
  clear hbh2 hq2 x8 o3 f3
  have hs2 : w1.heap.size + 1 ≤ w2.heap.size := by have := hb2.size; simpa [World.setCell] using this
  have HX2 := Lib.hid (HX.out.putFar (by omega) hb2)
  have HR2 := Lib.hid (HR.out.putFar (by omega) hb2)
  have HO2 := Lib.hid (show Blk w2 (w.heap.size + 1 + 1) 26 #[.int .i64 D.size, .int .i64 D.load, .int .i64 D.wind, .slice B1 D.ns e1, .int .i64 D.pitch, .int .i64 D.roll, .int .i64 D.heave, .int .i64 D.fire, .slice A2 D.nh c2, .slice A3 D.nu c3] from HO.out.putIn hb2)
  have HB2 := Lib.hid (bthen (bal (bset HB.out (by omega) _) _) hb2)
  have N1' := Lib.hid (N1.out.put (by omega) hb2)
  have N2 := Lib.hid (show SlN (w.heap.size + 1 + 1 + 1) w2 (.slice B2 D.nh e2) D.nh 3 (iV D.H) from ⟨⟨B2, e2, rfl, q1, q2, q3⟩, fun b hb => by have := q4 b hb; have hz := HZ.out; first | omega | (simp [World.setCell] at this; omega)⟩)
  have HZ2 := Lib.hid (show w.heap.size + 1 + 1 + 1 ≤ w2.heap.size by have := HZ.out; omega)
  clear q1 q2 q3 q4 hb2 HX HR HO HB N1
  have x9 := HX2.out.cell 9
  have o8 := HO2.out.cell 8
  have f8 := HO2.out.frozen 8
  simp only [List.getElem?_toArray, List.getElem?_cons_succ, List.getElem?_cons_zero] at x9 o8
  have hw1 : w.heap.size < w2.heap.size := by omega
  have hw2 : w.heap.size + 1 + 1 < w2.heap.size := by omega
  clear hs2 hy1 hy2
  go_wp2_with (first | (at_builtin; refine wpl_cpk rfl _ _ Tryz.spU2 Tryz.spI2 (by omega) (iV_one D.U) rfl _ rfl (Blk.newA _ _ _ (by simp [World.setCell])) A3 D.nu c3 rfl (R3.out.below (bal (bset HB2.out (by omega) _) _)) h3 ?_))
  intro v3 w3 hq3 hbh3
  have hb3 : Below ((w2.setCell ⟨w.heap.size + 1 + 1, 8, none⟩ (.slice B2 D.nh e2)).alloc (.cells #[] 28)).heap.size ((w2.setCell ⟨w.heap.size + 1 + 1, 8, none⟩ (.slice B2 D.nh e2)).alloc (.cells #[] 28)) w3 := hbh3.out.mono (by simp [World.setCell])
  obtain ⟨B3, e3, rfl, q1, q2, q3, q4⟩ := hq3.out
  clear hbh3 hq3 x9 o8 f8
  have hs3 : w2.heap.size + 1 ≤ w3.heap.size := by have := hb3.size; simpa [World.setCell] using this
  have HR3 := Lib.hid (HR2.out.putFar (by omega) hb3)
  have HO3 := Lib.hid (show Blk w3 (w.heap.size + 1 + 1) 26 #[.int .i64 D.size, .int .i64 D.load, .int .i64 D.wind, .slice B1 D.ns e1, .int .i64 D.pitch, .int .i64 D.roll, .int .i64 D.heave, .int .i64 D.fire, .slice B2 D.nh e2, .slice A3 D.nu c3] from HO2.out.putIn hb3)
  have HB3 := Lib.hid (bthen (bal (bset HB2.out (by omega) _) _) hb3)
  have M1 := Lib.hid (N1'.out.put (by omega) hb3)
  have M2 := Lib.hid (N2.out.put (by omega) hb3)
  have M3 := Lib.hid (show SlN (w.heap.size + 1 + 1 + 1) w3 (.slice B3 D.nu e3) D.nu 2 (iV D.U) from ⟨⟨B3, e3, rfl, q1, q2, q3⟩, fun b hb => by have := q4 b hb; have hz := HZ2.out; first | omega | (simp [World.setCell] at this; omega)⟩)
  clear q1 q2 q3 q4 hb3 HX2 HR2 HO2 HB2 N1' N2
  have o9 := HO3.out.cell 9
  have f9 := HO3.out.frozen 9
  simp only [List.getElem?_toArray, List.getElem?_cons_succ, List.getElem?_cons_zero] at o9
  have ht1 : w.heap.size + 1 < w3.heap.size := by omega
  have ht2 : w.heap.size + 1 + 1 < w3.heap.size := by omega
  have HO4 := Lib.hid (show Blk (w3.setCell ⟨w.heap.size + 1 + 1, 9, none⟩ (.slice B3 D.nu e3)) (w.heap.size + 1 + 1) 26 #[.int .i64 D.size, .int .i64 D.load, .int .i64 D.wind, .slice B1 D.ns e1, .int .i64 D.pitch, .int .i64 D.roll, .int .i64 D.heave, .int .i64 D.fire, .slice B2 D.nh e2, .slice B3 D.nu e3] from HO3.out.set_ 9 (.slice B3 D.nu e3))
  have HR4 := Lib.hid (HR3.out.far' (f := w.heap.size + 1 + 1) (by omega) (i := 9) (.slice B3 D.nu e3))
  go_wp2_with (first | (refine wpl_row rfl 26 _ rfl _ rfl #[.int .i64 D.size, .int .i64 D.load, .int .i64 D.wind, .slice B1 D.ns e1, .int .i64 D.pitch, .int .i64 D.roll, .int .i64 D.heave, .int .i64 D.fire, .slice B2 D.nh e2, .slice B3 D.nu e3] 10 HO4.out Tryz.rowDek rfl ?_; simp only [Act.put]) | (refine wpList_store_row rfl 26 _ _ rfl (w.heap.size + 1) #[.int .i64 D.size, .int .i64 D.load, .int .i64 D.wind, .slice B1 D.ns e1, .int .i64 D.pitch, .int .i64 D.roll, .int .i64 D.heave, .int .i64 D.fire, .slice B2 D.nh e2, .slice B3 D.nu e3] rfl rfl 26 #[.int .i64 0, .int .i64 0, .int .i64 0, .slice none 0 0, .int .i64 0, .int .i64 0, .int .i64 0, .int .i64 0, .slice none 0 0, .slice none 0 0] HR4.out Tryz.sizeDek rfl (by simp [Value.oneCell']) ?_; simp only [Act.put]))
  have fr : ∀ b, w.heap.size + 1 + 1 + 1 ≤ b → ((w3.setCell ⟨w.heap.size + 1 + 1, 9, none⟩ (.slice B3 D.nu e3)).setRow (w.heap.size + 1) #[.int .i64 D.size, .int .i64 D.load, .int .i64 D.wind, .slice B1 D.ns e1, .int .i64 D.pitch, .int .i64 D.roll, .int .i64 D.heave, .int .i64 D.fire, .slice B2 D.nh e2, .slice B3 D.nu e3]).heap[b]? = w3.heap[b]? := fun b hb => by
    rw [setRow_other _ _ _ _ (by omega)]
    exact Below.heap_setCell _ _ _ _ (by show b ≠ w.heap.size + 1 + 1; omega)
  exact bodyPost_ret (res_c rfl _ _ _ 10 rfl (setRow_heap _ _ _ _ _ _ HR4.out) Tryz.rowDek rfl) rfl ⟨_, _, _, rfl, rowBelow (bset HB3.out (by omega) _) (by omega) _, ⟨M1.out.1.frame (by simp [World.setRow, World.setCell]) (fun b hb => fr b (M1.out.2 b hb)), fun b hb => by have := M1.out.2 b hb; omega⟩, ⟨M2.out.1.frame (by simp [World.setRow, World.setCell]) (fun b hb => fr b (M2.out.2 b hb)), fun b hb => by have := M2.out.2 b hb; omega⟩, ⟨M3.out.1.frame (by simp [World.setRow, World.setCell]) (fun b hb => fr b (M3.out.2 b hb)), fun b hb => by have := M3.out.2 b hb; omega⟩⟩
end Go.Proofs.YtafkifjebimdaaaGreat
