/- Contract: spans.Hull of two parts of a span. -/
import Derived.Test.YtafkifjebimdaaaGreatJAQ
set_option linter.all false
namespace Go.Proofs.YtafkifjebimdaaaGreat
open Go Go.RowKit Go.Proofs
set_option maxRecDepth 100000
set_option maxHeartbeats 8000000
theorem Hull_c (al ah bh : Int) (w : World) (h1 : -1000000 ≤ al) (h2 : al ≤ ah) (h3 : ah ≤ bh) (h4 : bh ≤ 1000000) :
   Calls Tryz.prog 14 #[.agg #[.int .i64 al, .int .i64 ah], .agg #[.int .i64 ah, .int .i64 bh]] w fun e w' => e = .returned (.tuple #[.agg #[.int .i64 al, .int .i64 bh], .int .i64 0]) ∧ Below w.heap.size w w' := by
  have e4 := spanE_f
  have mixed : Tryz.prog.follows Departure.mixedOrders = true := by kernel_rfl
  have C1 := Lib.hid (fun b c w g0 g1 g2 g3 => (show Calls Tryz.prog 39 #[.slice (some ⟨b, 0, none⟩) 2 c] w fun e w' => e = .returned (.int .i64 0) ∧ Below w.heap.size w w' by
    have := spanned2_c b c al ah ah bh w g0 g1 g2 g3
    rwa [vspan_iff'.2 ⟨by omega, by omega, by omega⟩, vspan_iff'.2 ⟨by omega, by omega, by omega⟩, show spanE (!true || !true) = 0 from rfl] at this))
  have n1 : ¬ ah < al := by omega
  have n2 : ¬ bh < ah := by omega
  have n3 : min al ah = al := by omega
  have n4 : max ah bh = bh := by omega
  clear h1 h4
  go_enter Tryz.func14, Tryz.ntmps14
  go_wp2_with (first | (go_at_call 39; (with_reducible refine (C1.out _ _ _ (by first | (simp; done) | (rw [cell_new_at _ _ _ _ _ (by simp)]; first | rfl | (simp; done))) (by first | (simp; done) | (rw [cell_new_at _ _ _ _ _ (by simp)]; first | rfl | (simp; done))) (by first | (simp; done) | (rw [cell_new_at _ _ _ _ _ (by simp)]; first | rfl | (simp; done))) (by first | (simp; done) | (rw [cell_new_at _ _ _ _ _ (by simp)]; first | rfl | (simp; done)))).mono ?_); rintro e w1 ⟨rfl, hb1⟩; have hB1 := Lib.hid (bthen (show Below w.heap.size w _ from (by repeat' (first | exact Below.refl _ _ | assumption | refine Below.drew ?_ | refine bdn ?_ _ | refine bal ?_ _ | refine Below.setCell ?_ (by first | (simp; done) | omega | (simp; omega)) _))) hb1); have rA := Lib.hid (Blk.below ((((Blk.newA (g := w.heap.size) _ 28 #[.int .i64 al, .int .i64 ah] (by simp)).alloc _).alloc _).alloc _) hb1); have rB := Lib.hid (Blk.below (((Blk.newA (g := w.heap.size + 1) _ 28 #[.int .i64 ah, .int .i64 bh] (by simp)).alloc _).alloc _) hb1); have rC := Lib.hid (Blk.below ((Blk.newA (g := w.heap.size + 1 + 1) _ 28 #[.int .i64 0, .int .i64 0] (by simp)).alloc _) hb1); have z1 := hB1.out.size; have a0 := rA.out.cell 0; have a1 := rA.out.cell 1; have b0 := rB.out.cell 0; have b1 := rB.out.cell 1; have g0 := rC.out.cell 0; have g1 := rC.out.cell 1; have g2 := fun i => rC.out.frozen i; clear hb1))
  exact bodyPost_ret (res_ct rfl _ _ _ 2 rfl ((rC.out.set_ 0 _).set_ 1 _) Tryz.rowSpan rfl) rfl ⟨rfl, bset (bset hB1.out (by omega) _) (by omega) _⟩
end Go.Proofs.YtafkifjebimdaaaGreat
