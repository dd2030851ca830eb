/- Contracts: Why, Limit of package deck. -/
import Derived.Test.YtafkifjebimdaaaGreatDkR
import Derived.Test.YtafkifjebimdaaaGreatJAN
set_option linter.all false
namespace Go.Proofs.YtafkifjebimdaaaGreat
open Go Go.RowKit Go.Proofs
set_option maxRecDepth 100000
set_option maxHeartbeats 8000000
theorem Tryz.sizeScn : (Tryz.prog.info? 97).map (·.size) = some 27 := by kernel_rfl
theorem oneScn (D : DekD) (M : MetD) (Mo : MovD) (A1 A2 A3 A4 A5 A6 A7 A8 : Option Addr) (k1 k2 k3 k4 k5 k6 k7 k8 : Nat) : (#[.int .i64 D.size, .int .i64 D.load, .int .i64 D.wind, .slice A1 D.ns k1, .int .i64 D.pitch, .int .i64 D.roll, .int .i64 D.heave, .int .i64 D.fire, .slice A2 D.nh k2, .slice A3 D.nu k3, .int .i64 M.places, .int .i64 M.any.a0, .int .i64 M.any.a1, .int .i64 M.any.a2, .int .i64 M.any.a3, .int .i64 M.any.a4, .int .i64 M.any.a5, .bool M.any.i, .bool M.any.s, .int .i64 M.mw, .int .i64 M.ms, .int .i64 M.mc, .slice A4 M.n k4, .slice A5 M.m k5, .slice A6 Mo.np k6, .slice A7 Mo.nr k7, .slice A8 Mo.nv k8] : Array Value).all (·.oneCell') = true := by simp [Value.oneCell']
theorem caE_ok {D : DekD} {M : MetD} {Mo : MovD} {a : AppD} {r : Bool} (h : caE D M Mo a r = 0) :
    D.Ok ∧ Mo.Ok ∧ M.bad = false ∧ (inB a.size 1 1000000 = true ∧ inB a.weight 1 1000000 = true ∧ opE M a.lw a.ls a.lc a.place 0 = 0 ∧ insB a.lo a.hi 719 = true) ∧ r = true := by
  unfold caE at h
  by_cases h1 : scE D M Mo = 0
  · rw [if_pos h1] at h
    by_cases h2 : appE M a = 0
    · rw [if_pos h2] at h
      cases r
      · cases h
      · unfold scE at h1
        by_cases h3 : D.err = 0
        · rw [if_pos h3] at h1
          have hb : D.bad = false := by
            unfold DekD.err at h3
            cases hb : D.bad
            · rfl
            · rw [hb] at h3; cases h3
          by_cases h4 : M.err = 0
          · rw [if_pos h4] at h1
            unfold cmE at h1
            rw [if_pos h3] at h1
            have hmb : M.bad = false := by
              cases hb : M.bad
              · rfl
              · rw [MetD.err_t hb] at h4; cases h4
            have hmo : Mo.ok = true := by
              cases hb : Mo.ok
              · rw [hb] at h1; cases h1
              · rfl
            unfold appE at h2
            cases q1 : inB a.size 1 1000000
            · rw [q1] at h2; cases h2
            · cases q2 : inB a.weight 1 1000000
              · rw [q1, q2] at h2; cases h2
              · by_cases q3 : opE M a.lw a.ls a.lc a.place 0 = 0
                · cases q4 : insB a.lo a.hi 719
                  · rw [q1, q2, if_pos rfl, if_pos rfl, if_pos q3, q4] at h2; cases h2
                  · exact ⟨DekD.ok_of hb, MovD.ok_of hmo, hmb, ⟨rfl, rfl, q3, rfl⟩, rfl⟩
                · rw [q1, q2, if_pos rfl, if_pos rfl, if_neg q3] at h2; cases h2
          · rw [if_neg h4] at h1; exact absurd h1 h4
        · rw [if_neg h3] at h1; exact absurd h1 h3
    · rw [if_neg h2] at h; exact absurd h h2
  · rw [if_neg h1] at h; exact absurd h h1
def whyE (D : DekD) (M : MetD) (Mo : MovD) (a : AppD) (t : Int) : Int := caE D M Mo a (inB t 0 2000)
def whyV (D : DekD) (M : MetD) (Mo : MovD) (a : AppD) (t : Int) : Nat := if whyE D M Mo a t = 0 then whyN D M Mo a t else 0
theorem dWhy_c (D : DekD) (vA vB vC : Value) (M : MetD) (vF vS : Value) (Mo : MovD) (vP vR vV : Value) (a : AppD) (t : Int) (w : World) (hD : DekAt w vA vB vC D) (hA : MetAt w vF vS M) (hV : MovAt w vP vR vV Mo) :
   Calls Tryz.prog 11 #[.agg #[.int .i64 D.size, .int .i64 D.load, .int .i64 D.wind, vA, .int .i64 D.pitch, .int .i64 D.roll, .int .i64 D.heave, .int .i64 D.fire, vB, vC], .agg #[.int .i64 M.places, .int .i64 M.any.a0, .int .i64 M.any.a1, .int .i64 M.any.a2, .int .i64 M.any.a3, .int .i64 M.any.a4, .int .i64 M.any.a5, .bool M.any.i, .bool M.any.s, .int .i64 M.mw, .int .i64 M.ms, .int .i64 M.mc, vF, vS], .agg #[vP, vR, vV], .agg #[.int .i64 a.size, .int .i64 a.weight, .int .i64 a.lw, .int .i64 a.ls, .int .i64 a.lc, .bool a.li, .bool a.lt, .int .i64 a.place, .int .i64 a.lo, .int .i64 a.hi], .int .i64 t] w fun e w' => ∃ A c, e = .returned (.tuple #[.slice A (whyV D M Mo a t) c, .int .i64 (whyE D M Mo a t)]) ∧ Below w.heap.size w w' := by
  have HD := Lib.hid hD
  have HA := Lib.hid hA
  have HV := Lib.hid hV
  obtain ⟨A1, k1, rfl, -, -, -⟩ := hD.s.e
  obtain ⟨A2, k2, rfl, -, -, -⟩ := hD.h.e
  obtain ⟨A3, k3, rfl, -, -, -⟩ := hD.u.e
  obtain ⟨⟨A4, k4, rfl, -, -, -⟩, ⟨A5, k5, rfl, -, -, -⟩⟩ := hA
  obtain ⟨A6, k6, rfl, -, -, -⟩ := hV.p.e
  obtain ⟨A7, k7, rfl, -, -, -⟩ := hV.r.e
  obtain ⟨A8, k8, rfl, -, -, -⟩ := hV.v.e
  have hca := fun r w1 h1 h2 h3 => dcheckApproach_c D (.slice A1 D.ns k1) (.slice A2 D.nh k2) (.slice A3 D.nu k3) M (.slice A4 M.n k4) (.slice A5 M.m k5) Mo (.slice A6 Mo.np k6) (.slice A7 Mo.nr k7) (.slice A8 Mo.nv k8) a r w1 h1 h2 h3
  have hwi := fun w1 => dwithin_c t 0 2000 w1
  clear hD hV
  unfold whyV whyE
  by_cases he : caE D M Mo a (inB t 0 2000) = 0
  · obtain ⟨hO, hMo, -, ⟨-, -, -, hin⟩, hr⟩ := caE_ok he
    obtain ⟨ht0, ht1⟩ := inB_iff.1 hr
    have hin2 := insB_iff.1 hin
    have hwy := fun w1 h1 h2 h3 => dwhy_c D (.slice A1 D.ns k1) (.slice A2 D.nh k2) (.slice A3 D.nu k3) M (.slice A4 M.n k4) (.slice A5 M.m k5) Mo (.slice A6 Mo.np k6) (.slice A7 Mo.nr k7) (.slice A8 Mo.nv k8) a t w1 h1 h2 h3 hO hMo ht0 ht1 hin2.2.1 hin2.2.2.2
    rw [if_pos he]
    have hca2 := hca (inB t 0 2000)
    rw [he] at hca2 ⊢
    generalize whyN D M Mo a t = N at *
    generalize inB t 0 2000 = B at *
    have HCA := Lib.hid hca2
    have HWI := Lib.hid hwi
    have HWY := Lib.hid hwy
    clear hca hca2 hwi hwy hO hMo hin hr hin2 he
    have tok : True := trivial
    go_enter Tryz.func11, Tryz.ntmps11
    go_wp2_with (first | (refine wpl_row rfl 26 _ rfl _ rfl #[.int .i64 D.size, .int .i64 D.load, .int .i64 D.wind, .slice A1 D.ns k1, .int .i64 D.pitch, .int .i64 D.roll, .int .i64 D.heave, .int .i64 D.fire, .slice A2 D.nh k2, .slice A3 D.nu k3] 10 ?_ Tryz.rowDek rfl ?_; (focus exact (by repeat (first | (refine Blk.newAt _ _ _ ?_; first | rfl | (simp; done)) | refine Blk.alloc ?_ _))); simp only [Act.put]) | (refine wpl_row rfl 34 _ rfl _ rfl #[.int .i64 M.places, .int .i64 M.any.a0, .int .i64 M.any.a1, .int .i64 M.any.a2, .int .i64 M.any.a3, .int .i64 M.any.a4, .int .i64 M.any.a5, .bool M.any.i, .bool M.any.s, .int .i64 M.mw, .int .i64 M.ms, .int .i64 M.mc, .slice A4 M.n k4, .slice A5 M.m k5] 14 ?_ Tryz.rowMet rfl ?_; (focus exact (by repeat (first | (refine Blk.newAt _ _ _ ?_; first | rfl | (simp; done)) | refine Blk.alloc ?_ _))); simp only [Act.put]) | (refine wpl_row rfl 37 _ rfl _ rfl #[.slice A6 Mo.np k6, .slice A7 Mo.nr k7, .slice A8 Mo.nv k8] 3 ?_ Tryz.rowMov rfl ?_; (focus exact (by repeat (first | (refine Blk.newAt _ _ _ ?_; first | rfl | (simp; done)) | refine Blk.alloc ?_ _))); simp only [Act.put]) | (refine wpl_buildw rfl 97 _ rfl #[.int .i64 D.size, .int .i64 D.load, .int .i64 D.wind, .slice A1 D.ns k1, .int .i64 D.pitch, .int .i64 D.roll, .int .i64 D.heave, .int .i64 D.fire, .slice A2 D.nh k2, .slice A3 D.nu k3, .int .i64 M.places, .int .i64 M.any.a0, .int .i64 M.any.a1, .int .i64 M.any.a2, .int .i64 M.any.a3, .int .i64 M.any.a4, .int .i64 M.any.a5, .bool M.any.i, .bool M.any.s, .int .i64 M.mw, .int .i64 M.ms, .int .i64 M.mc, .slice A4 M.n k4, .slice A5 M.m k5, .slice A6 Mo.np k6, .slice A7 Mo.nr k7, .slice A8 Mo.nv k8] (by kernel_rfl) ?_; simp only [Act.put]) | (have _t := tok; refine wpl_store_newW rfl 97 (.tmp 12) (.tmp 17) rfl #[.int .i64 D.size, .int .i64 D.load, .int .i64 D.wind, .slice A1 D.ns k1, .int .i64 D.pitch, .int .i64 D.roll, .int .i64 D.heave, .int .i64 D.fire, .slice A2 D.nh k2, .slice A3 D.nu k3, .int .i64 M.places, .int .i64 M.any.a0, .int .i64 M.any.a1, .int .i64 M.any.a2, .int .i64 M.any.a3, .int .i64 M.any.a4, .int .i64 M.any.a5, .bool M.any.i, .bool M.any.s, .int .i64 M.mw, .int .i64 M.ms, .int .i64 M.mc, .slice A4 M.n k4, .slice A5 M.m k5, .slice A6 Mo.np k6, .slice A7 Mo.nr k7, .slice A8 Mo.nv k8] _ _ rfl ?_ rfl Tryz.sizeScn rfl (oneScn D M Mo _ _ _ _ _ _ _ _ _ _ _ _ _ _ _ _) ?_; (focus (simp; done)); simp only [Act.put]; clear tok))
    have bH1 : Blk (((((w.alloc (.cells #[.int .i64 D.size, .int .i64 D.load, .int .i64 D.wind, .slice A1 D.ns k1, .int .i64 D.pitch, .int .i64 D.roll, .int .i64 D.heave, .int .i64 D.fire, .slice A2 D.nh k2, .slice A3 D.nu k3] 26)).alloc (.cells #[.int .i64 M.places, .int .i64 M.any.a0, .int .i64 M.any.a1, .int .i64 M.any.a2, .int .i64 M.any.a3, .int .i64 M.any.a4, .int .i64 M.any.a5, .bool M.any.i, .bool M.any.s, .int .i64 M.mw, .int .i64 M.ms, .int .i64 M.mc, .slice A4 M.n k4, .slice A5 M.m k5] 34)).alloc (.cells #[.slice A6 Mo.np k6, .slice A7 Mo.nr k7, .slice A8 Mo.nv k8] 37)).alloc (.cells #[.int .i64 a.size, .int .i64 a.weight, .int .i64 a.lw, .int .i64 a.ls, .int .i64 a.lc, .bool a.li, .bool a.lt, .int .i64 a.place, .int .i64 a.lo, .int .i64 a.hi] 43)).alloc (.cells #[.int .i64 D.size, .int .i64 D.load, .int .i64 D.wind, .slice A1 D.ns k1, .int .i64 D.pitch, .int .i64 D.roll, .int .i64 D.heave, .int .i64 D.fire, .slice A2 D.nh k2, .slice A3 D.nu k3, .int .i64 M.places, .int .i64 M.any.a0, .int .i64 M.any.a1, .int .i64 M.any.a2, .int .i64 M.any.a3, .int .i64 M.any.a4, .int .i64 M.any.a5, .bool M.any.i, .bool M.any.s, .int .i64 M.mw, .int .i64 M.ms, .int .i64 M.mc, .slice A4 M.n k4, .slice A5 M.m k5, .slice A6 Mo.np k6, .slice A7 Mo.nr k7, .slice A8 Mo.nv k8] 97)) (w.heap.size) 26 #[.int .i64 D.size, .int .i64 D.load, .int .i64 D.wind, .slice A1 D.ns k1, .int .i64 D.pitch, .int .i64 D.roll, .int .i64 D.heave, .int .i64 D.fire, .slice A2 D.nh k2, .slice A3 D.nu k3] := (by repeat (first | (refine Blk.newAt _ _ _ ?_; first | rfl | (simp; done)) | refine Blk.alloc ?_ _))
    have bH2 : Blk (((((w.alloc (.cells #[.int .i64 D.size, .int .i64 D.load, .int .i64 D.wind, .slice A1 D.ns k1, .int .i64 D.pitch, .int .i64 D.roll, .int .i64 D.heave, .int .i64 D.fire, .slice A2 D.nh k2, .slice A3 D.nu k3] 26)).alloc (.cells #[.int .i64 M.places, .int .i64 M.any.a0, .int .i64 M.any.a1, .int .i64 M.any.a2, .int .i64 M.any.a3, .int .i64 M.any.a4, .int .i64 M.any.a5, .bool M.any.i, .bool M.any.s, .int .i64 M.mw, .int .i64 M.ms, .int .i64 M.mc, .slice A4 M.n k4, .slice A5 M.m k5] 34)).alloc (.cells #[.slice A6 Mo.np k6, .slice A7 Mo.nr k7, .slice A8 Mo.nv k8] 37)).alloc (.cells #[.int .i64 a.size, .int .i64 a.weight, .int .i64 a.lw, .int .i64 a.ls, .int .i64 a.lc, .bool a.li, .bool a.lt, .int .i64 a.place, .int .i64 a.lo, .int .i64 a.hi] 43)).alloc (.cells #[.int .i64 D.size, .int .i64 D.load, .int .i64 D.wind, .slice A1 D.ns k1, .int .i64 D.pitch, .int .i64 D.roll, .int .i64 D.heave, .int .i64 D.fire, .slice A2 D.nh k2, .slice A3 D.nu k3, .int .i64 M.places, .int .i64 M.any.a0, .int .i64 M.any.a1, .int .i64 M.any.a2, .int .i64 M.any.a3, .int .i64 M.any.a4, .int .i64 M.any.a5, .bool M.any.i, .bool M.any.s, .int .i64 M.mw, .int .i64 M.ms, .int .i64 M.mc, .slice A4 M.n k4, .slice A5 M.m k5, .slice A6 Mo.np k6, .slice A7 Mo.nr k7, .slice A8 Mo.nv k8] 97)) (w.heap.size + 1) 34 #[.int .i64 M.places, .int .i64 M.any.a0, .int .i64 M.any.a1, .int .i64 M.any.a2, .int .i64 M.any.a3, .int .i64 M.any.a4, .int .i64 M.any.a5, .bool M.any.i, .bool M.any.s, .int .i64 M.mw, .int .i64 M.ms, .int .i64 M.mc, .slice A4 M.n k4, .slice A5 M.m k5] := (by repeat (first | (refine Blk.newAt _ _ _ ?_; first | rfl | (simp; done)) | refine Blk.alloc ?_ _))
    have bH3 : Blk (((((w.alloc (.cells #[.int .i64 D.size, .int .i64 D.load, .int .i64 D.wind, .slice A1 D.ns k1, .int .i64 D.pitch, .int .i64 D.roll, .int .i64 D.heave, .int .i64 D.fire, .slice A2 D.nh k2, .slice A3 D.nu k3] 26)).alloc (.cells #[.int .i64 M.places, .int .i64 M.any.a0, .int .i64 M.any.a1, .int .i64 M.any.a2, .int .i64 M.any.a3, .int .i64 M.any.a4, .int .i64 M.any.a5, .bool M.any.i, .bool M.any.s, .int .i64 M.mw, .int .i64 M.ms, .int .i64 M.mc, .slice A4 M.n k4, .slice A5 M.m k5] 34)).alloc (.cells #[.slice A6 Mo.np k6, .slice A7 Mo.nr k7, .slice A8 Mo.nv k8] 37)).alloc (.cells #[.int .i64 a.size, .int .i64 a.weight, .int .i64 a.lw, .int .i64 a.ls, .int .i64 a.lc, .bool a.li, .bool a.lt, .int .i64 a.place, .int .i64 a.lo, .int .i64 a.hi] 43)).alloc (.cells #[.int .i64 D.size, .int .i64 D.load, .int .i64 D.wind, .slice A1 D.ns k1, .int .i64 D.pitch, .int .i64 D.roll, .int .i64 D.heave, .int .i64 D.fire, .slice A2 D.nh k2, .slice A3 D.nu k3, .int .i64 M.places, .int .i64 M.any.a0, .int .i64 M.any.a1, .int .i64 M.any.a2, .int .i64 M.any.a3, .int .i64 M.any.a4, .int .i64 M.any.a5, .bool M.any.i, .bool M.any.s, .int .i64 M.mw, .int .i64 M.ms, .int .i64 M.mc, .slice A4 M.n k4, .slice A5 M.m k5, .slice A6 Mo.np k6, .slice A7 Mo.nr k7, .slice A8 Mo.nv k8] 97)) (w.heap.size + 1 + 1) 37 #[.slice A6 Mo.np k6, .slice A7 Mo.nr k7, .slice A8 Mo.nv k8] := (by repeat (first | (refine Blk.newAt _ _ _ ?_; first | rfl | (simp; done)) | refine Blk.alloc ?_ _))
    have bHY : Blk (((((w.alloc (.cells #[.int .i64 D.size, .int .i64 D.load, .int .i64 D.wind, .slice A1 D.ns k1, .int .i64 D.pitch, .int .i64 D.roll, .int .i64 D.heave, .int .i64 D.fire, .slice A2 D.nh k2, .slice A3 D.nu k3] 26)).alloc (.cells #[.int .i64 M.places, .int .i64 M.any.a0, .int .i64 M.any.a1, .int .i64 M.any.a2, .int .i64 M.any.a3, .int .i64 M.any.a4, .int .i64 M.any.a5, .bool M.any.i, .bool M.any.s, .int .i64 M.mw, .int .i64 M.ms, .int .i64 M.mc, .slice A4 M.n k4, .slice A5 M.m k5] 34)).alloc (.cells #[.slice A6 Mo.np k6, .slice A7 Mo.nr k7, .slice A8 Mo.nv k8] 37)).alloc (.cells #[.int .i64 a.size, .int .i64 a.weight, .int .i64 a.lw, .int .i64 a.ls, .int .i64 a.lc, .bool a.li, .bool a.lt, .int .i64 a.place, .int .i64 a.lo, .int .i64 a.hi] 43)).alloc (.cells #[.int .i64 D.size, .int .i64 D.load, .int .i64 D.wind, .slice A1 D.ns k1, .int .i64 D.pitch, .int .i64 D.roll, .int .i64 D.heave, .int .i64 D.fire, .slice A2 D.nh k2, .slice A3 D.nu k3, .int .i64 M.places, .int .i64 M.any.a0, .int .i64 M.any.a1, .int .i64 M.any.a2, .int .i64 M.any.a3, .int .i64 M.any.a4, .int .i64 M.any.a5, .bool M.any.i, .bool M.any.s, .int .i64 M.mw, .int .i64 M.ms, .int .i64 M.mc, .slice A4 M.n k4, .slice A5 M.m k5, .slice A6 Mo.np k6, .slice A7 Mo.nr k7, .slice A8 Mo.nv k8] 97)) (w.heap.size + 1 + 1 + 1) 43 #[.int .i64 a.size, .int .i64 a.weight, .int .i64 a.lw, .int .i64 a.ls, .int .i64 a.lc, .bool a.li, .bool a.lt, .int .i64 a.place, .int .i64 a.lo, .int .i64 a.hi] := (by repeat (first | (refine Blk.newAt _ _ _ ?_; first | rfl | (simp; done)) | refine Blk.alloc ?_ _))
    have bHX : Blk (((((w.alloc (.cells #[.int .i64 D.size, .int .i64 D.load, .int .i64 D.wind, .slice A1 D.ns k1, .int .i64 D.pitch, .int .i64 D.roll, .int .i64 D.heave, .int .i64 D.fire, .slice A2 D.nh k2, .slice A3 D.nu k3] 26)).alloc (.cells #[.int .i64 M.places, .int .i64 M.any.a0, .int .i64 M.any.a1, .int .i64 M.any.a2, .int .i64 M.any.a3, .int .i64 M.any.a4, .int .i64 M.any.a5, .bool M.any.i, .bool M.any.s, .int .i64 M.mw, .int .i64 M.ms, .int .i64 M.mc, .slice A4 M.n k4, .slice A5 M.m k5] 34)).alloc (.cells #[.slice A6 Mo.np k6, .slice A7 Mo.nr k7, .slice A8 Mo.nv k8] 37)).alloc (.cells #[.int .i64 a.size, .int .i64 a.weight, .int .i64 a.lw, .int .i64 a.ls, .int .i64 a.lc, .bool a.li, .bool a.lt, .int .i64 a.place, .int .i64 a.lo, .int .i64 a.hi] 43)).alloc (.cells #[.int .i64 D.size, .int .i64 D.load, .int .i64 D.wind, .slice A1 D.ns k1, .int .i64 D.pitch, .int .i64 D.roll, .int .i64 D.heave, .int .i64 D.fire, .slice A2 D.nh k2, .slice A3 D.nu k3, .int .i64 M.places, .int .i64 M.any.a0, .int .i64 M.any.a1, .int .i64 M.any.a2, .int .i64 M.any.a3, .int .i64 M.any.a4, .int .i64 M.any.a5, .bool M.any.i, .bool M.any.s, .int .i64 M.mw, .int .i64 M.ms, .int .i64 M.mc, .slice A4 M.n k4, .slice A5 M.m k5, .slice A6 Mo.np k6, .slice A7 Mo.nr k7, .slice A8 Mo.nv k8] 97)) (w.heap.size + 1 + 1 + 1 + 1) 97 #[.int .i64 D.size, .int .i64 D.load, .int .i64 D.wind, .slice A1 D.ns k1, .int .i64 D.pitch, .int .i64 D.roll, .int .i64 D.heave, .int .i64 D.fire, .slice A2 D.nh k2, .slice A3 D.nu k3, .int .i64 M.places, .int .i64 M.any.a0, .int .i64 M.any.a1, .int .i64 M.any.a2, .int .i64 M.any.a3, .int .i64 M.any.a4, .int .i64 M.any.a5, .bool M.any.i, .bool M.any.s, .int .i64 M.mw, .int .i64 M.ms, .int .i64 M.mc, .slice A4 M.n k4, .slice A5 M.m k5, .slice A6 Mo.np k6, .slice A7 Mo.nr k7, .slice A8 Mo.nv k8] := (by repeat (first | (refine Blk.newAt _ _ _ ?_; first | rfl | (simp; done)) | refine Blk.alloc ?_ _))
    have bHB : Below w.heap.size w (((((w.alloc (.cells #[.int .i64 D.size, .int .i64 D.load, .int .i64 D.wind, .slice A1 D.ns k1, .int .i64 D.pitch, .int .i64 D.roll, .int .i64 D.heave, .int .i64 D.fire, .slice A2 D.nh k2, .slice A3 D.nu k3] 26)).alloc (.cells #[.int .i64 M.places, .int .i64 M.any.a0, .int .i64 M.any.a1, .int .i64 M.any.a2, .int .i64 M.any.a3, .int .i64 M.any.a4, .int .i64 M.any.a5, .bool M.any.i, .bool M.any.s, .int .i64 M.mw, .int .i64 M.ms, .int .i64 M.mc, .slice A4 M.n k4, .slice A5 M.m k5] 34)).alloc (.cells #[.slice A6 Mo.np k6, .slice A7 Mo.nr k7, .slice A8 Mo.nv k8] 37)).alloc (.cells #[.int .i64 a.size, .int .i64 a.weight, .int .i64 a.lw, .int .i64 a.ls, .int .i64 a.lc, .bool a.li, .bool a.lt, .int .i64 a.place, .int .i64 a.lo, .int .i64 a.hi] 43)).alloc (.cells #[.int .i64 D.size, .int .i64 D.load, .int .i64 D.wind, .slice A1 D.ns k1, .int .i64 D.pitch, .int .i64 D.roll, .int .i64 D.heave, .int .i64 D.fire, .slice A2 D.nh k2, .slice A3 D.nu k3, .int .i64 M.places, .int .i64 M.any.a0, .int .i64 M.any.a1, .int .i64 M.any.a2, .int .i64 M.any.a3, .int .i64 M.any.a4, .int .i64 M.any.a5, .bool M.any.i, .bool M.any.s, .int .i64 M.mw, .int .i64 M.ms, .int .i64 M.mc, .slice A4 M.n k4, .slice A5 M.m k5, .slice A6 Mo.np k6, .slice A7 Mo.nr k7, .slice A8 Mo.nv k8] 97)) := (by repeat' (first | exact Below.refl _ _ | assumption | refine Below.drew ?_ | refine bdn ?_ _ | refine bal ?_ _ | refine Below.setCell ?_ (by first | (simp; done) | omega | (simp; omega)) _))
    generalize (((((w.alloc (.cells #[.int .i64 D.size, .int .i64 D.load, .int .i64 D.wind, .slice A1 D.ns k1, .int .i64 D.pitch, .int .i64 D.roll, .int .i64 D.heave, .int .i64 D.fire, .slice A2 D.nh k2, .slice A3 D.nu k3] 26)).alloc (.cells #[.int .i64 M.places, .int .i64 M.any.a0, .int .i64 M.any.a1, .int .i64 M.any.a2, .int .i64 M.any.a3, .int .i64 M.any.a4, .int .i64 M.any.a5, .bool M.any.i, .bool M.any.s, .int .i64 M.mw, .int .i64 M.ms, .int .i64 M.mc, .slice A4 M.n k4, .slice A5 M.m k5] 34)).alloc (.cells #[.slice A6 Mo.np k6, .slice A7 Mo.nr k7, .slice A8 Mo.nv k8] 37)).alloc (.cells #[.int .i64 a.size, .int .i64 a.weight, .int .i64 a.lw, .int .i64 a.ls, .int .i64 a.lc, .bool a.li, .bool a.lt, .int .i64 a.place, .int .i64 a.lo, .int .i64 a.hi] 43)).alloc (.cells #[.int .i64 D.size, .int .i64 D.load, .int .i64 D.wind, .slice A1 D.ns k1, .int .i64 D.pitch, .int .i64 D.roll, .int .i64 D.heave, .int .i64 D.fire, .slice A2 D.nh k2, .slice A3 D.nu k3, .int .i64 M.places, .int .i64 M.any.a0, .int .i64 M.any.a1, .int .i64 M.any.a2, .int .i64 M.any.a3, .int .i64 M.any.a4, .int .i64 M.any.a5, .bool M.any.i, .bool M.any.s, .int .i64 M.mw, .int .i64 M.ms, .int .i64 M.mc, .slice A4 M.n k4, .slice A5 M.m k5, .slice A6 Mo.np k6, .slice A7 Mo.nr k7, .slice A8 Mo.nv k8] 97)) = W at *
    have zW := bHX.lt
    have H1 := Lib.hid bH1
    have H2 := Lib.hid bH2
    have H3 := Lib.hid bH3
    have HY := Lib.hid bHY
    have HX := Lib.hid bHX
    have HB := Lib.hid bHB
    clear bH1 bH2 bH3 bHY bHX bHB
    clear H1 H2 H3
    have hX2 := Lib.hid (fun r : After W => HX.out.below r.below)
    have hY2 := Lib.hid (fun r : After W => HY.out.below r.below)
    have hD2 := Lib.hid (fun r : After W => (HD.out.below HB.out).below r.below)
    have hA2 := Lib.hid (fun r : After W => (HA.out.below HB.out).below r.below)
    have hV2 := Lib.hid (fun r : After W => (HV.out.below HB.out).below r.below)
    refine wp_region_aftert 5 (by kernel_rfl) (by kernel_rfl) ?_
    simp only [List.take_succ_cons, List.take_zero, List.drop_succ_cons, List.drop_zero]
    refine wpq_row rfl 97 _ rfl _ rfl _ 27 (fun _ hw => by obtain ⟨r, rfl⟩ := hw; exact hX2.out r) Tryz.rowScn rfl ?_
    simp only [Act.put, List.setIfInBounds_toArray, List.set_cons_succ, List.set_cons_zero]
    refine wpq_row rfl 43 _ rfl _ rfl _ 10 (fun _ hw => by obtain ⟨r, rfl⟩ := hw; exact hY2.out r) Tryz.rowApp rfl ?_
    simp only [Act.put, List.setIfInBounds_toArray, List.set_cons_succ, List.set_cons_zero]
    go_big_quiet_step (fail)
    go_big_quiet_step (first | (go_at_call 33; (with_reducible refine qafter_same (HWI.out _))))
    go_big_quiet_step (first | (go_at_call 32; (with_reducible refine qafter (HCA.out _ (hD2.out _) (hA2.out _) (hV2.out _)))))
    refine wpQuiet_nil ?_
    rintro wq ⟨⟨w1, hb1⟩, rfl⟩
    clear hX2 hY2 hD2 hA2 hV2
    have nHX := Lib.hid (HX.out.below hb1)
    have nHY := Lib.hid (HY.out.below hb1)
    have nHB := Lib.hid (bthen HB.out hb1)
    clear HX HY HB hb1
    have HX := nHX
    have HY := nHY
    have HB := nHB
    clear nHX nHY nHB
    go_wp2_with (first | (refine wpl_row rfl 97 _ rfl _ rfl #[.int .i64 D.size, .int .i64 D.load, .int .i64 D.wind, .slice A1 D.ns k1, .int .i64 D.pitch, .int .i64 D.roll, .int .i64 D.heave, .int .i64 D.fire, .slice A2 D.nh k2, .slice A3 D.nu k3, .int .i64 M.places, .int .i64 M.any.a0, .int .i64 M.any.a1, .int .i64 M.any.a2, .int .i64 M.any.a3, .int .i64 M.any.a4, .int .i64 M.any.a5, .bool M.any.i, .bool M.any.s, .int .i64 M.mw, .int .i64 M.ms, .int .i64 M.mc, .slice A4 M.n k4, .slice A5 M.m k5, .slice A6 Mo.np k6, .slice A7 Mo.nr k7, .slice A8 Mo.nv k8] 27 HX.out Tryz.rowScn rfl ?_; simp only [Act.put]) | (refine wpl_row rfl 43 _ rfl _ rfl #[.int .i64 a.size, .int .i64 a.weight, .int .i64 a.lw, .int .i64 a.ls, .int .i64 a.lc, .bool a.li, .bool a.lt, .int .i64 a.place, .int .i64 a.lo, .int .i64 a.hi] 10 HY.out Tryz.rowApp rfl ?_; simp only [Act.put]))
    try dsimp only [NoPanic]
    try go_wp2_with (first | (refine wpl_row rfl 97 _ rfl _ rfl #[.int .i64 D.size, .int .i64 D.load, .int .i64 D.wind, .slice A1 D.ns k1, .int .i64 D.pitch, .int .i64 D.roll, .int .i64 D.heave, .int .i64 D.fire, .slice A2 D.nh k2, .slice A3 D.nu k3, .int .i64 M.places, .int .i64 M.any.a0, .int .i64 M.any.a1, .int .i64 M.any.a2, .int .i64 M.any.a3, .int .i64 M.any.a4, .int .i64 M.any.a5, .bool M.any.i, .bool M.any.s, .int .i64 M.mw, .int .i64 M.ms, .int .i64 M.mc, .slice A4 M.n k4, .slice A5 M.m k5, .slice A6 Mo.np k6, .slice A7 Mo.nr k7, .slice A8 Mo.nv k8] 27 HX.out Tryz.rowScn rfl ?_; simp only [Act.put]) | (refine wpl_row rfl 43 _ rfl _ rfl #[.int .i64 a.size, .int .i64 a.weight, .int .i64 a.lw, .int .i64 a.ls, .int .i64 a.lc, .bool a.li, .bool a.lt, .int .i64 a.place, .int .i64 a.lo, .int .i64 a.hi] 10 HY.out Tryz.rowApp rfl ?_; simp only [Act.put]))
    refine (HWY.out _ (HD.out.below HB.out) (HA.out.below HB.out) (HV.out.below HB.out)).mono ?_
    rintro e w1 ⟨A, c, rfl, hb1⟩
    have nHX := Lib.hid (HX.out.below hb1)
    have nHY := Lib.hid (HY.out.below hb1)
    have nHB := Lib.hid (bthen HB.out hb1)
    clear HX HY HB hb1
    have HX := nHX
    have HY := nHY
    have HB := nHB
    clear nHX nHY nHB
    go_wp2_with (fail)
    go_ret2
    exact ⟨A, c, rfl, HB.out⟩
  · rw [if_neg he]
    have hca2 := hca (inB t 0 2000)
    have hez : (caE D M Mo a (inB t 0 2000) != 0) = true := by simpa using he
    clear he
    generalize caE D M Mo a (inB t 0 2000) = E at *
    generalize inB t 0 2000 = B at *
    have HCA := Lib.hid hca2
    have HWI := Lib.hid hwi
    clear hca hca2 hwi
    have tok : True := trivial
    go_enter Tryz.func11, Tryz.ntmps11
    go_wp2_with (first | (refine wpl_row rfl 26 _ rfl _ rfl #[.int .i64 D.size, .int .i64 D.load, .int .i64 D.wind, .slice A1 D.ns k1, .int .i64 D.pitch, .int .i64 D.roll, .int .i64 D.heave, .int .i64 D.fire, .slice A2 D.nh k2, .slice A3 D.nu k3] 10 ?_ Tryz.rowDek rfl ?_; (focus exact (by repeat (first | (refine Blk.newAt _ _ _ ?_; first | rfl | (simp; done)) | refine Blk.alloc ?_ _))); simp only [Act.put]) | (refine wpl_row rfl 34 _ rfl _ rfl #[.int .i64 M.places, .int .i64 M.any.a0, .int .i64 M.any.a1, .int .i64 M.any.a2, .int .i64 M.any.a3, .int .i64 M.any.a4, .int .i64 M.any.a5, .bool M.any.i, .bool M.any.s, .int .i64 M.mw, .int .i64 M.ms, .int .i64 M.mc, .slice A4 M.n k4, .slice A5 M.m k5] 14 ?_ Tryz.rowMet rfl ?_; (focus exact (by repeat (first | (refine Blk.newAt _ _ _ ?_; first | rfl | (simp; done)) | refine Blk.alloc ?_ _))); simp only [Act.put]) | (refine wpl_row rfl 37 _ rfl _ rfl #[.slice A6 Mo.np k6, .slice A7 Mo.nr k7, .slice A8 Mo.nv k8] 3 ?_ Tryz.rowMov rfl ?_; (focus exact (by repeat (first | (refine Blk.newAt _ _ _ ?_; first | rfl | (simp; done)) | refine Blk.alloc ?_ _))); simp only [Act.put]) | (refine wpl_buildw rfl 97 _ rfl #[.int .i64 D.size, .int .i64 D.load, .int .i64 D.wind, .slice A1 D.ns k1, .int .i64 D.pitch, .int .i64 D.roll, .int .i64 D.heave, .int .i64 D.fire, .slice A2 D.nh k2, .slice A3 D.nu k3, .int .i64 M.places, .int .i64 M.any.a0, .int .i64 M.any.a1, .int .i64 M.any.a2, .int .i64 M.any.a3, .int .i64 M.any.a4, .int .i64 M.any.a5, .bool M.any.i, .bool M.any.s, .int .i64 M.mw, .int .i64 M.ms, .int .i64 M.mc, .slice A4 M.n k4, .slice A5 M.m k5, .slice A6 Mo.np k6, .slice A7 Mo.nr k7, .slice A8 Mo.nv k8] (by kernel_rfl) ?_; simp only [Act.put]) | (have _t := tok; refine wpl_store_newW rfl 97 (.tmp 12) (.tmp 17) rfl #[.int .i64 D.size, .int .i64 D.load, .int .i64 D.wind, .slice A1 D.ns k1, .int .i64 D.pitch, .int .i64 D.roll, .int .i64 D.heave, .int .i64 D.fire, .slice A2 D.nh k2, .slice A3 D.nu k3, .int .i64 M.places, .int .i64 M.any.a0, .int .i64 M.any.a1, .int .i64 M.any.a2, .int .i64 M.any.a3, .int .i64 M.any.a4, .int .i64 M.any.a5, .bool M.any.i, .bool M.any.s, .int .i64 M.mw, .int .i64 M.ms, .int .i64 M.mc, .slice A4 M.n k4, .slice A5 M.m k5, .slice A6 Mo.np k6, .slice A7 Mo.nr k7, .slice A8 Mo.nv k8] _ _ rfl ?_ rfl Tryz.sizeScn rfl (oneScn D M Mo _ _ _ _ _ _ _ _ _ _ _ _ _ _ _ _) ?_; (focus (simp; done)); simp only [Act.put]; clear tok))
    have bH1 : Blk (((((w.alloc (.cells #[.int .i64 D.size, .int .i64 D.load, .int .i64 D.wind, .slice A1 D.ns k1, .int .i64 D.pitch, .int .i64 D.roll, .int .i64 D.heave, .int .i64 D.fire, .slice A2 D.nh k2, .slice A3 D.nu k3] 26)).alloc (.cells #[.int .i64 M.places, .int .i64 M.any.a0, .int .i64 M.any.a1, .int .i64 M.any.a2, .int .i64 M.any.a3, .int .i64 M.any.a4, .int .i64 M.any.a5, .bool M.any.i, .bool M.any.s, .int .i64 M.mw, .int .i64 M.ms, .int .i64 M.mc, .slice A4 M.n k4, .slice A5 M.m k5] 34)).alloc (.cells #[.slice A6 Mo.np k6, .slice A7 Mo.nr k7, .slice A8 Mo.nv k8] 37)).alloc (.cells #[.int .i64 a.size, .int .i64 a.weight, .int .i64 a.lw, .int .i64 a.ls, .int .i64 a.lc, .bool a.li, .bool a.lt, .int .i64 a.place, .int .i64 a.lo, .int .i64 a.hi] 43)).alloc (.cells #[.int .i64 D.size, .int .i64 D.load, .int .i64 D.wind, .slice A1 D.ns k1, .int .i64 D.pitch, .int .i64 D.roll, .int .i64 D.heave, .int .i64 D.fire, .slice A2 D.nh k2, .slice A3 D.nu k3, .int .i64 M.places, .int .i64 M.any.a0, .int .i64 M.any.a1, .int .i64 M.any.a2, .int .i64 M.any.a3, .int .i64 M.any.a4, .int .i64 M.any.a5, .bool M.any.i, .bool M.any.s, .int .i64 M.mw, .int .i64 M.ms, .int .i64 M.mc, .slice A4 M.n k4, .slice A5 M.m k5, .slice A6 Mo.np k6, .slice A7 Mo.nr k7, .slice A8 Mo.nv k8] 97)) (w.heap.size) 26 #[.int .i64 D.size, .int .i64 D.load, .int .i64 D.wind, .slice A1 D.ns k1, .int .i64 D.pitch, .int .i64 D.roll, .int .i64 D.heave, .int .i64 D.fire, .slice A2 D.nh k2, .slice A3 D.nu k3] := (by repeat (first | (refine Blk.newAt _ _ _ ?_; first | rfl | (simp; done)) | refine Blk.alloc ?_ _))
    have bH2 : Blk (((((w.alloc (.cells #[.int .i64 D.size, .int .i64 D.load, .int .i64 D.wind, .slice A1 D.ns k1, .int .i64 D.pitch, .int .i64 D.roll, .int .i64 D.heave, .int .i64 D.fire, .slice A2 D.nh k2, .slice A3 D.nu k3] 26)).alloc (.cells #[.int .i64 M.places, .int .i64 M.any.a0, .int .i64 M.any.a1, .int .i64 M.any.a2, .int .i64 M.any.a3, .int .i64 M.any.a4, .int .i64 M.any.a5, .bool M.any.i, .bool M.any.s, .int .i64 M.mw, .int .i64 M.ms, .int .i64 M.mc, .slice A4 M.n k4, .slice A5 M.m k5] 34)).alloc (.cells #[.slice A6 Mo.np k6, .slice A7 Mo.nr k7, .slice A8 Mo.nv k8] 37)).alloc (.cells #[.int .i64 a.size, .int .i64 a.weight, .int .i64 a.lw, .int .i64 a.ls, .int .i64 a.lc, .bool a.li, .bool a.lt, .int .i64 a.place, .int .i64 a.lo, .int .i64 a.hi] 43)).alloc (.cells #[.int .i64 D.size, .int .i64 D.load, .int .i64 D.wind, .slice A1 D.ns k1, .int .i64 D.pitch, .int .i64 D.roll, .int .i64 D.heave, .int .i64 D.fire, .slice A2 D.nh k2, .slice A3 D.nu k3, .int .i64 M.places, .int .i64 M.any.a0, .int .i64 M.any.a1, .int .i64 M.any.a2, .int .i64 M.any.a3, .int .i64 M.any.a4, .int .i64 M.any.a5, .bool M.any.i, .bool M.any.s, .int .i64 M.mw, .int .i64 M.ms, .int .i64 M.mc, .slice A4 M.n k4, .slice A5 M.m k5, .slice A6 Mo.np k6, .slice A7 Mo.nr k7, .slice A8 Mo.nv k8] 97)) (w.heap.size + 1) 34 #[.int .i64 M.places, .int .i64 M.any.a0, .int .i64 M.any.a1, .int .i64 M.any.a2, .int .i64 M.any.a3, .int .i64 M.any.a4, .int .i64 M.any.a5, .bool M.any.i, .bool M.any.s, .int .i64 M.mw, .int .i64 M.ms, .int .i64 M.mc, .slice A4 M.n k4, .slice A5 M.m k5] := (by repeat (first | (refine Blk.newAt _ _ _ ?_; first | rfl | (simp; done)) | refine Blk.alloc ?_ _))
    have bH3 : Blk (((((w.alloc (.cells #[.int .i64 D.size, .int .i64 D.load, .int .i64 D.wind, .slice A1 D.ns k1, .int .i64 D.pitch, .int .i64 D.roll, .int .i64 D.heave, .int .i64 D.fire, .slice A2 D.nh k2, .slice A3 D.nu k3] 26)).alloc (.cells #[.int .i64 M.places, .int .i64 M.any.a0, .int .i64 M.any.a1, .int .i64 M.any.a2, .int .i64 M.any.a3, .int .i64 M.any.a4, .int .i64 M.any.a5, .bool M.any.i, .bool M.any.s, .int .i64 M.mw, .int .i64 M.ms, .int .i64 M.mc, .slice A4 M.n k4, .slice A5 M.m k5] 34)).alloc (.cells #[.slice A6 Mo.np k6, .slice A7 Mo.nr k7, .slice A8 Mo.nv k8] 37)).alloc (.cells #[.int .i64 a.size, .int .i64 a.weight, .int .i64 a.lw, .int .i64 a.ls, .int .i64 a.lc, .bool a.li, .bool a.lt, .int .i64 a.place, .int .i64 a.lo, .int .i64 a.hi] 43)).alloc (.cells #[.int .i64 D.size, .int .i64 D.load, .int .i64 D.wind, .slice A1 D.ns k1, .int .i64 D.pitch, .int .i64 D.roll, .int .i64 D.heave, .int .i64 D.fire, .slice A2 D.nh k2, .slice A3 D.nu k3, .int .i64 M.places, .int .i64 M.any.a0, .int .i64 M.any.a1, .int .i64 M.any.a2, .int .i64 M.any.a3, .int .i64 M.any.a4, .int .i64 M.any.a5, .bool M.any.i, .bool M.any.s, .int .i64 M.mw, .int .i64 M.ms, .int .i64 M.mc, .slice A4 M.n k4, .slice A5 M.m k5, .slice A6 Mo.np k6, .slice A7 Mo.nr k7, .slice A8 Mo.nv k8] 97)) (w.heap.size + 1 + 1) 37 #[.slice A6 Mo.np k6, .slice A7 Mo.nr k7, .slice A8 Mo.nv k8] := (by repeat (first | (refine Blk.newAt _ _ _ ?_; first | rfl | (simp; done)) | refine Blk.alloc ?_ _))
    have bHY : Blk (((((w.alloc (.cells #[.int .i64 D.size, .int .i64 D.load, .int .i64 D.wind, .slice A1 D.ns k1, .int .i64 D.pitch, .int .i64 D.roll, .int .i64 D.heave, .int .i64 D.fire, .slice A2 D.nh k2, .slice A3 D.nu k3] 26)).alloc (.cells #[.int .i64 M.places, .int .i64 M.any.a0, .int .i64 M.any.a1, .int .i64 M.any.a2, .int .i64 M.any.a3, .int .i64 M.any.a4, .int .i64 M.any.a5, .bool M.any.i, .bool M.any.s, .int .i64 M.mw, .int .i64 M.ms, .int .i64 M.mc, .slice A4 M.n k4, .slice A5 M.m k5] 34)).alloc (.cells #[.slice A6 Mo.np k6, .slice A7 Mo.nr k7, .slice A8 Mo.nv k8] 37)).alloc (.cells #[.int .i64 a.size, .int .i64 a.weight, .int .i64 a.lw, .int .i64 a.ls, .int .i64 a.lc, .bool a.li, .bool a.lt, .int .i64 a.place, .int .i64 a.lo, .int .i64 a.hi] 43)).alloc (.cells #[.int .i64 D.size, .int .i64 D.load, .int .i64 D.wind, .slice A1 D.ns k1, .int .i64 D.pitch, .int .i64 D.roll, .int .i64 D.heave, .int .i64 D.fire, .slice A2 D.nh k2, .slice A3 D.nu k3, .int .i64 M.places, .int .i64 M.any.a0, .int .i64 M.any.a1, .int .i64 M.any.a2, .int .i64 M.any.a3, .int .i64 M.any.a4, .int .i64 M.any.a5, .bool M.any.i, .bool M.any.s, .int .i64 M.mw, .int .i64 M.ms, .int .i64 M.mc, .slice A4 M.n k4, .slice A5 M.m k5, .slice A6 Mo.np k6, .slice A7 Mo.nr k7, .slice A8 Mo.nv k8] 97)) (w.heap.size + 1 + 1 + 1) 43 #[.int .i64 a.size, .int .i64 a.weight, .int .i64 a.lw, .int .i64 a.ls, .int .i64 a.lc, .bool a.li, .bool a.lt, .int .i64 a.place, .int .i64 a.lo, .int .i64 a.hi] := (by repeat (first | (refine Blk.newAt _ _ _ ?_; first | rfl | (simp; done)) | refine Blk.alloc ?_ _))
    have bHX : Blk (((((w.alloc (.cells #[.int .i64 D.size, .int .i64 D.load, .int .i64 D.wind, .slice A1 D.ns k1, .int .i64 D.pitch, .int .i64 D.roll, .int .i64 D.heave, .int .i64 D.fire, .slice A2 D.nh k2, .slice A3 D.nu k3] 26)).alloc (.cells #[.int .i64 M.places, .int .i64 M.any.a0, .int .i64 M.any.a1, .int .i64 M.any.a2, .int .i64 M.any.a3, .int .i64 M.any.a4, .int .i64 M.any.a5, .bool M.any.i, .bool M.any.s, .int .i64 M.mw, .int .i64 M.ms, .int .i64 M.mc, .slice A4 M.n k4, .slice A5 M.m k5] 34)).alloc (.cells #[.slice A6 Mo.np k6, .slice A7 Mo.nr k7, .slice A8 Mo.nv k8] 37)).alloc (.cells #[.int .i64 a.size, .int .i64 a.weight, .int .i64 a.lw, .int .i64 a.ls, .int .i64 a.lc, .bool a.li, .bool a.lt, .int .i64 a.place, .int .i64 a.lo, .int .i64 a.hi] 43)).alloc (.cells #[.int .i64 D.size, .int .i64 D.load, .int .i64 D.wind, .slice A1 D.ns k1, .int .i64 D.pitch, .int .i64 D.roll, .int .i64 D.heave, .int .i64 D.fire, .slice A2 D.nh k2, .slice A3 D.nu k3, .int .i64 M.places, .int .i64 M.any.a0, .int .i64 M.any.a1, .int .i64 M.any.a2, .int .i64 M.any.a3, .int .i64 M.any.a4, .int .i64 M.any.a5, .bool M.any.i, .bool M.any.s, .int .i64 M.mw, .int .i64 M.ms, .int .i64 M.mc, .slice A4 M.n k4, .slice A5 M.m k5, .slice A6 Mo.np k6, .slice A7 Mo.nr k7, .slice A8 Mo.nv k8] 97)) (w.heap.size + 1 + 1 + 1 + 1) 97 #[.int .i64 D.size, .int .i64 D.load, .int .i64 D.wind, .slice A1 D.ns k1, .int .i64 D.pitch, .int .i64 D.roll, .int .i64 D.heave, .int .i64 D.fire, .slice A2 D.nh k2, .slice A3 D.nu k3, .int .i64 M.places, .int .i64 M.any.a0, .int .i64 M.any.a1, .int .i64 M.any.a2, .int .i64 M.any.a3, .int .i64 M.any.a4, .int .i64 M.any.a5, .bool M.any.i, .bool M.any.s, .int .i64 M.mw, .int .i64 M.ms, .int .i64 M.mc, .slice A4 M.n k4, .slice A5 M.m k5, .slice A6 Mo.np k6, .slice A7 Mo.nr k7, .slice A8 Mo.nv k8] := (by repeat (first | (refine Blk.newAt _ _ _ ?_; first | rfl | (simp; done)) | refine Blk.alloc ?_ _))
    have bHB : Below w.heap.size w (((((w.alloc (.cells #[.int .i64 D.size, .int .i64 D.load, .int .i64 D.wind, .slice A1 D.ns k1, .int .i64 D.pitch, .int .i64 D.roll, .int .i64 D.heave, .int .i64 D.fire, .slice A2 D.nh k2, .slice A3 D.nu k3] 26)).alloc (.cells #[.int .i64 M.places, .int .i64 M.any.a0, .int .i64 M.any.a1, .int .i64 M.any.a2, .int .i64 M.any.a3, .int .i64 M.any.a4, .int .i64 M.any.a5, .bool M.any.i, .bool M.any.s, .int .i64 M.mw, .int .i64 M.ms, .int .i64 M.mc, .slice A4 M.n k4, .slice A5 M.m k5] 34)).alloc (.cells #[.slice A6 Mo.np k6, .slice A7 Mo.nr k7, .slice A8 Mo.nv k8] 37)).alloc (.cells #[.int .i64 a.size, .int .i64 a.weight, .int .i64 a.lw, .int .i64 a.ls, .int .i64 a.lc, .bool a.li, .bool a.lt, .int .i64 a.place, .int .i64 a.lo, .int .i64 a.hi] 43)).alloc (.cells #[.int .i64 D.size, .int .i64 D.load, .int .i64 D.wind, .slice A1 D.ns k1, .int .i64 D.pitch, .int .i64 D.roll, .int .i64 D.heave, .int .i64 D.fire, .slice A2 D.nh k2, .slice A3 D.nu k3, .int .i64 M.places, .int .i64 M.any.a0, .int .i64 M.any.a1, .int .i64 M.any.a2, .int .i64 M.any.a3, .int .i64 M.any.a4, .int .i64 M.any.a5, .bool M.any.i, .bool M.any.s, .int .i64 M.mw, .int .i64 M.ms, .int .i64 M.mc, .slice A4 M.n k4, .slice A5 M.m k5, .slice A6 Mo.np k6, .slice A7 Mo.nr k7, .slice A8 Mo.nv k8] 97)) := (by repeat' (first | exact Below.refl _ _ | assumption | refine Below.drew ?_ | refine bdn ?_ _ | refine bal ?_ _ | refine Below.setCell ?_ (by first | (simp; done) | omega | (simp; omega)) _))
    generalize (((((w.alloc (.cells #[.int .i64 D.size, .int .i64 D.load, .int .i64 D.wind, .slice A1 D.ns k1, .int .i64 D.pitch, .int .i64 D.roll, .int .i64 D.heave, .int .i64 D.fire, .slice A2 D.nh k2, .slice A3 D.nu k3] 26)).alloc (.cells #[.int .i64 M.places, .int .i64 M.any.a0, .int .i64 M.any.a1, .int .i64 M.any.a2, .int .i64 M.any.a3, .int .i64 M.any.a4, .int .i64 M.any.a5, .bool M.any.i, .bool M.any.s, .int .i64 M.mw, .int .i64 M.ms, .int .i64 M.mc, .slice A4 M.n k4, .slice A5 M.m k5] 34)).alloc (.cells #[.slice A6 Mo.np k6, .slice A7 Mo.nr k7, .slice A8 Mo.nv k8] 37)).alloc (.cells #[.int .i64 a.size, .int .i64 a.weight, .int .i64 a.lw, .int .i64 a.ls, .int .i64 a.lc, .bool a.li, .bool a.lt, .int .i64 a.place, .int .i64 a.lo, .int .i64 a.hi] 43)).alloc (.cells #[.int .i64 D.size, .int .i64 D.load, .int .i64 D.wind, .slice A1 D.ns k1, .int .i64 D.pitch, .int .i64 D.roll, .int .i64 D.heave, .int .i64 D.fire, .slice A2 D.nh k2, .slice A3 D.nu k3, .int .i64 M.places, .int .i64 M.any.a0, .int .i64 M.any.a1, .int .i64 M.any.a2, .int .i64 M.any.a3, .int .i64 M.any.a4, .int .i64 M.any.a5, .bool M.any.i, .bool M.any.s, .int .i64 M.mw, .int .i64 M.ms, .int .i64 M.mc, .slice A4 M.n k4, .slice A5 M.m k5, .slice A6 Mo.np k6, .slice A7 Mo.nr k7, .slice A8 Mo.nv k8] 97)) = W at *
    have zW := bHX.lt
    have H1 := Lib.hid bH1
    have H2 := Lib.hid bH2
    have H3 := Lib.hid bH3
    have HY := Lib.hid bHY
    have HX := Lib.hid bHX
    have HB := Lib.hid bHB
    clear bH1 bH2 bH3 bHY bHX bHB
    clear H1 H2 H3
    have hX2 := Lib.hid (fun r : After W => HX.out.below r.below)
    have hY2 := Lib.hid (fun r : After W => HY.out.below r.below)
    have hD2 := Lib.hid (fun r : After W => (HD.out.below HB.out).below r.below)
    have hA2 := Lib.hid (fun r : After W => (HA.out.below HB.out).below r.below)
    have hV2 := Lib.hid (fun r : After W => (HV.out.below HB.out).below r.below)
    refine wp_region_aftert 5 (by kernel_rfl) (by kernel_rfl) ?_
    simp only [List.take_succ_cons, List.take_zero, List.drop_succ_cons, List.drop_zero]
    refine wpq_row rfl 97 _ rfl _ rfl _ 27 (fun _ hw => by obtain ⟨r, rfl⟩ := hw; exact hX2.out r) Tryz.rowScn rfl ?_
    simp only [Act.put, List.setIfInBounds_toArray, List.set_cons_succ, List.set_cons_zero]
    refine wpq_row rfl 43 _ rfl _ rfl _ 10 (fun _ hw => by obtain ⟨r, rfl⟩ := hw; exact hY2.out r) Tryz.rowApp rfl ?_
    simp only [Act.put, List.setIfInBounds_toArray, List.set_cons_succ, List.set_cons_zero]
    go_big_quiet_step (fail)
    go_big_quiet_step (first | (go_at_call 33; (with_reducible refine qafter_same (HWI.out _))))
    go_big_quiet_step (first | (go_at_call 32; (with_reducible refine qafter (HCA.out _ (hD2.out _) (hA2.out _) (hV2.out _)))))
    refine wpQuiet_nil ?_
    rintro wq ⟨⟨w1, hb1⟩, rfl⟩
    clear hX2 hY2 hD2 hA2 hV2
    have nHX := Lib.hid (HX.out.below hb1)
    have nHY := Lib.hid (HY.out.below hb1)
    have nHB := Lib.hid (bthen HB.out hb1)
    clear HX HY HB hb1
    have HX := nHX
    have HY := nHY
    have HB := nHB
    clear nHX nHY nHB
    go_wp2_with (first | (refine wpl_row rfl 97 _ rfl _ rfl #[.int .i64 D.size, .int .i64 D.load, .int .i64 D.wind, .slice A1 D.ns k1, .int .i64 D.pitch, .int .i64 D.roll, .int .i64 D.heave, .int .i64 D.fire, .slice A2 D.nh k2, .slice A3 D.nu k3, .int .i64 M.places, .int .i64 M.any.a0, .int .i64 M.any.a1, .int .i64 M.any.a2, .int .i64 M.any.a3, .int .i64 M.any.a4, .int .i64 M.any.a5, .bool M.any.i, .bool M.any.s, .int .i64 M.mw, .int .i64 M.ms, .int .i64 M.mc, .slice A4 M.n k4, .slice A5 M.m k5, .slice A6 Mo.np k6, .slice A7 Mo.nr k7, .slice A8 Mo.nv k8] 27 HX.out Tryz.rowScn rfl ?_; simp only [Act.put]) | (refine wpl_row rfl 43 _ rfl _ rfl #[.int .i64 a.size, .int .i64 a.weight, .int .i64 a.lw, .int .i64 a.ls, .int .i64 a.lc, .bool a.li, .bool a.lt, .int .i64 a.place, .int .i64 a.lo, .int .i64 a.hi] 10 HY.out Tryz.rowApp rfl ?_; simp only [Act.put]))
    try dsimp only [NoPanic]
    try go_wp2_with (first | (refine wpl_row rfl 97 _ rfl _ rfl #[.int .i64 D.size, .int .i64 D.load, .int .i64 D.wind, .slice A1 D.ns k1, .int .i64 D.pitch, .int .i64 D.roll, .int .i64 D.heave, .int .i64 D.fire, .slice A2 D.nh k2, .slice A3 D.nu k3, .int .i64 M.places, .int .i64 M.any.a0, .int .i64 M.any.a1, .int .i64 M.any.a2, .int .i64 M.any.a3, .int .i64 M.any.a4, .int .i64 M.any.a5, .bool M.any.i, .bool M.any.s, .int .i64 M.mw, .int .i64 M.ms, .int .i64 M.mc, .slice A4 M.n k4, .slice A5 M.m k5, .slice A6 Mo.np k6, .slice A7 Mo.nr k7, .slice A8 Mo.nv k8] 27 HX.out Tryz.rowScn rfl ?_; simp only [Act.put]) | (refine wpl_row rfl 43 _ rfl _ rfl #[.int .i64 a.size, .int .i64 a.weight, .int .i64 a.lw, .int .i64 a.ls, .int .i64 a.lc, .bool a.li, .bool a.lt, .int .i64 a.place, .int .i64 a.lo, .int .i64 a.hi] 10 HY.out Tryz.rowApp rfl ?_; simp only [Act.put]))
    go_ret2
    exact ⟨none, 0, rfl, HB.out⟩
end Go.Proofs.YtafkifjebimdaaaGreat
