/- Contracts: Quiet, Manned of package deck (a deck and a motion that are right, ticks that are some, a stay of 1). -/
import Derived.Test.YtafkifjebimdaaaGreatDkT
set_option linter.all false
namespace Go.Proofs.YtafkifjebimdaaaGreat
open Go Go.RowKit Go.Proofs
set_option maxRecDepth 100000
set_option maxHeartbeats 8000000
theorem Tryz.entQu : ∀ args w, (callFunc 44 args).run Tryz.prog w = .ok (.enter 44 args) w := enters_of Tryz.func44 (by kernel_rfl) rfl
theorem Tryz.entMa : ∀ args w, (callFunc 46 args).run Tryz.prog w = .ok (.enter 46 args) w := enters_of Tryz.func46 (by kernel_rfl) rfl
theorem dqui1_c (gx gy : Nat) (D : DekD) (A1 A2 A3 A6 A7 A8 : Option Addr) (k1 k2 k3 k6 k7 k8 : Nat) (Mo : MovD) (t : Int) (w : World)
    (hx : Blk w gx 26 #[.int .i64 D.size, .int .i64 D.load, .int .i64 D.wind, .slice A1 D.ns k1, .int .i64 D.pitch, .int .i64 D.roll, .int .i64 D.heave, .int .i64 D.fire, .slice A2 D.nh k2, .slice A3 D.nu k3]) (hy : Blk w gy 37 #[.slice A6 Mo.np k6, .slice A7 Mo.nr k7, .slice A8 Mo.nv k8])
    (hq : Calls Tryz.prog 45 #[.agg #[.int .i64 D.size, .int .i64 D.load, .int .i64 D.wind, .slice A1 D.ns k1, .int .i64 D.pitch, .int .i64 D.roll, .int .i64 D.heave, .int .i64 D.fire, .slice A2 D.nh k2, .slice A3 D.nu k3], .agg #[.slice A6 Mo.np k6, .slice A7 Mo.nr k7, .slice A8 Mo.nv k8], .int .i64 t] w fun e w' => e = .returned (.bool (quiB D Mo t)) ∧ Below w.heap.size w w') :
   Calls Tryz.prog 44 #[.int .i64 t, .pointer (some ⟨gx, 0, none⟩), .pointer (some ⟨gy, 0, none⟩)] w fun e w' => e = .returned (.bool (quiB D Mo t)) ∧ Below w.heap.size w w' := by
  have HX := Lib.hid hx
  have HY := Lib.hid hy
  have HQ := Lib.hid hq
  clear hx hy hq
  generalize quiB D Mo t = B at *
  go_enter Tryz.func44, Tryz.ntmps44
  go_wp2_with (first | (refine wpl_row rfl 26 _ rfl _ rfl #[.int .i64 D.size, .int .i64 D.load, .int .i64 D.wind, .slice A1 D.ns k1, .int .i64 D.pitch, .int .i64 D.roll, .int .i64 D.heave, .int .i64 D.fire, .slice A2 D.nh k2, .slice A3 D.nu k3] 10 HX.out Tryz.rowDek rfl ?_; simp only [Act.put]) | (refine wpl_row rfl 37 _ rfl _ rfl #[.slice A6 Mo.np k6, .slice A7 Mo.nr k7, .slice A8 Mo.nv k8] 3 HY.out Tryz.rowMov rfl ?_; simp only [Act.put]) | (go_at_call 45; refine HQ.out.mono ?_; rintro e w2 ⟨rfl, hb2⟩))
  go_ret
  exact ⟨rfl, hb2⟩
theorem dman1_c (gx : Nat) (D : DekD) (A1 A2 A3 : Option Addr) (k1 k2 k3 : Nat) (t : Int) (w : World)
    (hx : Blk w gx 26 #[.int .i64 D.size, .int .i64 D.load, .int .i64 D.wind, .slice A1 D.ns k1, .int .i64 D.pitch, .int .i64 D.roll, .int .i64 D.heave, .int .i64 D.fire, .slice A2 D.nh k2, .slice A3 D.nu k3])
    (hq : Calls Tryz.prog 47 #[.agg #[.int .i64 D.size, .int .i64 D.load, .int .i64 D.wind, .slice A1 D.ns k1, .int .i64 D.pitch, .int .i64 D.roll, .int .i64 D.heave, .int .i64 D.fire, .slice A2 D.nh k2, .slice A3 D.nu k3], .int .i64 t] w fun e w' => e = .returned (.bool (manB D t)) ∧ Below w.heap.size w w') :
   Calls Tryz.prog 46 #[.int .i64 t, .pointer (some ⟨gx, 0, none⟩)] w fun e w' => e = .returned (.bool (manB D t)) ∧ Below w.heap.size w w' := by
  have HX := Lib.hid hx
  have HQ := Lib.hid hq
  clear hx hq
  generalize manB D t = B at *
  go_enter Tryz.func46, Tryz.ntmps46
  go_wp2_with (first | (refine wpl_row rfl 26 _ rfl _ rfl #[.int .i64 D.size, .int .i64 D.load, .int .i64 D.wind, .slice A1 D.ns k1, .int .i64 D.pitch, .int .i64 D.roll, .int .i64 D.heave, .int .i64 D.fire, .slice A2 D.nh k2, .slice A3 D.nu k3] 10 HX.out Tryz.rowDek rfl ?_; simp only [Act.put]) | (go_at_call 47; refine HQ.out.mono ?_; rintro e w2 ⟨rfl, hb2⟩))
  go_ret
  exact ⟨rfl, hb2⟩
theorem stB_bd {f u : Int} (h : stB f u = true) : 0 ≤ f ∧ u ≤ 2000 := by
  unfold stB at h
  simp only [Bool.and_eq_true, decide_eq_true_eq, inB_iff] at h
  exact ⟨h.1.1, h.2⟩
theorem dQuiet_c (D : DekD) (vA vB vC : Value) (Mo : MovD) (vP vR vV : Value) (f u : Int) (w : World) (hD : DekAt w vA vB vC D) (hV : MovAt w vP vR vV Mo) (hO : D.Ok) (hM : Mo.Ok) (hE : cmE D Mo = 0) (hs : stB f u = true) :
   Calls Tryz.prog 16 #[.agg #[.int .i64 D.size, .int .i64 D.load, .int .i64 D.wind, vA, .int .i64 D.pitch, .int .i64 D.roll, .int .i64 D.heave, .int .i64 D.fire, vB, vC], .agg #[vP, vR, vV], .int .i64 f, .int .i64 u, .int .i64 1] w fun e w' => ∃ v, e = .returned (.tuple #[v, .int .i64 0]) ∧ Below w.heap.size w w' ∧ w'.ownsRow w.heap.size 28 2 v (strV (quiB D Mo) f u 1).length (spC (strV (quiB D Mo) f u 1)) := by
  have HD := Lib.hid hD
  have HV := Lib.hid hV
  obtain ⟨A1, k1, rfl, -, -, -⟩ := hD.s.e
  obtain ⟨A2, k2, rfl, -, -, -⟩ := hD.h.e
  obtain ⟨A3, k3, rfl, -, -, -⟩ := hD.u.e
  obtain ⟨A6, k6, rfl, -, -, -⟩ := hV.p.e
  obtain ⟨A7, k7, rfl, -, -, -⟩ := hV.r.e
  obtain ⟨A8, k8, rfl, -, -, -⟩ := hV.v.e
  have hcm := fun w1 h1 h2 => dCheckMotion_c D (.slice A1 D.ns k1) (.slice A2 D.nh k2) (.slice A3 D.nu k3) Mo (.slice A6 Mo.np k6) (.slice A7 Mo.nr k7) (.slice A8 Mo.nv k8) w1 h1 h2
  have hwi := fun w1 => dstretch_c f u w1
  have hwn := fun w1 => dwithin_c 1 1 100 w1
  rw [hE] at hcm
  obtain ⟨hf0, hu1⟩ := stB_bd hs
  rw [hs] at hwi
  rw [show inB 1 1 100 = true by decide] at hwn
  have HQ := Lib.hid (fun t w1 (ht0 : 0 ≤ t) h => dquiet_c D (.slice A1 D.ns k1) (.slice A2 D.nh k2) (.slice A3 D.nu k3) Mo (.slice A6 Mo.np k6) (.slice A7 Mo.nr k7) (.slice A8 Mo.nv k8) t w1 hO hM h ht0)
  have HCM := Lib.hid hcm
  have HWI := Lib.hid hwi
  have HWN := Lib.hid hwn
  clear hD hV hcm hwi hwn hO hM hE hs
  obtain ⟨R, hR⟩ : ∃ q, q = strV (quiB D Mo) f u 1 := ⟨_, rfl⟩
  rw [← hR]
  have HR := Lib.hid hR
  clear hR
  go_enter Tryz.func16, Tryz.ntmps16
  go_wp2_with (fail)
  have bHX : Blk ((w.alloc (.cells #[.int .i64 D.size, .int .i64 D.load, .int .i64 D.wind, .slice A1 D.ns k1, .int .i64 D.pitch, .int .i64 D.roll, .int .i64 D.heave, .int .i64 D.fire, .slice A2 D.nh k2, .slice A3 D.nu k3] 26)).alloc (.cells #[.slice A6 Mo.np k6, .slice A7 Mo.nr k7, .slice A8 Mo.nv k8] 37)) (w.heap.size) 26 #[.int .i64 D.size, .int .i64 D.load, .int .i64 D.wind, .slice A1 D.ns k1, .int .i64 D.pitch, .int .i64 D.roll, .int .i64 D.heave, .int .i64 D.fire, .slice A2 D.nh k2, .slice A3 D.nu k3] := (by repeat (first | (refine Blk.newAt _ _ _ ?_; first | rfl | (simp; done)) | refine Blk.alloc ?_ _))
  have bHY : Blk ((w.alloc (.cells #[.int .i64 D.size, .int .i64 D.load, .int .i64 D.wind, .slice A1 D.ns k1, .int .i64 D.pitch, .int .i64 D.roll, .int .i64 D.heave, .int .i64 D.fire, .slice A2 D.nh k2, .slice A3 D.nu k3] 26)).alloc (.cells #[.slice A6 Mo.np k6, .slice A7 Mo.nr k7, .slice A8 Mo.nv k8] 37)) (w.heap.size + 1) 37 #[.slice A6 Mo.np k6, .slice A7 Mo.nr k7, .slice A8 Mo.nv k8] := (by repeat (first | (refine Blk.newAt _ _ _ ?_; first | rfl | (simp; done)) | refine Blk.alloc ?_ _))
  have bHB : Below w.heap.size w ((w.alloc (.cells #[.int .i64 D.size, .int .i64 D.load, .int .i64 D.wind, .slice A1 D.ns k1, .int .i64 D.pitch, .int .i64 D.roll, .int .i64 D.heave, .int .i64 D.fire, .slice A2 D.nh k2, .slice A3 D.nu k3] 26)).alloc (.cells #[.slice A6 Mo.np k6, .slice A7 Mo.nr k7, .slice A8 Mo.nv k8] 37)) := (by repeat' (first | exact Below.refl _ _ | assumption | refine Below.drew ?_ | refine bdn ?_ _ | refine bal ?_ _ | refine Below.setCell ?_ (by first | (simp; done) | omega | (simp; omega)) _))
  generalize ((w.alloc (.cells #[.int .i64 D.size, .int .i64 D.load, .int .i64 D.wind, .slice A1 D.ns k1, .int .i64 D.pitch, .int .i64 D.roll, .int .i64 D.heave, .int .i64 D.fire, .slice A2 D.nh k2, .slice A3 D.nu k3] 26)).alloc (.cells #[.slice A6 Mo.np k6, .slice A7 Mo.nr k7, .slice A8 Mo.nv k8] 37)) = W at *
  have zW := bHY.lt
  have HX := Lib.hid bHX
  have HY := Lib.hid bHY
  have HB := Lib.hid bHB
  clear bHX bHY bHB
  go_wp2_with (first | (refine wpl_row rfl 26 _ rfl _ rfl #[.int .i64 D.size, .int .i64 D.load, .int .i64 D.wind, .slice A1 D.ns k1, .int .i64 D.pitch, .int .i64 D.roll, .int .i64 D.heave, .int .i64 D.fire, .slice A2 D.nh k2, .slice A3 D.nu k3] 10 HX.out Tryz.rowDek rfl ?_; simp only [Act.put]) | (refine wpl_row rfl 37 _ rfl _ rfl #[.slice A6 Mo.np k6, .slice A7 Mo.nr k7, .slice A8 Mo.nv k8] 3 HY.out Tryz.rowMov rfl ?_; simp only [Act.put]) | (go_at_call 43; (with_reducible refine (HCM.out _ (HD.out.below HB.out) (HV.out.below HB.out)).mono ?_); rintro e w1 ⟨rfl, hb1⟩; have nHX := Lib.hid (HX.out.below hb1); have nHY := Lib.hid (HY.out.below hb1); have nHB := Lib.hid (bthen HB.out hb1); have zz1 := hb1.size; clear HX HY HB hb1; have HX := nHX; have HY := nHY; have HB := nHB; clear nHX nHY nHB) | (go_at_call 40; (with_reducible refine (HWI.out _).mono ?_); rintro e w1 ⟨rfl, rfl⟩) | (go_at_call 33; (with_reducible refine (HWN.out _).mono ?_); rintro e w1 ⟨rfl, rfl⟩))
  have hst := dstretches_c 44 #[.pointer (some ⟨w.heap.size, 0, none⟩), .pointer (some ⟨w.heap.size + 1, 0, none⟩)] (quiB D Mo) f u 1 w1 hf0 hu1 (by omega) (by omega) Tryz.entQu
    (fun W1 t ht0 ht1 hb => dqui1_c w.heap.size (w.heap.size + 1) D A1 A2 A3 A6 A7 A8 k1 k2 k3 k6 k7 k8 Mo t W1 (HX.out.below hb) (HY.out.below hb) (HQ.out t W1 (by omega) ((HV.out.below HB.out).below hb)))
  refine hst.mono ?_
  rintro e w2 ⟨v, rfl, hb2, ho, -⟩
  have HO := Lib.hid ho
  have hzq := HB.out.size
  clear hst ho
  go_wp2_with (fail)
  go_ret2
  refine ⟨v, rfl, bthen HB.out hb2, ?_⟩
  rw [HR.out]
  exact ownsRow_base HO.out hzq
theorem dManned_c (D : DekD) (vA vB vC : Value) (f u : Int) (w : World) (hD : DekAt w vA vB vC D) (hO : D.Ok) (hE : D.err = 0) (hs : stB f u = true) :
   Calls Tryz.prog 17 #[.agg #[.int .i64 D.size, .int .i64 D.load, .int .i64 D.wind, vA, .int .i64 D.pitch, .int .i64 D.roll, .int .i64 D.heave, .int .i64 D.fire, vB, vC], .int .i64 f, .int .i64 u] w fun e w' => ∃ v, e = .returned (.tuple #[v, .int .i64 0]) ∧ Below w.heap.size w w' ∧ w'.ownsRow w.heap.size 28 2 v (strV (manB D) f u 1).length (spC (strV (manB D) f u 1)) := by
  have HD := Lib.hid hD
  obtain ⟨A1, k1, rfl, -, -, -⟩ := hD.s.e
  obtain ⟨A2, k2, rfl, -, -, -⟩ := hD.h.e
  obtain ⟨A3, k3, rfl, -, -, -⟩ := hD.u.e
  have hcm := fun w1 h1 => dCheck_c D (.slice A1 D.ns k1) (.slice A2 D.nh k2) (.slice A3 D.nu k3) w1 h1
  have hwi := fun w1 => dstretch_c f u w1
  rw [hE] at hcm
  obtain ⟨hf0, hu1⟩ := stB_bd hs
  rw [hs] at hwi
  have HQ := Lib.hid (fun t w1 h => dmanned_c D (.slice A1 D.ns k1) (.slice A2 D.nh k2) (.slice A3 D.nu k3) t w1 hO h)
  have HCM := Lib.hid hcm
  have HWI := Lib.hid hwi
  clear hD hcm hwi hO hE hs
  obtain ⟨R, hR⟩ : ∃ q, q = strV (manB D) f u 1 := ⟨_, rfl⟩
  rw [← hR]
  have HR := Lib.hid hR
  clear hR
  go_enter Tryz.func17, Tryz.ntmps17
  go_wp2_with (fail)
  have bHX : Blk (w.alloc (.cells #[.int .i64 D.size, .int .i64 D.load, .int .i64 D.wind, .slice A1 D.ns k1, .int .i64 D.pitch, .int .i64 D.roll, .int .i64 D.heave, .int .i64 D.fire, .slice A2 D.nh k2, .slice A3 D.nu k3] 26)) (w.heap.size) 26 #[.int .i64 D.size, .int .i64 D.load, .int .i64 D.wind, .slice A1 D.ns k1, .int .i64 D.pitch, .int .i64 D.roll, .int .i64 D.heave, .int .i64 D.fire, .slice A2 D.nh k2, .slice A3 D.nu k3] := (by repeat (first | (refine Blk.newAt _ _ _ ?_; first | rfl | (simp; done)) | refine Blk.alloc ?_ _))
  have bHB : Below w.heap.size w (w.alloc (.cells #[.int .i64 D.size, .int .i64 D.load, .int .i64 D.wind, .slice A1 D.ns k1, .int .i64 D.pitch, .int .i64 D.roll, .int .i64 D.heave, .int .i64 D.fire, .slice A2 D.nh k2, .slice A3 D.nu k3] 26)) := (by repeat' (first | exact Below.refl _ _ | assumption | refine Below.drew ?_ | refine bdn ?_ _ | refine bal ?_ _ | refine Below.setCell ?_ (by first | (simp; done) | omega | (simp; omega)) _))
  generalize (w.alloc (.cells #[.int .i64 D.size, .int .i64 D.load, .int .i64 D.wind, .slice A1 D.ns k1, .int .i64 D.pitch, .int .i64 D.roll, .int .i64 D.heave, .int .i64 D.fire, .slice A2 D.nh k2, .slice A3 D.nu k3] 26)) = W at *
  have zW := bHX.lt
  have HX := Lib.hid bHX
  have HB := Lib.hid bHB
  clear bHX bHB
  go_wp2_with (first | (refine wpl_row rfl 26 _ rfl _ rfl #[.int .i64 D.size, .int .i64 D.load, .int .i64 D.wind, .slice A1 D.ns k1, .int .i64 D.pitch, .int .i64 D.roll, .int .i64 D.heave, .int .i64 D.fire, .slice A2 D.nh k2, .slice A3 D.nu k3] 10 HX.out Tryz.rowDek rfl ?_; simp only [Act.put]) | (go_at_call 36; (with_reducible refine (HCM.out _ (HD.out.below HB.out)).mono ?_); rintro e w1 ⟨rfl, hb1⟩; have nHX := Lib.hid (HX.out.below hb1); have nHB := Lib.hid (bthen HB.out hb1); have zz1 := hb1.size; clear HX HB hb1; have HX := nHX; have HB := nHB; clear nHX nHB) | (go_at_call 40; (with_reducible refine (HWI.out _).mono ?_); rintro e w1 ⟨rfl, rfl⟩))
  have hst := dstretches_c 46 #[.pointer (some ⟨w.heap.size, 0, none⟩)] (manB D) f u 1 w1 hf0 hu1 (by omega) (by omega) Tryz.entMa
    (fun W1 t ht0 ht1 hb => dman1_c w.heap.size D A1 A2 A3 k1 k2 k3 t W1 (HX.out.below hb) (HQ.out t W1 ((HD.out.below HB.out).below hb)))
  refine hst.mono ?_
  rintro e w2 ⟨v, rfl, hb2, ho, -⟩
  have HO := Lib.hid ho
  have hzq := HB.out.size
  clear hst ho
  go_wp2_with (fail)
  go_ret2
  refine ⟨v, rfl, bthen HB.out hb2, ?_⟩
  rw [HR.out]
  exact ownsRow_base HO.out hzq
end Go.Proofs.YtafkifjebimdaaaGreat
