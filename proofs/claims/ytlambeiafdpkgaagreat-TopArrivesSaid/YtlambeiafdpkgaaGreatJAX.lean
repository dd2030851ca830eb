/- Texts joined: JAX. -/
import Derived.Test.YtlambeiafdpkgaaGreatJAW
import Derived.Test.YtlambeiafdpkgaaGreatJAU
import Derived.Test.YtlambeiafdpkgaaGreatJAR
import Derived.Test.YtlambeiafdpkgaaGreatJAP
import Derived.Test.YtlambeiafdpkgaaGreatJAV
import Derived.Great.CaseRows
import Derived.Deep.WholeRow
set_option linter.all false
namespace Go.Proofs.YtlambeiafdpkgaaGreat
open Go Go.RowKit Go.Proofs
set_option maxRecDepth 100000
set_option maxHeartbeats 8000000
theorem nfM_min {M : MetD} {lw ls lc : Int} {S : Tab} {n : Nat} {F : FliD} : nfE (netME M lw ls lc S n) M S n F = if minE M lw ls lc = 0 then nfE (netE M S n) M S n F else minE M lw ls lc := by
 cases hb : M.bad
 ·have he : M.err = 0 := by unfold MetD.err; rw [hb]; rfl
  have hp := (MetD.ok_of hb).places
  by_cases hm : minE M lw ls lc = 0
  ·have ho : opE M lw ls lc 0 0 = 0 := by
    unfold opE
    rw [if_pos hm]
    unfold atE
    have e1 : inB 0 0 (M.places - 1) = true := inB_iff.2 (by omega)
    rw [hb, e1]
    rfl
   have e : netME M lw ls lc S n = netE M S n := by unfold netME netE; rw [he, if_pos rfl, if_pos rfl, if_pos ho]
   rw [e, if_pos hm]
  ·have ho : opE M lw ls lc 0 0 = minE M lw ls lc := by unfold opE; rw [if_neg hm]
   have e : netME M lw ls lc S n = minE M lw ls lc := by unfold netME; rw [he, if_pos rfl, ho, if_neg hm]
   rw [e, if_neg hm]
   unfold nfE
   rw [if_neg hm]
 ·have he : M.err = 40 := by unfold MetD.err; rw [hb]; rfl
  have hm : minE M lw ls lc = 40 := by unfold minE; rw [hb]; rfl
  have e : netME M lw ls lc S n = 40 := by unfold netME; rw [he, if_neg (by decide)]
  rw [e, hm, if_neg (by decide)]
  rfl
end Go.Proofs.YtlambeiafdpkgaaGreat

namespace Go.Proofs.YtlambeiafdpkgaaGreat
open Go Go.RowKit Go.Proofs
set_option maxRecDepth 100000
set_option maxHeartbeats 8000000
end Go.Proofs.YtlambeiafdpkgaaGreat

namespace Go.Proofs.YtlambeiafdpkgaaGreat
open Go Go.RowKit Go.Proofs
set_option maxRecDepth 100000
end Go.Proofs.YtlambeiafdpkgaaGreat

namespace Go.Proofs.YtlambeiafdpkgaaGreat
open Go Go.RowKit Go.Proofs
set_option maxRecDepth 100000
end Go.Proofs.YtlambeiafdpkgaaGreat

namespace Go.Proofs.YtlambeiafdpkgaaGreat
open Go Go.RowKit Go.Proofs
set_option maxRecDepth 100000
set_option maxHeartbeats 8000000
structure OneK (w : World) (t : TypeId) (cs : Array Value) (wr : World) : Prop where
 b : Below w.heap.size w wr
 m : Blk wr w.heap.size t cs
theorem OneK.grow {w : World} {t : TypeId} {cs : Array Value} {wr w2 : World} (h : OneK w t cs wr) (hb : Below wr.heap.size wr w2) : OneK w t cs w2 := ⟨bthen h.b hb, h.m.below hb⟩
structure TwoK (w : World) (t : TypeId) (cs : Array Value) (t2 : TypeId) (cs2 : Array Value) (wr : World) : Prop where
 b : Below w.heap.size w wr
 m : Blk wr w.heap.size t cs
 s : Blk wr (w.heap.size + 1) t2 cs2
theorem TwoK.grow {w : World} {t : TypeId} {cs : Array Value} {t2 : TypeId} {cs2 : Array Value} {wr w2 : World} (h : TwoK w t cs t2 cs2 wr) (hb : Below wr.heap.size wr w2) : TwoK w t cs t2 cs2 w2 := ⟨bthen h.b hb, h.m.below hb, h.s.below hb⟩
theorem dmanned_c (D : DekD) (vA vB vC : Value) (t : Int) (w : World) (hO : D.Ok) (hD : DekAt w vA vB vC D) :
  Calls Tryz.prog 60 #[.agg #[.int .i64 D.size, .int .i64 D.load, .int .i64 D.wind, vA, .int .i64 D.pitch, .int .i64 D.roll, .int .i64 D.heave, .int .i64 D.fire, vB, vC], .int .i64 t] w fun e w' => e = .returned (.bool (manB D t)) ∧ Below w.heap.size w w' := by
 have HD := hI9 hD
 obtain ⟨A, c, rfl, hc1, hc2, -⟩ := hD.h.e
 have HO := hI9 hO
 clear hO hD
 unfold manB
 obtain ⟨R, hR⟩ : ∃ q, q = manR D t D.nh 0 0 := ⟨_, rfl⟩
 rw [← hR]
 have HR := hI9 hR
 clear hR
 go_enter Tryz.func60, Tryz.ntmps60
 go_wp2_with (fail)
 have _x := frm1 w #[.int .i64 D.size, .int .i64 D.load, .int .i64 D.wind, vA, .int .i64 D.pitch, .int .i64 D.roll, .int .i64 D.heave, .int .i64 D.fire, .slice A D.nh c, vC] 26
 have HX := hI9 _x.1
 have HB := hI9 _x.2.1
 have zW := _x.2.2
 clear _x
 generalize World.alloc w _ = W at *
 have zHX := HX.out.lt
 have cHX8 := HX.out.cell 8
 go_wp2_with (fail)
 have K0 := hI9 (show OneK w _ _ W from ⟨HB.out, HX.out⟩)
 clear HX HB
 go_loopg [5, 11] D.nh (fun gx p i wr => ∃ (k : Nat) (q : Int), i = .int .i64 k ∧ p = .int .i64 q ∧ k ≤ D.nh ∧ D.nh - k ≤ gx ∧ 0 ≤ q ∧ q ≤ 100 * k ∧ Hid (OneK w 26 #[.int .i64 D.size, .int .i64 D.load, .int .i64 D.wind, vA, .int .i64 D.pitch, .int .i64 D.roll, .int .i64 D.heave, .int .i64 D.fire, .slice A D.nh c, vC] wr) ∧ Hid (manR D t (D.nh - k) k q = R))
 case atStart => exact ⟨0, 0, rfl, rfl, Nat.zero_le _, Nat.le_refl _, Int.le_refl _, by omega, K0, HR.out.symm⟩
 case round =>
  clear K0
  obtain ⟨k, q, rfl, rfl, hk, hgx, hq0, hq1, K0, HE⟩ := hrel
  have hnh := HO.out.nh
  by_cases hlt : k < D.nh
  ·have hltz : (k : Int) < (D.nh : Int) := by omega
   obtain ⟨A', c', hA', -, -, hrec⟩ := HD.out.h.e
   simp only [Value.slice.injEq] at hA'
   obtain ⟨rfl, -, rfl⟩ := hA'
   obtain ⟨bs, off, rfl, hbs, hcell⟩ := hrec (by omega)
   have c0 : wr.cell? ⟨bs, off + k * 3, none⟩ = some (.int .i64 (D.H k 0)) := (K0.out.b.cell (p := ⟨bs, off + k * 3 + 0, none⟩) hbs).trans (hcell k hlt 0 (by omega))
   have c1 : wr.cell? ⟨bs, off + k * 3 + 1, none⟩ = some (.int .i64 (D.H k 1)) := (K0.out.b.cell (p := ⟨bs, off + k * 3 + 1, none⟩) hbs).trans (hcell k hlt 1 (by omega))
   have c2 : wr.cell? ⟨bs, off + k * 3 + 2, none⟩ = some (.int .i64 (D.H k 2)) := (K0.out.b.cell (p := ⟨bs, off + k * 3 + 2, none⟩) hbs).trans (hcell k hlt 2 (by omega))
   clear hcell
   have hE := HE.out
   rw [show D.nh - k = (D.nh - (k + 1)) + 1 by omega] at hE
   unfold manR at hE
   have hh := HO.out.h k hlt
   have hwi := fun w1 => dwithin_c t (D.H k 0) (wrap64 (D.H k 1 - 1)) w1
   have K2 := hI9 (K0.out.grow (bal (Below.refl _ _) (.cells #[.int .i64 (D.H k 0), .int .i64 (D.H k 1), .int .i64 (D.H k 2)] 183)))
   cases hb : inB t (D.H k 0) (wrap64 (D.H k 1 - 1))
   ·rw [hb] at hE hwi
    have HW := hI9 hwi
    have HE2 := hI9 (show manR D t (D.nh - (k + 1)) (k + 1) q = R from hE)
    clear hE HE hb hwi K0
    go_wp2_with (first | (go_at_call 34; (with_reducible refine (HW.out _).mono ?_); rintro e w1 ⟨rfl, rfl⟩))
    go_roundg (D.nh - (k + 1))
    case measure => omega
    case rel => exact ⟨k + 1, q, by first | rfl | go_num | (congr 1; omega), rfl, by omega, Nat.le_refl _, hq0, by omega, K2, HE2⟩
   ·rw [hb] at hE hwi
    have HW := hI9 hwi
    have HE2 := hI9 (show manR D t (D.nh - (k + 1)) (k + 1) (q + D.H k 2) = R from hE)
    clear hE HE hb hwi K0
    go_wp2_with (first | (go_at_call 34; (with_reducible refine (HW.out _).mono ?_); rintro e w1 ⟨rfl, rfl⟩))
    go_roundg (D.nh - (k + 1))
    case measure => omega
    case rel => exact ⟨k + 1, q + D.H k 2, by first | rfl | go_num | (congr 1; omega), by first | rfl | go_num | (congr 1; omega), by omega, Nat.le_refl _, by omega, by omega, K2, HE2⟩
  ·obtain rfl : k = D.nh := by omega
   have hE := HE.out
   rw [Nat.sub_self] at hE
   have hq : q = R := hE
   subst hq
   have c7 := K0.out.m.cell 7
   simp only [gtA, gtS, gtZ] at c7
   go_wp2_with (fail)
   go_ret
   exact ⟨rfl, K0.out.b⟩
theorem dlimit_c (D : DekD) (vA vB vC : Value) (lo hi : Int) (w : World) (hO : D.Ok) (hD : DekAt w vA vB vC D) (h0 : 0 ≤ lo) (h1 : hi ≤ 719) :
  Calls Tryz.prog 58 #[.agg #[.int .i64 D.size, .int .i64 D.load, .int .i64 D.wind, vA, .int .i64 D.pitch, .int .i64 D.roll, .int .i64 D.heave, .int .i64 D.fire, vB, vC], .agg #[.int .i64 lo, .int .i64 hi]] w fun e w' => e = .returned (.int .i64 (limV D lo hi)) ∧ Below w.heap.size w w' := by
 have HD := hI9 hD
 obtain ⟨A, c, rfl, hc1, hc2, -⟩ := hD.s.e
 have HO := hI9 hO
 clear hO hD
 unfold limV
 obtain ⟨R, hR⟩ : ∃ q, q = limN D (hi + 1 - lo).toNat lo D.wind := ⟨_, rfl⟩
 rw [← hR]
 have HR := hI9 hR
 clear hR
 go_enter Tryz.func58, Tryz.ntmps58
 go_wp2_with (fail)
 have _x := frm2 w #[.int .i64 D.size, .int .i64 D.load, .int .i64 D.wind, .slice A D.ns c, .int .i64 D.pitch, .int .i64 D.roll, .int .i64 D.heave, .int .i64 D.fire, vB, vC] 26 #[.int .i64 lo, .int .i64 hi] 28
 have HX := hI9 _x.1
 have HY := hI9 _x.2.1
 have HB := hI9 _x.2.2.1
 have zW := _x.2.2.2
 clear _x
 generalize World.alloc (World.alloc w _) _ = W at *
 have zHX := HX.out.lt
 have cHX2 := HX.out.cell 2
 have zHY := HY.out.lt
 have cHY0 := HY.out.cell 0
 go_wp2_with (fail)
 have K0 := hI9 (show TwoK w _ _ _ _ W from ⟨HB.out, HX.out, HY.out⟩)
 clear HX HY HB
 go_loopg [5, 6] (hi + 1 - lo).toNat (fun gx l i wr => ∃ (ll nn : Int), l = .int .i64 ll ∧ i = .int .i64 nn ∧ 0 ≤ nn ∧ (hi + 1 - nn).toNat ≤ gx ∧ Hid (TwoK w 26 #[.int .i64 D.size, .int .i64 D.load, .int .i64 D.wind, .slice A D.ns c, .int .i64 D.pitch, .int .i64 D.roll, .int .i64 D.heave, .int .i64 D.fire, vB, vC] 28 #[.int .i64 lo, .int .i64 hi] wr) ∧ Hid (limN D (hi + 1 - nn).toNat nn ll = R))
 case atStart => exact ⟨D.wind, lo, rfl, rfl, h0, Nat.le_refl _, K0, HR.out.symm⟩
 case round =>
  clear K0
  obtain ⟨ll, nn, rfl, rfl, hn0, hgx, K0, HE⟩ := hrel
  have m3 := K0.out.m.cell 3
  have s1 := K0.out.s.cell 1
  simp only [gtA, gtS, gtZ] at m3 s1
  by_cases hle : nn ≤ hi
  ·have hE := HE.out
   rw [show (hi + 1 - nn).toNat = (hi + 1 - (nn + 1)).toNat + 1 by omega] at hE
   unfold limN at hE
   obtain ⟨L, hL⟩ : ∃ q, q = limS D (nn % 360) D.ns 0 ll := ⟨_, rfl⟩
   rw [← hL] at hE
   have HL := hI9 hL
   have HE2 := hI9 hE
   have hns := HO.out.ns
   have hrem : Int.tmod nn 360 = nn % 360 := Int.tmod_eq_emod_of_nonneg hn0
   clear hL hE HE
   go_wp2_with (fail)
   clear m3 s1
   go_loopg [5, 22] D.ns (fun gy l i wr2 => ∃ (k : Nat) (q : Int), i = .int .i64 k ∧ l = .int .i64 q ∧ k ≤ D.ns ∧ D.ns - k ≤ gy ∧ Hid (TwoK w 26 #[.int .i64 D.size, .int .i64 D.load, .int .i64 D.wind, .slice A D.ns c, .int .i64 D.pitch, .int .i64 D.roll, .int .i64 D.heave, .int .i64 D.fire, vB, vC] 28 #[.int .i64 lo, .int .i64 hi] wr2) ∧ Hid (limS D (nn % 360) (D.ns - k) k q = L))
   case atStart => exact ⟨0, ll, rfl, rfl, Nat.zero_le _, Nat.le_refl _, K0, HL.out.symm⟩
   case round =>
    clear K0
    obtain ⟨k, q, rfl, rfl, hk, hgy, K0, HF⟩ := hrel
    by_cases hlt : k < D.ns
    ·have hltz : (k : Int) < (D.ns : Int) := by omega
     obtain ⟨A', c', hA', -, -, hrec⟩ := HD.out.s.e
     simp only [Value.slice.injEq] at hA'
     obtain ⟨rfl, -, rfl⟩ := hA'
     obtain ⟨bs, off, rfl, hbs, hcell⟩ := hrec (by omega)
     have c0 : wr.cell? ⟨bs, off + k * 3, none⟩ = some (.int .i64 (D.S k 0)) := (K0.out.b.cell (p := ⟨bs, off + k * 3 + 0, none⟩) hbs).trans (hcell k hlt 0 (by omega))
     have c1 : wr.cell? ⟨bs, off + k * 3 + 1, none⟩ = some (.int .i64 (D.S k 1)) := (K0.out.b.cell (p := ⟨bs, off + k * 3 + 1, none⟩) hbs).trans (hcell k hlt 1 (by omega))
     have c2 : wr.cell? ⟨bs, off + k * 3 + 2, none⟩ = some (.int .i64 (D.S k 2)) := (K0.out.b.cell (p := ⟨bs, off + k * 3 + 2, none⟩) hbs).trans (hcell k hlt 2 (by omega))
     clear hcell
     have hF := HF.out
     rw [show D.ns - k = (D.ns - (k + 1)) + 1 by omega] at hF
     unfold limS at hF
     have hli := fun w1 => dlies_c (D.S k 0) (D.S k 1) (D.S k 2) (nn % 360) w1
     cases hb : secB (D.S k 0) (D.S k 1) (nn % 360)
     ·rw [hb] at hF hli
      have HW := hI9 hli
      have HF2 := hI9 (show limS D (nn % 360) (D.ns - (k + 1)) (k + 1) q = L from hF)
      clear hF HF hb hli
      go_wp2_with (go_at_call 108; refine (HW.out _).mono ?_; rintro e w2 ⟨rfl, hb2⟩)
      go_roundg (D.ns - (k + 1))
      case measure => omega
      case rel => exact ⟨k + 1, q, by first | rfl | go_num | (congr 1; omega), rfl, by omega, Nat.le_refl _, hI9 (K0.out.grow (bthen (bal (Below.refl _ _) _) hb2)), HF2⟩
     ·rw [hb] at hF hli
      have HW := hI9 hli
      have HF2 := hI9 (show limS D (nn % 360) (D.ns - (k + 1)) (k + 1) (min q (D.S k 2)) = L from hF)
      clear hF HF hb hli
      go_wp2_with (go_at_call 108; refine (HW.out _).mono ?_; rintro e w2 ⟨rfl, hb2⟩; have ct := ((Blk.new wr 181 #[.int .i64 (D.S k 0), .int .i64 (D.S k 1), .int .i64 (D.S k 2)]).below hb2).cell 2; simp only [gtA, gtS, gtZ] at ct)
      go_roundg (D.ns - (k + 1))
      case measure => omega
      case rel => exact ⟨k + 1, min q (D.S k 2), by first | rfl | go_num | (congr 1; omega), by first | rfl | go_num | (congr 1; omega), by omega, Nat.le_refl _, hI9 (K0.out.grow (bthen (bal (Below.refl _ _) _) hb2)), HF2⟩
    ·obtain rfl : k = D.ns := by omega
     have hF := HF.out
     rw [Nat.sub_self] at hF
     have hq : q = L := hF
     subst hq
     go_wp2_with (fail)
     go_roundg (hi + 1 - (nn + 1)).toNat
     case measure => omega
     case rel => exact ⟨q, nn + 1, rfl, by first | rfl | go_num | (congr 1; omega), by omega, Nat.le_refl _, K0, HE2⟩
  ·have hE := HE.out
   rw [show (hi + 1 - nn).toNat = 0 by omega] at hE
   have hq : ll = R := hE
   subst hq
   go_wp2_with (fail)
   go_ret
   exact ⟨rfl, K0.out.b⟩
end Go.Proofs.YtlambeiafdpkgaaGreat

namespace Go.Proofs.YtlambeiafdpkgaaGreat
open Go Go.RowKit Go.Proofs
set_option maxRecDepth 100000
set_option maxHeartbeats 8000000
theorem wpl_recr {P : Program} {ops : Array Oper} {rest : List Oper} {o : Oper} {a : Act} {w : World} {Q : Exit → Act → World → Prop} (hg : o.guard = none) (t e : TypeId) (len : Nat) (parts : Array (Nat × Operand)) (s : Nat) (vs : List Value) (V : Nat → Nat → Value)
  (ho : o.op = .buildSlice t len parts) (hu : P.underlying t = some (.slice e)) (hsz : (P.info? e).map (·.size) = some s) (hz : ((P.info? e).bind (·.zero)).isSome = true)
  (hlen : len = vs.length) (hs : 0 < s) (hpos : 0 < len) (hsmall : len * s ≤ 2 ^ 24) (h1 : ∀ v ∈ vs, v.cells.size = s)
  (hparts : (parts.toList.map fun (i, x) => (i, a.eval x)) = (vs.zipIdx 0).map fun x => (x.2, x.1))
  (hV : (vs.flatMap fun v => v.cells.toList) = (List.range (len * s)).map fun q => V (q / s) (q % s))
  (h : ∀ g w', Below w.heap.size w w' → w.heap.size ≤ g → RecsAt w' (some ⟨g, 0, none⟩) len s V → wpList P ops Q rest (a.put o.dst (.slice (some ⟨g, 0, none⟩) len len)) w') : wpList P ops Q (o :: rest) a w := by
 cases hie : P.info? e with
 | none => simp [hie] at hsz
 | some ie =>
  simp only [hie, Option.map_some, Option.some.injEq, Option.bind_some] at hsz hz
  obtain ⟨z, hzz⟩ := Option.isSome_iff_exists.1 hz
  have hp := Nat.mul_pos hpos hs
  refine wpList_buildSlice hg t e len parts ho (vs.flatMap fun v => v.cells.toList).toArray ie z hu hie hzz (by rw [hsz]; omega) (by rw [hsz]; omega) ?_ ?_
  ·rw [Array.toList_map, hparts, hsz]
   exact Great.fill_whole hs vs _ h1 (by simp [hlen])
  ·refine h w.heap.size _ (bal (Below.refl _ _) _) (Nat.le_refl _) ?_
   rw [hV]
   intro _
   refine ⟨w.heap.size, 0, rfl, by simp, fun i hi j hj => ?_⟩
   have hlt : i * s + j < len * s := by
    have : (i + 1) * s ≤ len * s := Nat.mul_le_mul_right s hi
    rw [Nat.add_mul] at this; omega
   rw [Nat.zero_add, cell_of_row _ w.heap.size (i * s + j) _ e (0, 0) (World.alloc_heap_new w _)]
   simp only [List.getElem?_toArray, List.getElem?_map, List.getElem?_range hlt, Option.map_some]
   rw [Nat.mul_comm i s, Nat.mul_add_div hs, Nat.mul_add_mod, Nat.div_eq_of_lt hj, Nat.mod_eq_of_lt hj, Nat.add_zero]
theorem wpl_buildr {P : Program} {ops : Array Oper} {rest : List Oper} {o : Oper} {a : Act} {w : World} {Q : Exit → Act → World → Prop} (hg : o.guard = none) (t : TypeId) (parts : Array (Nat × Operand)) (ho : o.op = .build t parts)
  (cs : Array Value) (hf : P.built t (parts.toList.map fun (i, x) => (i, a.eval x)) = some cs)
  (h : wpList P ops Q rest (a.put o.dst (.agg cs)) w) : wpList P ops Q (o :: rest) a w :=
 wpList_build hg t parts ho (by rw [Array.toList_map, hf]; rfl) (by rw [Array.toList_map, hf]; exact h)
theorem wpl_store_newR {P : Program} {ops : Array Oper} {rest : List Oper} {o : Oper} {a : Act} {w : World} {Q : Exit → Act → World → Prop} (hgd : o.guard = none) (ty : TypeId) (x y : Operand) (ho : o.op = .store ty x y)
  (cells old : Array Value) (g : Nat) (hx : a.eval x = .pointer (some ⟨g, 0, none⟩)) (hg : g = w.heap.size) (hy : a.eval y = .agg cells) (hi : (P.info? ty).map (·.size) = some cells.size)
  (hold : old.size = cells.size) (h1 : cells.all (·.oneCell') = true)
  (h : wpList P ops Q rest (a.put o.dst undef) (w.alloc (.cells cells ty))) : wpList P ops Q (o :: rest) a (w.alloc (.cells old ty)) := by
 subst hg
 refine wpList_store_row hgd ty x y ho w.heap.size cells hx hy ty old (World.alloc_heap_new w _) hi hold h1 ?_
 rw [World.setRow_alloc_new]; exact h
end Go.Proofs.YtlambeiafdpkgaaGreat

namespace Go.Proofs.YtlambeiafdpkgaaGreat
open Go Go.RowKit Go.Proofs
set_option maxRecDepth 100000
set_option maxHeartbeats 8000000
theorem Tryz.rowPlan : RowTy Tryz.prog 68 20 := ⟨by kernel_rfl, by kernel_rfl⟩
theorem tri_r (w : World) (c1 c2 c3 : Array Value) (T1 T2 T3 : TypeId) : Blk (((w.alloc (.cells c1 T1)).alloc (.cells c2 T2)).alloc (.cells c3 T3)) w.heap.size T1 c1 ∧ Blk (((w.alloc (.cells c1 T1)).alloc (.cells c2 T2)).alloc (.cells c3 T3)) (w.heap.size + 1) T2 c2 ∧
  Blk (((w.alloc (.cells c1 T1)).alloc (.cells c2 T2)).alloc (.cells c3 T3)) (w.heap.size + 1 + 1) T3 c3 ∧ RowKit.Below w.heap.size w (((w.alloc (.cells c1 T1)).alloc (.cells c2 T2)).alloc (.cells c3 T3)) :=
 ⟨((Blk.new w T1 c1).alloc _).alloc _, (Blk.newA (g := w.heap.size + 1) (w.alloc (.cells c1 T1)) T2 c2 (by simp)).alloc _, Blk.newA (g := w.heap.size + 1 + 1) _ T3 c3 (by simp), bal (bal (bal (RowKit.Below.refl _ _) _) _) _⟩
theorem duo_r (w : World) (c1 c2 : Array Value) (T1 T2 : TypeId) : Blk ((w.alloc (.cells c1 T1)).alloc (.cells c2 T2)) w.heap.size T1 c1 ∧ Blk ((w.alloc (.cells c1 T1)).alloc (.cells c2 T2)) (w.heap.size + 1) T2 c2 ∧ RowKit.Below w.heap.size w ((w.alloc (.cells c1 T1)).alloc (.cells c2 T2)) :=
 ⟨(Blk.new w T1 c1).alloc _, Blk.newA (g := w.heap.size + 1) (w.alloc (.cells c1 T1)) T2 c2 (by simp), bal (bal (RowKit.Below.refl _ _) _) _⟩
end Go.Proofs.YtlambeiafdpkgaaGreat

namespace Go.Proofs.YtlambeiafdpkgaaGreat
open Go Go.RowKit Go.Proofs
set_option maxRecDepth 100000
set_option maxHeartbeats 8000000
theorem all64 {xs : List Int} (h : (xs.all fun x => decide (-9223372036854775808 ≤ x) && decide (x ≤ 9223372036854775807)) = true) : ∀ x ∈ xs, I64 x := by
 intro x hx; rw [List.all_eq_true] at h; have := h x hx; simp only [Bool.and_eq_true, decide_eq_true_eq] at this; exact this
def msT : Tbl := ⟨[0, 10, 20], [0, 5], [[0, 10], [20, 30], [10, 50]]⟩
theorem ms_fits : Fits msT 5 15 0 5 := ⟨by kernel_rfl, by kernel_rfl, by kernel_rfl, by kernel_rfl, by kernel_rfl⟩
theorem ms_lo : bndLo msT 5 15 0 5 = 10 := by kernel_rfl
theorem ms_hi : bndHi msT 5 15 0 5 = 40 := by kernel_rfl
theorem msBound_c (x y v : Value) (w : World) (hT : TblAt w x y v msT) :
  Calls Tryz.prog 26 #[.agg #[x, y, v], .agg #[.int .i64 5, .int .i64 15], .agg #[.int .i64 0, .int .i64 5]] w fun e w' => e = .returned (.tuple #[.agg #[.int .i64 10, .int .i64 40], .int .i64 0]) ∧ RowKit.Below w.heap.size w w' := by
 have := Bound_c x y v msT 5 15 0 5 w hT ms_fits
 rwa [ms_lo, ms_hi] at this
theorem ints_blk {w : World} {g : Nat} {T : TypeId} (xs : List Int) (h : Blk w g T (xs.map (Value.int .i64)).toArray) (h64 : (xs.all fun x => decide (-9223372036854775808 ≤ x) && decide (x ≤ 9223372036854775807)) = true) (hl : xs.length ≤ 100) : Ints w (.slice (some ⟨g, 0, none⟩) xs.length xs.length) xs := by
 refine ⟨_, _, rfl, Nat.le_refl _, by omega, all64 h64, fun hp => ⟨g, 0, rfl, h.lt, fun k hk => ?_⟩⟩
 rw [Nat.zero_add, h.cell k]
 simp [nth, List.getD_eq_getElem?_getD, List.getElem?_eq_getElem hk]
theorem measures_c (w : World) : Calls Tryz.prog 7 #[] w fun e w' => e = .returned (.bool true) ∧ RowKit.Below w.heap.size w w' := by
 go_enter Tryz.func7, Tryz.ntmps7
 go_wp2_with (fail)
 obtain ⟨b1, b2, b3, b4, b5, b6, hb, hz⟩ := frm6 w #[.int .i64 0, .int .i64 10, .int .i64 20] 3 #[.int .i64 0, .int .i64 5] 3 #[.int .i64 0, .int .i64 10] 3 #[.int .i64 20, .int .i64 30] 3 #[.int .i64 10, .int .i64 50] 3 #[.slice (some ⟨w.heap.size + 1 + 1, 0, none⟩) 2 2, .slice (some ⟨w.heap.size + 1 + 1 + 1, 0, none⟩) 2 2, .slice (some ⟨w.heap.size + 1 + 1 + 1 + 1, 0, none⟩) 2 2] 35
 generalize World.alloc (World.alloc (World.alloc (World.alloc (World.alloc (World.alloc w _) _) _) _) _) _ = W at *
 have hT : TblAt W (.slice (some ⟨w.heap.size, 0, none⟩) 3 3) (.slice (some ⟨w.heap.size + 1, 0, none⟩) 2 2) (.slice (some ⟨w.heap.size + 1 + 1 + 1 + 1 + 1, 0, none⟩) 3 3) msT := by
  refine ⟨ints_blk [0, 10, 20] b1 rfl (by decide), ints_blk [0, 5] b2 rfl (by decide), ⟨_, 3, fun k => [Value.slice (some ⟨w.heap.size + 1 + 1, 0, none⟩) 2 2, .slice (some ⟨w.heap.size + 1 + 1 + 1, 0, none⟩) 2 2, .slice (some ⟨w.heap.size + 1 + 1 + 1 + 1, 0, none⟩) 2 2].getD k undef, rfl, by decide, by decide, fun hp => ⟨_, 0, rfl, b6.lt, fun k hk => ?_⟩, fun k hk => ?_⟩⟩
  ·rw [Nat.zero_add, b6.cell k]
   match k, hk with
   | 0, _ => rfl
   | 1, _ => rfl
   | 2, _ => rfl
   | k + 3, hk => exact absurd hk (by show ¬ k + 3 < 3; omega)
  ·match k, hk with
   | 0, _ => exact ints_blk [0, 10] b3 rfl (by decide)
   | 1, _ => exact ints_blk [20, 30] b4 rfl (by decide)
   | 2, _ => exact ints_blk [10, 50] b5 rfl (by decide)
   | k + 3, hk => exact absurd hk (by show ¬ k + 3 < 3; omega)
 refine (msBound_c _ _ _ _ (hT.below (bal (RowKit.Below.refl _ _) _))).mono ?_
 rintro e w1 ⟨rfl, hb1⟩
 have HB := hI9 (bthen (bal hb _) hb1)
 clear b1 b2 b3 b4 b5 b6 hb hz hT hb1
 go_wp2_with (fail)
 go_ret
 exact ⟨rfl, by first | exact HB.out | exact bal HB.out _⟩
def pfar (M : MetD) (n m : Nat) : Bool := M.far || (decide ((30 : Int) < (n : Int)) || decide ((12 : Int) < (m : Int)))
theorem planFar_c (M : MetD) (vF vS : Value) (lw ls lc : Int) (li lb : Bool) (A : Option Addr) (n c : Nat) (F : FliD) (AR : Option Addr) (cR : Nat) (w : World) (hM : MetAt w vF vS M) :
  Calls Tryz.prog 14 #[.agg #[.int .i64 M.places, .int .i64 M.any.a0, .int .i64 M.any.a1, .int .i64 M.any.a2, .int .i64 M.any.a3, .int .i64 M.any.a4, .int .i64 M.any.a5, .bool M.any.i, .bool M.any.s, .int .i64 M.mw, .int .i64 M.ms, .int .i64 M.mc, vF, vS, .int .i64 lw, .int .i64 ls, .int .i64 lc, .bool li, .bool lb, .slice A n c], .agg #[.slice AR F.m cR, .int .i64 F.dep, .int .i64 F.fuel, .int .i64 F.burn, .int .i64 F.res]] w fun e w' => e = .returned (.bool (pfar M n F.m)) ∧ RowKit.Below w.heap.size w w' := by
 have HM := hI9 hM
 have HFR := hI9 (fun w1 h => wFar_c M vF vS w1 h)
 obtain ⟨V, hV⟩ : ∃ V, V = pfar M n F.m := ⟨_, rfl⟩
 rw [← hV]
 have HV := hI9 hV
 clear hM hV
 have tok0 : True := trivial
 have tok3 : True := trivial
 go_enter Tryz.func14, Tryz.ntmps14
 go_wp2_with (first | (have _t := tok0; generalize hWX : World.alloc (World.alloc w _) _ = W; clear tok0; have _x := duo_r w #[.int .i64 M.places, .int .i64 M.any.a0, .int .i64 M.any.a1, .int .i64 M.any.a2, .int .i64 M.any.a3, .int .i64 M.any.a4, .int .i64 M.any.a5, .bool M.any.i, .bool M.any.s, .int .i64 M.mw, .int .i64 M.ms, .int .i64 M.mc, vF, vS, .int .i64 lw, .int .i64 ls, .int .i64 lc, .bool li, .bool lb, .slice A n c] #[.slice AR F.m cR, .int .i64 F.dep, .int .i64 F.fuel, .int .i64 F.burn, .int .i64 F.res] 68 70; rw [hWX] at _x; clear hWX; have HX := hI9 _x.1; have HY := hI9 _x.2.1; have HB := hI9 _x.2.2; clear _x) | (have _t := tok3; refine wpl_mid rfl 34 _ rfl w.heap.size 0 rfl 68 _ #[.int .i64 M.places, .int .i64 M.any.a0, .int .i64 M.any.a1, .int .i64 M.any.a2, .int .i64 M.any.a3, .int .i64 M.any.a4, .int .i64 M.any.a5, .bool M.any.i, .bool M.any.s, .int .i64 M.mw, .int .i64 M.ms, .int .i64 M.mc, vF, vS] 14 HX.out Tryz.rowMet [] [.int .i64 lw, .int .i64 ls, .int .i64 lc, .bool li, .bool lb, .slice A n c] rfl rfl rfl ?_; simp only [Act.put]; clear tok3))
 refine (HFR.out _ (HM.out.below HB.out)).mono ?_
 rintro e w1 ⟨rfl, hb1⟩
 have nHX := hI9 (HX.out.below hb1)
 have nHY := hI9 (HY.out.below hb1)
 have nHB := hI9 (bthen HB.out hb1)
 clear HX HY HB hb1
 have HX := nHX
 have HY := nHY
 have HB := nHB
 clear nHX nHY nHB
 have zHX := HX.out.lt
 have cHX19 := HX.out.cell 19
 have zHY := HY.out.lt
 have cHY0 := HY.out.cell 0
 simp only [gtA, gtS, gtZ] at cHX19 cHY0
 cases hB : M.far
 case true =>
  obtain rfl : V = true := by rw [HV.out]; unfold pfar; rw [hB]; rfl
  go_wp2_with (fail)
  go_ret
  exact ⟨by first | trivial | rfl, HB.out⟩
 by_cases h1 : (30 : Int) < (n : Int)
 case pos =>
  obtain rfl : V = true := by rw [HV.out]; unfold pfar; rw [hB, decide_eq_true h1]; rfl
  go_wp2_with (fail)
  go_ret
  exact ⟨by first | trivial | rfl, HB.out⟩
 by_cases h2 : (12 : Int) < (F.m : Int)
 case pos =>
  obtain rfl : V = true := by rw [HV.out]; unfold pfar; rw [hB, decide_eq_false h1, decide_eq_true h2]; rfl
  go_wp2_with (fail)
  go_ret
  exact ⟨by first | trivial | rfl, HB.out⟩
 obtain rfl : V = false := by rw [HV.out]; unfold pfar; rw [hB, decide_eq_false h1, decide_eq_false h2]; rfl
 go_wp2_with (fail)
 go_ret
 exact ⟨by show Ending.returned (Value.bool (decide _ || decide _)) = _; rw [decide_eq_false (by omega), decide_eq_false (by omega)]; rfl, HB.out⟩
end Go.Proofs.YtlambeiafdpkgaaGreat
