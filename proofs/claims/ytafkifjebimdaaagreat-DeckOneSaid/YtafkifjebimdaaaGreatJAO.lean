/- Texts joined: JAO. -/
import Derived.Test.YtafkifjebimdaaaGreatJAJ
import Derived.Test.YtafkifjebimdaaaGreatJAN
import Derived.Test.YtafkifjebimdaaaGreatDkT
import Derived.Test.YtafkifjebimdaaaGreatDkN
import Derived.Test.YtafkifjebimdaaaGreatJAK
set_option linter.all false
namespace Go.Proofs.YtafkifjebimdaaaGreat
open Go Go.RowKit Go.Proofs

def exS (i j : Nat) : Int := nth (nthR [[300, 60, 28], [150, 200, 25]] i) j
def exH (i j : Nat) : Int := nth (nthR [[0, 12, 2], [4, 20, 2]] i) j
def exU (i j : Nat) : Int := nth (nthR [[6, 6]] i) j
def exDk : DekD := ⟨20, 9000, 40, 3, 3, 2, 3, 2, exS, 2, exH, 1, exU⟩
def exMo : MovD := ⟨10, nth [0, 1, 4, 0, 0, 1, 1, 0, 0, 0], 10, nth [0, 0, 0, 0, 0, 0, 0, 0, 0, 0], 10, nth [0, 1, 2, 2, 5, 6, 6, 7, 7, 8]⟩
def exAp : AppD := ⟨18, 8000, 35, 3000, 400, false, false, 0, 90, 100⟩
def exIs (t : Int) : Bool := decide (whyN exDk exM exMo exAp t = 0)
def exIs' (t : Int) : Bool := t == 5 || (decide (7 ≤ t) && decide (t ≤ 9))
theorem exAt {t : Int} (h0 : 0 ≤ t) (h1 : t ≤ 2000) : atE exM 0 t = 0 := by
  unfold atE
  rw [show exM.bad = false from by decide]
  rw [inB_iff.2 (show 0 ≤ t ∧ t ≤ 2000 from ⟨h0, h1⟩)]
  rfl
theorem exOp {t : Int} (h0 : 0 ≤ t) (h1 : t ≤ 2000) : opE exM 35 3000 400 0 t = 0 := by
  unfold opE
  rw [show minE exM 35 3000 400 = 0 from by decide, if_pos rfl, exAt h0 h1]
theorem exMay1 {t : Int} (h : inB t 0 9 = true) : exM.may 0 t = ⟨10, 30, 4000, 8000, 500, 2000, false, false⟩ := by
  unfold MetD.may
  rw [exCov1 h, exSen]
  rfl
theorem exIs_lo {t : Int} (h : inB t 0 9 = true) : exIs t = (quiB exDk exMo t && (manB exDk t && !shuB exDk t)) := by
  obtain ⟨h0, h1⟩ := inB_iff.1 h
  unfold exIs
  rw [Bool.eq_iff_iff, decide_eq_true_eq, whyN_zero]
  have e1 : openV exM exAp.lw exAp.ls exAp.lc exAp.li exAp.lt exAp.place t = true := by
    show openV exM 35 3000 400 false false 0 t = true
    unfold openV
    rw [exOp h0 (by omega), exMay1 h]
    rfl
  have e2 : (mayV exM exAp.place t).a1 ≤ limV exDk exAp.lo exAp.hi := by
    show (mayV exM 0 t).a1 ≤ limV exDk 90 100
    unfold mayV
    rw [if_pos (exAt h0 (by omega)), exMay1 h]
    decide
  rw [e1]
  simp only [Bool.and_eq_true, Bool.not_eq_true']
  constructor
  · rintro ⟨-, -, -, q1, q2, q3⟩; exact ⟨q1, q2, q3⟩
  · rintro ⟨q1, q2, q3⟩; exact ⟨⟨by decide, by decide⟩, trivial, e2, q1, q2, q3⟩
theorem exIs_hi {t : Int} (h : 10 ≤ t) : exIs t = false := by
  unfold exIs
  rw [decide_eq_false_iff_not, whyN_zero]
  rintro ⟨-, -, -, q, -⟩
  unfold quiB at q
  rw [if_neg (by decide), if_pos (show ((exMo.np : Nat) : Int) ≤ t from h)] at q
  cases q
theorem exIs_eq {t : Int} (h0 : 0 ≤ t) : exIs t = exIs' t := by
  by_cases h : 10 ≤ t
  · rw [exIs_hi h]
    unfold exIs'
    rw [show (t == 5) = false from by simp; omega, show decide (t ≤ 9) = false from decide_eq_false (by omega)]
    simp
  · rw [exIs_lo (inB_iff.2 ⟨h0, by omega⟩)]
    obtain ⟨k, rfl⟩ : ∃ k : Nat, t = (k : Int) := ⟨t.toNat, by omega⟩
    have hk : k < 10 := by omega
    clear h0 h
    revert k
    decide +kernel
theorem strR_congr {is is' : Int → Bool} {te least : Int} : ∀ (r : Nat) (t f : Int), (∀ q, t ≤ q → is q = is' q) → strR is te least r t f = strR is' te least r t f
  | 0, _, _, _ => rfl
  | r + 1, t, f, h => by
    unfold strR
    rw [h t (Int.le_refl _), strR_congr r (t + 1) f (fun q hq => h q (by omega)), strR_congr r (t + 1) (t + 1) (fun q hq => h q (by omega))]
theorem exStr : strV exIs 0 20 1 = [(5, 5), (7, 9)] := by
  unfold strV
  rw [strR_congr _ 0 0 (fun q hq => exIs_eq hq)]
  decide
end Go.Proofs.YtafkifjebimdaaaGreat

namespace Go.Proofs.YtafkifjebimdaaaGreat
open Go Go.RowKit Go.Proofs
set_option maxRecDepth 100000
set_option maxHeartbeats 8000000
theorem exCa : winE exDk exM exMo exAp 0 20 = 0 := by decide +kernel
theorem exDWin_c (vA vB vC vF vS vP vR vV : Value) (w : World) (hD : DekAt w vA vB vC exDk) (hA : MetAt w vF vS exM) (hV : MovAt w vP vR vV exMo) :
   Calls Tryz.prog 15 #[.agg #[.int .i64 20, .int .i64 9000, .int .i64 40, vA, .int .i64 3, .int .i64 3, .int .i64 2, .int .i64 3, vB, vC], .agg #[.int .i64 2, .int .i64 0, .int .i64 60, .int .i64 0, .int .i64 10000, .int .i64 0, .int .i64 3000, .bool true, .bool true, .int .i64 5, .int .i64 1000, .int .i64 200, vF, vS], .agg #[vP, vR, vV], .agg #[.int .i64 18, .int .i64 8000, .int .i64 35, .int .i64 3000, .int .i64 400, .bool false, .bool false, .int .i64 0, .int .i64 90, .int .i64 100], .int .i64 0, .int .i64 20] w fun e w' => ∃ g c, e = .returned (.tuple #[.slice (some ⟨g, 0, none⟩) 2 c, .int .i64 0]) ∧ Below w.heap.size w w' ∧
     w'.cell? ⟨g, 0, none⟩ = some (.int .i64 5) ∧ w'.cell? ⟨g, 1, none⟩ = some (.int .i64 5) ∧ w'.cell? ⟨g, 2, none⟩ = some (.int .i64 7) ∧ w'.cell? ⟨g, 3, none⟩ = some (.int .i64 9) := by
  refine (dWindows_c exDk vA vB vC exM vF vS exMo vP vR vV exAp 0 20 w hD hA hV).mono ?_
  rintro e w' ⟨v, rfl, hb, -, h⟩
  have hr := h exCa
  rw [exCa]
  rw [show winL exDk exM exMo exAp 0 20 = [(5, 5), (7, 9)] from exStr] at hr
  rcases hr.2 with ⟨-, hz⟩ | ⟨g, cap, cur, rfl, -⟩
  · cases hz
  · exact ⟨g, cap, rfl, hb, by have := hr.cellAt (g := g) 0 (by decide); simpa [spC] using this, by have := hr.cellAt (g := g) 1 (by decide); simpa [spC] using this, by have := hr.cellAt (g := g) 2 (by decide); simpa [spC] using this, by have := hr.cellAt (g := g) 3 (by decide); simpa [spC] using this⟩
end Go.Proofs.YtafkifjebimdaaaGreat

namespace Go.Proofs.YtafkifjebimdaaaGreat
open Go Go.RowKit Go.Proofs
set_option maxRecDepth 100000
set_option maxHeartbeats 8000000
theorem wpl_cpk {ty sl : TypeId} {k : Nat} {V : Nat → Nat → Value} {ops : Array Oper} {rest : List Oper} {o : Oper} {a : Act} {w : World} {Q : Exit → Act → World → Prop} (hgd : o.guard = none) (s x : Operand)
    (hu : Tryz.prog.underlying sl = some (.slice ty)) (hi : (Tryz.prog.info? ty).map (fun i => (i.zero.map (·.cells.size), i.size, decide (i.bytes ≤ 200))) = some (some k, k, true)) (hk : 0 < k) (h1 : ∀ i j, (V i j).oneCell' = true)
    (ho : o.op = .call { callee := .builtin .append, args := #[s, x], argTypes := #[sl, sl] }) (g : Nat) (hs : a.eval s = .slice (some ⟨g, 0, none⟩) 0 0) (hgb : w.heap[g]? = some (.cells #[] ty (0, 0)))
    (A : Option Addr) (n c : Nat) (hx : a.eval x = .slice A n c) (hr : RecsAt w A n k V) (hn : n ≤ 200)
    (h : ∀ v' w', Hid (∃ A' c', v' = .slice A' n c' ∧ n ≤ c' ∧ c' ≤ 9223372036854775807 ∧ RecsAt w' A' n k V ∧ ∀ b, some b = v'.ownBlock → g ≤ b) → Hid (Below w.heap.size w w') → wpList Tryz.prog ops Q rest (a.put o.dst v') w') : wpList Tryz.prog ops Q (o :: rest) a w := by
  cases hI : Tryz.prog.info? ty with
  | none => rw [hI] at hi; cases hi
  | some i =>
    rw [hI] at hi
    simp only [Option.map_some, Option.some.injEq, Prod.mk.injEq, decide_eq_true_eq] at hi
    obtain ⟨i1, i2, i3⟩ := hi
    cases hz : i.zero with
    | none => rw [hz] at i1; cases i1
    | some z =>
      rw [hz] at i1
      simp only [Option.map_some, Option.some.injEq] at i1
      have hb : n * i.bytes ≤ 200 * 200 := Nat.mul_le_mul hn i3
      refine wpl_append_newk hgd s x sl ho ty i z k i.bytes hu hI hz i2 rfl i1 hk g hs hgb g (Nat.le_refl _) A n c hx _ hr.cells (fun q _ => h1 _ _) (by unfold maxLen; omega) (by omega) (fun v' w' ho' hbl => ?_)
      obtain ⟨A', c', e, q1, q2, q3⟩ := RecsAt.of_owns (V := V) hk ho'
      exact h v' w' ⟨A', c', e, q1, q2, q3, fun b hb => owns_base ho' hb⟩ hbl
def EmptyT (ty : TypeId) (n0 : Nat) (v : Value) (w : World) : Prop := ∃ g, v = .slice (some ⟨g, 0, none⟩) 0 0 ∧ Blk w g ty #[] ∧ n0 ≤ g
theorem EmptyT.below {ty : TypeId} {n0 : Nat} {v : Value} {w w' : World} (h : EmptyT ty n0 v w) (hb : Below w.heap.size w w') : EmptyT ty n0 v w' := by
  obtain ⟨g, e, h, k⟩ := h
  exact ⟨g, e, h.below hb, k⟩
def SlN (n0 : Nat) (w : World) (v : Value) (n k : Nat) (V : Nat → Nat → Value) : Prop := SlAt w v n k V ∧ ∀ b, some b = v.ownBlock → n0 ≤ b
theorem SlN.below {n0 : Nat} {w w' : World} {v : Value} {n k : Nat} {V : Nat → Nat → Value} (h : SlN n0 w v n k V) (hb : Below w.heap.size w w') : SlN n0 w' v n k V := ⟨h.1.below hb, h.2⟩
theorem SlAt.frame {w w' : World} {v : Value} {n k : Nat} {V : Nat → Nat → Value} (h : SlAt w v n k V) (hs : w.heap.size ≤ w'.heap.size) (hf : ∀ b, some b = v.ownBlock → w'.heap[b]? = w.heap[b]?) : SlAt w' v n k V := by
  obtain ⟨A, c, rfl, h1, h2, h3⟩ := h.e
  exact ⟨A, c, rfl, h1, h2, h3.frame hs (fun _ b off e => hf b (by rw [e]; rfl))⟩
theorem lV_one (P : Nat → Int) (i j : Nat) : (lV P i j).oneCell' = true := rfl
theorem iV_one (S : Nat → Nat → Int) (i j : Nat) : (iV S i j).oneCell' = true := rfl
theorem Tryz.inI : (Tryz.prog.info? 3).map (fun i => (i.zero.map (·.cells.size), i.size, decide (i.bytes ≤ 200))) = some (some 1, 1, true) := by kernel_rfl
theorem Tryz.seU : Tryz.prog.underlying 22 = some (.slice 79) := by kernel_rfl
theorem Tryz.seI : (Tryz.prog.info? 79).map (fun i => (i.zero.map (·.cells.size), i.size, decide (i.bytes ≤ 200))) = some (some 3, 3, true) := by kernel_rfl
theorem Tryz.shU : Tryz.prog.underlying 23 = some (.slice 131) := by kernel_rfl
theorem Tryz.shI : (Tryz.prog.info? 131).map (fun i => (i.zero.map (·.cells.size), i.size, decide (i.bytes ≤ 200))) = some (some 3, 3, true) := by kernel_rfl
def cmR (w0 g : Nat) (vP vR vV : Value) (Mo : MovD) : Nat → Value → World → Prop
  | 0, v, w => EmptyT 3 w0 v w
  | 1, v, _ => v = .pointer (some ⟨g, 0, none⟩)
  | 2, v, _ => v = vP
  | 3, v, w => SlN w0 w v Mo.np 1 (lV Mo.P)
  | 4, v, w => EmptyT 3 w0 v w
  | 5, v, _ => v = .pointer (some ⟨g, 1, none⟩)
  | 6, v, _ => v = vR
  | 7, v, w => SlN w0 w v Mo.nr 1 (lV Mo.R)
  | 8, v, w => EmptyT 3 w0 v w
  | 9, v, _ => v = .pointer (some ⟨g, 2, none⟩)
  | 10, v, _ => v = vV
  | 11, v, w => SlN w0 w v Mo.nv 1 (lV Mo.V)
  | _, _, _ => True
theorem cmR_below {w0 g : Nat} {vP vR vV : Value} {Mo : MovD} (k : Nat) (v : Value) (w w' : World) (hb : Below w.heap.size w w') (h : cmR w0 g vP vR vV Mo k v w) : cmR w0 g vP vR vV Mo k v w' := by
  unfold cmR at *
  split at h <;> first | exact h | exact EmptyT.below h hb | exact SlN.below h hb
theorem Tryz.sizeMov : (Tryz.prog.info? 37).map (·.size) = some 3 := by kernel_rfl
theorem dCopyMotion_c (Mo : MovD) (vP vR vV : Value) (w : World) (hA : MovAt w vP vR vV Mo) (h1 : Mo.np ≤ 200) (h2 : Mo.nr ≤ 200) (h3 : Mo.nv ≤ 200) :
   Calls Tryz.prog 31 #[.agg #[vP, vR, vV]] w fun e w' => ∃ vP' vR' vV', e = .returned (.agg #[vP', vR', vV']) ∧ Below w.heap.size w w' ∧ SlN w.heap.size w' vP' Mo.np 1 (lV Mo.P) ∧ SlN w.heap.size w' vR' Mo.nr 1 (lV Mo.R) ∧ SlN w.heap.size w' vV' Mo.nv 1 (lV Mo.V) := by
  have HA := Lib.hid hA
  obtain ⟨A1, c1, rfl, -, -, r1⟩ := hA.p.e
  obtain ⟨A2, c2, rfl, -, -, r2⟩ := hA.r.e
  obtain ⟨A3, c3, rfl, -, -, r3⟩ := hA.v.e
  have R1 := Lib.hid r1
  have R2 := Lib.hid r2
  have R3 := Lib.hid r3
  clear hA r1 r2 r3
  go_enter Tryz.func31, Tryz.ntmps31
  go_wp2_with (fail)
  have bHX : Blk ((w.alloc (.cells #[.slice A1 Mo.np c1, .slice A2 Mo.nr c2, .slice A3 Mo.nv c3] 37)).alloc (.cells #[.slice none 0 0, .slice none 0 0, .slice none 0 0] 37)) (w.heap.size) 37 #[.slice A1 Mo.np c1, .slice A2 Mo.nr c2, .slice A3 Mo.nv c3] := (by repeat (first | (refine Blk.newAt _ _ _ ?_; first | rfl | (simp; done)) | refine Blk.alloc ?_ _))
  have bHR : Blk ((w.alloc (.cells #[.slice A1 Mo.np c1, .slice A2 Mo.nr c2, .slice A3 Mo.nv c3] 37)).alloc (.cells #[.slice none 0 0, .slice none 0 0, .slice none 0 0] 37)) (w.heap.size + 1) 37 #[.slice none 0 0, .slice none 0 0, .slice none 0 0] := (by repeat (first | (refine Blk.newAt _ _ _ ?_; first | rfl | (simp; done)) | refine Blk.alloc ?_ _))
  have bHB : Below w.heap.size w ((w.alloc (.cells #[.slice A1 Mo.np c1, .slice A2 Mo.nr c2, .slice A3 Mo.nv c3] 37)).alloc (.cells #[.slice none 0 0, .slice none 0 0, .slice none 0 0] 37)) := (by repeat' (first | exact Below.refl _ _ | assumption | refine Below.drew ?_ | refine bdn ?_ _ | refine bal ?_ _ | refine Below.setCell ?_ (by first | (simp; done) | omega | (simp; omega)) _))
  generalize ((w.alloc (.cells #[.slice A1 Mo.np c1, .slice A2 Mo.nr c2, .slice A3 Mo.nv c3] 37)).alloc (.cells #[.slice none 0 0, .slice none 0 0, .slice none 0 0] 37)) = W at *
  have zW := bHR.lt
  have HX := Lib.hid bHX
  have HR := Lib.hid bHR
  have HB := Lib.hid bHB
  clear bHX bHR bHB
  refine wp_region_spec 12 (cmR W.heap.size w.heap.size (.slice A1 Mo.np c1) (.slice A2 Mo.nr c2) (.slice A3 Mo.nv c3) Mo) (fun i => false) (by kernel_rfl) (by kernel_rfl) cmR_below ?hop1 ?htail1
  case hop1 =>
    simp only [List.take_succ_cons, List.take_zero, allOps]
    refine ⟨?_, ?_, ?_, ?_, ?_, ?_, ?_, ?_, ?_, ?_, ?_, ?_, trivial⟩
    all_goals intro u A w1 hA hb hd
    all_goals simp only [putAll, dstOf, List.getElem?_toArray, List.getElem?_cons_succ, List.getElem?_cons_zero, Option.bind_some, Option.bind, Act.put, List.setIfInBounds_toArray, List.set_cons_succ, List.set_cons_zero] at hA; subst hA
    all_goals have HB1 := Lib.hid hb
    · clear hb hd
      go_wp2
      exact ⟨_, rfl, bal (Below.refl _ _) _, ⟨_, rfl, Blk.new _ _ _, HB1.out.size⟩, fun h => absurd h (by decide)⟩
    · clear hb hd
      go_wp2
      exact ⟨_, rfl, Below.refl _ _, rfl, fun h => absurd h (by decide)⟩
    · have d1 : u 1 = _ := hd 1 (by omega) (by kernel_rfl)
      clear hb hd
      rw [d1]
      clear d1
      have c0 := (HX.out.below HB1.out).cell 0
      go_wp2
      exact ⟨_, rfl, Below.refl _ _, rfl, fun h => absurd h (by decide)⟩
    · have d0 := hd 0 (by omega) (by kernel_rfl)
      have d2 : u 2 = _ := hd 2 (by omega) (by kernel_rfl)
      clear hb hd
      rw [d2]
      clear d2
      obtain ⟨g, dg, d1, dz⟩ := d0
      rw [dg]
      clear dg
      refine wpl_cpk rfl (.tmp 3) (.tmp 5) Tryz.intsU Tryz.inI (by omega) (lV_one Mo.P) rfl g rfl d1 A1 Mo.np c1 rfl ((R1.out.below HB.out).below HB1.out) h1 ?_
      intro v' w' hq hbl
      exact ⟨v', rfl, hbl.out, (by obtain ⟨A', c', q1, q2, q3, q4, q5⟩ := hq.out; exact ⟨⟨A', c', q1, q2, q3, q4⟩, fun b hb => Nat.le_trans dz (q5 b hb)⟩), fun h => absurd h (by decide)⟩
    · clear hb hd
      go_wp2
      exact ⟨_, rfl, bal (Below.refl _ _) _, ⟨_, rfl, Blk.new _ _ _, HB1.out.size⟩, fun h => absurd h (by decide)⟩
    · clear hb hd
      go_wp2
      exact ⟨_, rfl, Below.refl _ _, rfl, fun h => absurd h (by decide)⟩
    · have d5 : u 5 = _ := hd 5 (by omega) (by kernel_rfl)
      clear hb hd
      rw [d5]
      clear d5
      have c0 := (HX.out.below HB1.out).cell 1
      go_wp2
      exact ⟨_, rfl, Below.refl _ _, rfl, fun h => absurd h (by decide)⟩
    · have d3 := hd 3 (by omega) (by kernel_rfl)
      have d4 := hd 4 (by omega) (by kernel_rfl)
      have d6 : u 6 = _ := hd 6 (by omega) (by kernel_rfl)
      clear hb hd
      rw [d6]
      clear d6
      obtain ⟨g, dg, d1, dz⟩ := d4
      rw [dg]
      clear dg
      refine wpl_cpk rfl (.tmp 7) (.tmp 9) Tryz.intsU Tryz.inI (by omega) (lV_one Mo.R) rfl g rfl d1 A2 Mo.nr c2 rfl ((R2.out.below HB.out).below HB1.out) h2 ?_
      intro v' w' hq hbl
      exact ⟨v', rfl, hbl.out, (by obtain ⟨A', c', q1, q2, q3, q4, q5⟩ := hq.out; exact ⟨⟨A', c', q1, q2, q3, q4⟩, fun b hb => Nat.le_trans dz (q5 b hb)⟩), fun h => absurd h (by decide)⟩
    · clear hb hd
      go_wp2
      exact ⟨_, rfl, bal (Below.refl _ _) _, ⟨_, rfl, Blk.new _ _ _, HB1.out.size⟩, fun h => absurd h (by decide)⟩
    · clear hb hd
      go_wp2
      exact ⟨_, rfl, Below.refl _ _, rfl, fun h => absurd h (by decide)⟩
    · have d9 : u 9 = _ := hd 9 (by omega) (by kernel_rfl)
      clear hb hd
      rw [d9]
      clear d9
      have c0 := (HX.out.below HB1.out).cell 2
      go_wp2
      exact ⟨_, rfl, Below.refl _ _, rfl, fun h => absurd h (by decide)⟩
    · have d7 := hd 7 (by omega) (by kernel_rfl)
      have d8 := hd 8 (by omega) (by kernel_rfl)
      have d10 : u 10 = _ := hd 10 (by omega) (by kernel_rfl)
      clear hb hd
      rw [d10]
      clear d10
      obtain ⟨g, dg, d1, dz⟩ := d8
      rw [dg]
      clear dg
      refine wpl_cpk rfl (.tmp 11) (.tmp 13) Tryz.intsU Tryz.inI (by omega) (lV_one Mo.V) rfl g rfl d1 A3 Mo.nv c3 rfl ((R3.out.below HB.out).below HB1.out) h3 ?_
      intro v' w' hq hbl
      exact ⟨v', rfl, hbl.out, (by obtain ⟨A', c', q1, q2, q3, q4, q5⟩ := hq.out; exact ⟨⟨A', c', q1, q2, q3, q4⟩, fun b hb => Nat.le_trans dz (q5 b hb)⟩), fun h => absurd h (by decide)⟩
  case htail1 =>
    intro u A w1 hA hb hd hf
    simp only [putAll, dstOf, List.getElem?_toArray, List.getElem?_cons_succ, List.getElem?_cons_zero, Option.bind_some, Option.bind, Act.put, List.setIfInBounds_toArray, List.set_cons_succ, List.set_cons_zero] at hA; subst hA
    have p0 := hd 0 (by omega)
    have e1 : u 1 = _ := hd 1 (by omega)
    have e2 : u 2 = _ := hd 2 (by omega)
    have p3 := hd 3 (by omega)
    have p4 := hd 4 (by omega)
    have e5 : u 5 = _ := hd 5 (by omega)
    have e6 : u 6 = _ := hd 6 (by omega)
    have p7 := hd 7 (by omega)
    have p8 := hd 8 (by omega)
    have e9 : u 9 = _ := hd 9 (by omega)
    have e10 : u 10 = _ := hd 10 (by omega)
    have p11 := hd 11 (by omega)
    first | rw [e1, e2, e5, e6, e9, e10] | simp only [e1, e2, e5, e6, e9, e10]
    clear e1 e2 e5 e6 e9 e10
    clear hd hf
    have s3 : SlN W.heap.size w1 (u 3) Mo.np 1 (lV Mo.P) := p3
    have s7 : SlN W.heap.size w1 (u 7) Mo.nr 1 (lV Mo.R) := p7
    have s11 : SlN W.heap.size w1 (u 11) Mo.nv 1 (lV Mo.V) := p11
    have hW := HR.out.lt
    have HR1 := Lib.hid (HR.out.below hb)
    have HB2 := Lib.hid (bthen HB.out hb)
    have hs := hb.size
    generalize u 3 = x3 at *
    generalize u 7 = x7 at *
    generalize u 11 = x11 at *
    have S3 := Lib.hid s3
    have S7 := Lib.hid s7
    have S11 := Lib.hid s11
    obtain ⟨B1, e1, rfl, -, -, -⟩ := s3.1.e
    obtain ⟨B2, e2, rfl, -, -, -⟩ := s7.1.e
    obtain ⟨B3, e3, rfl, -, -, -⟩ := s11.1.e
    clear p0 p3 p4 p7 p8 p11 s3 s7 s11 hb HX HR HB
    refine wpl_buildw rfl 37 _ rfl #[.slice B1 Mo.np e1, .slice B2 Mo.nr e2, .slice B3 Mo.nv e3] (by kernel_rfl) ?_
    simp only [Act.put]
    refine wpList_store_row rfl 37 _ _ rfl (w.heap.size + 1) #[.slice B1 Mo.np e1, .slice B2 Mo.nr e2, .slice B3 Mo.nv e3] rfl rfl 37 #[.slice none 0 0, .slice none 0 0, .slice none 0 0] HR1.out Tryz.sizeMov rfl (by simp [Value.oneCell']) ?_
    simp only [Act.put]
    go_wp2_with (fail)
    try dsimp only [NoPanic]
    try go_wp2_with (fail)
    have fr : ∀ b, W.heap.size ≤ b → (w1.setRow (w.heap.size + 1) #[.slice B1 Mo.np e1, .slice B2 Mo.nr e2, .slice B3 Mo.nv e3]).heap[b]? = w1.heap[b]? := fun b hb => setRow_other _ _ _ _ (by omega)
    exact bodyPost_ret (res_c rfl _ _ _ 3 rfl (setRow_heap _ _ _ _ _ _ HR1.out) Tryz.rowMov rfl) rfl ⟨_, _, _, rfl, rowBelow HB2.out (by omega) _, ⟨S3.out.1.frame (by simp [World.setRow]) (fun b hb => fr b (S3.out.2 b hb)), fun b hb => by have := S3.out.2 b hb; omega⟩, ⟨S7.out.1.frame (by simp [World.setRow]) (fun b hb => fr b (S7.out.2 b hb)), fun b hb => by have := S7.out.2 b hb; omega⟩, ⟨S11.out.1.frame (by simp [World.setRow]) (fun b hb => fr b (S11.out.2 b hb)), fun b hb => by have := S11.out.2 b hb; omega⟩⟩
end Go.Proofs.YtafkifjebimdaaaGreat

namespace Go.Proofs.YtafkifjebimdaaaGreat
open Go Go.RowKit Go.Proofs
set_option maxRecDepth 100000
set_option maxHeartbeats 8000000
theorem Tryz.spU2 : Tryz.prog.underlying 24 = some (.slice 28) := by kernel_rfl
theorem Tryz.spI2 : (Tryz.prog.info? 28).map (fun i => (i.zero.map (·.cells.size), i.size, decide (i.bytes ≤ 200))) = some (some 2, 2, true) := by kernel_rfl
theorem Tryz.sizeDek : (Tryz.prog.info? 26).map (·.size) = some 10 := by kernel_rfl
theorem SlN.put {n0 : Nat} {w w' : World} {v : Value} {n k g i : Nat} {V : Nat → Nat → Value} {u : Value} {o : Obj} (h : SlN n0 w v n k V) (hg : g < n0) (hb : Below ((w.setCell ⟨g, i, none⟩ u).alloc o).heap.size ((w.setCell ⟨g, i, none⟩ u).alloc o) w') : SlN n0 w' v n k V := by
  refine ⟨((h.1.frame (w' := w.setCell ⟨g, i, none⟩ u) (by simp [World.setCell]) (fun b hb' => Below.heap_setCell _ _ _ _ (by have := h.2 b hb'; show b ≠ g; omega))).below (bal (Below.refl _ _) o)).below hb, h.2⟩
theorem Blk.putFar {w w' : World} {k g i : Nat} {t : TypeId} {cs : Array Value} {u : Value} {o : Obj} (h : Blk w k t cs) (hk : k ≠ g) (hb : Below ((w.setCell ⟨g, i, none⟩ u).alloc o).heap.size ((w.setCell ⟨g, i, none⟩ u).alloc o) w') : Blk w' k t cs := ((h.far' hk (i := i) u).alloc o).below hb
theorem Blk.putIn {w w' : World} {g i : Nat} {t : TypeId} {cs : Array Value} {u : Value} {o : Obj} (h : Blk w g t cs) (hb : Below ((w.setCell ⟨g, i, none⟩ u).alloc o).heap.size ((w.setCell ⟨g, i, none⟩ u).alloc o) w') : Blk w' g t (cs.setIfInBounds i u) := ((h.set_ i u).alloc o).below hb
theorem dCopy_c (D : DekD) (vA vB vC : Value) (w : World) (hD : DekAt w vA vB vC D) (h1 : D.ns ≤ 200) (h2 : D.nh ≤ 200) (h3 : D.nu ≤ 200) :
   Calls Tryz.prog 29 #[.agg #[.int .i64 D.size, .int .i64 D.load, .int .i64 D.wind, vA, .int .i64 D.pitch, .int .i64 D.roll, .int .i64 D.heave, .int .i64 D.fire, vB, vC]] w fun e w' => ∃ vA' vB' vC', e = .returned (.agg #[.int .i64 D.size, .int .i64 D.load, .int .i64 D.wind, vA', .int .i64 D.pitch, .int .i64 D.roll, .int .i64 D.heave, .int .i64 D.fire, vB', vC']) ∧ Below w.heap.size w w' ∧ SlN w.heap.size w' vA' D.ns 3 (iV D.S) ∧ SlN w.heap.size w' vB' D.nh 3 (iV D.H) ∧ SlN w.heap.size w' vC' D.nu 2 (iV D.U) := by
  obtain ⟨A1, c1, rfl, -, -, r1⟩ := hD.s.e
  obtain ⟨A2, c2, rfl, -, -, r2⟩ := hD.h.e
  obtain ⟨A3, c3, rfl, -, -, r3⟩ := hD.u.e
  have R1 := Lib.hid r1
  have R2 := Lib.hid r2
  have R3 := Lib.hid r3
  clear hD r1 r2 r3
  go_enter Tryz.func29, Tryz.ntmps29
  go_wp2_with (first | (at_builtin; refine wpl_cpk rfl _ _ Tryz.seU Tryz.seI (by omega) (iV_one D.S) rfl _ rfl (Blk.newA _ _ _ (by simp)) A1 D.ns c1 rfl (R1.out.below (by repeat' (first | exact Below.refl _ _ | assumption | refine Below.drew ?_ | refine bdn ?_ _ | refine bal ?_ _ | refine Below.setCell ?_ (by first | (simp; done) | omega | (simp; omega)) _))) h1 ?_))
  intro v1 w1 hq hbh
  have hb1 := hbh.out
  obtain ⟨B1, e1, rfl, q1, q2, q3, q4⟩ := hq.out
  clear hbh hq
  have HX := Lib.hid (Blk.under ((((Blk.newA (g := w.heap.size) w 26 #[.int .i64 D.size, .int .i64 D.load, .int .i64 D.wind, .slice A1 D.ns c1, .int .i64 D.pitch, .int .i64 D.roll, .int .i64 D.heave, .int .i64 D.fire, .slice A2 D.nh c2, .slice A3 D.nu c3] rfl).alloc _).alloc _).alloc _) hb1 (by omega))
  have HR := Lib.hid (Blk.under (((Blk.newA (g := w.heap.size + 1) (w.alloc _) 26 #[.int .i64 0, .int .i64 0, .int .i64 0, .slice none 0 0, .int .i64 0, .int .i64 0, .int .i64 0, .int .i64 0, .slice none 0 0, .slice none 0 0] (by simp)).alloc _).alloc _) hb1 (by omega))
  have HO := Lib.hid (Blk.under ((Blk.newA (g := w.heap.size + 1 + 1) ((w.alloc _).alloc _) 26 #[.int .i64 D.size, .int .i64 D.load, .int .i64 D.wind, .slice A1 D.ns c1, .int .i64 D.pitch, .int .i64 D.roll, .int .i64 D.heave, .int .i64 D.fire, .slice A2 D.nh c2, .slice A3 D.nu c3] (by simp)).alloc _) hb1 (by omega))
  have HB := Lib.hid ((show Below w.heap.size w _ from (by repeat' (first | exact Below.refl _ _ | assumption | refine Below.drew ?_ | refine bdn ?_ _ | refine bal ?_ _ | refine Below.setCell ?_ (by first | (simp; done) | omega | (simp; omega)) _))).trans (hb1.mono (by omega)))
  have hz1 : w.heap.size + 1 + 1 + 1 ≤ w1.heap.size := by have := hb1.size; simp at this; omega
  have N1 := Lib.hid (show SlN (w.heap.size + 1 + 1 + 1) w1 (.slice B1 D.ns e1) D.ns 3 (iV D.S) from ⟨⟨B1, e1, rfl, q1, q2, q3⟩, fun b hb => by have := q4 b hb; first | omega | (simp at this; omega)⟩)
  clear q1 q2 q3 q4 hb1
  have x8 := HX.out.cell 8
  have o3 := HO.out.cell 3
  have f3 := HO.out.frozen 3
  simp only [List.getElem?_toArray, List.getElem?_cons_succ, List.getElem?_cons_zero] at x8 o3
  have hy1 : w.heap.size < w1.heap.size := by omega
  have hy2 : w.heap.size + 1 + 1 < w1.heap.size := by omega
  have HZ := Lib.hid hz1
  clear hz1
  go_wp2_with (first | (at_builtin; refine wpl_cpk rfl _ _ Tryz.shU Tryz.shI (by omega) (iV_one D.H) rfl _ rfl (Blk.newA _ _ _ (by simp [World.setCell])) A2 D.nh c2 rfl (R2.out.below (bal (bset HB.out (by omega) _) _)) h2 ?_))
  intro v2 w2 hq2 hbh2
  have hb2 : Below ((w1.setCell ⟨w.heap.size + 1 + 1, 3, none⟩ (.slice B1 D.ns e1)).alloc (.cells #[] 131)).heap.size ((w1.setCell ⟨w.heap.size + 1 + 1, 3, none⟩ (.slice B1 D.ns e1)).alloc (.cells #[] 131)) w2 := hbh2.out.mono (by simp [World.setCell])
  obtain ⟨B2, e2, rfl, q1, q2, q3, q4⟩ := hq2.out
  clear hbh2 hq2 x8 o3 f3
  have hs2 : w1.heap.size + 1 ≤ w2.heap.size := by have := hb2.size; simpa [World.setCell] using this
  have HX2 := Lib.hid (HX.out.putFar (by omega) hb2)
  have HR2 := Lib.hid (HR.out.putFar (by omega) hb2)
  have HO2 := Lib.hid (show Blk w2 (w.heap.size + 1 + 1) 26 #[.int .i64 D.size, .int .i64 D.load, .int .i64 D.wind, .slice B1 D.ns e1, .int .i64 D.pitch, .int .i64 D.roll, .int .i64 D.heave, .int .i64 D.fire, .slice A2 D.nh c2, .slice A3 D.nu c3] from HO.out.putIn hb2)
  have HB2 := Lib.hid (bthen (bal (bset HB.out (by omega) _) _) hb2)
  have N1' := Lib.hid (N1.out.put (by omega) hb2)
  have N2 := Lib.hid (show SlN (w.heap.size + 1 + 1 + 1) w2 (.slice B2 D.nh e2) D.nh 3 (iV D.H) from ⟨⟨B2, e2, rfl, q1, q2, q3⟩, fun b hb => by have := q4 b hb; have hz := HZ.out; first | omega | (simp [World.setCell] at this; omega)⟩)
  have HZ2 := Lib.hid (show w.heap.size + 1 + 1 + 1 ≤ w2.heap.size by have := HZ.out; omega)
  clear q1 q2 q3 q4 hb2 HX HR HO HB N1
  have x9 := HX2.out.cell 9
  have o8 := HO2.out.cell 8
  have f8 := HO2.out.frozen 8
  simp only [List.getElem?_toArray, List.getElem?_cons_succ, List.getElem?_cons_zero] at x9 o8
  have hw1 : w.heap.size < w2.heap.size := by omega
  have hw2 : w.heap.size + 1 + 1 < w2.heap.size := by omega
  clear hs2 hy1 hy2
  go_wp2_with (first | (at_builtin; refine wpl_cpk rfl _ _ Tryz.spU2 Tryz.spI2 (by omega) (iV_one D.U) rfl _ rfl (Blk.newA _ _ _ (by simp [World.setCell])) A3 D.nu c3 rfl (R3.out.below (bal (bset HB2.out (by omega) _) _)) h3 ?_))
  intro v3 w3 hq3 hbh3
  have hb3 : Below ((w2.setCell ⟨w.heap.size + 1 + 1, 8, none⟩ (.slice B2 D.nh e2)).alloc (.cells #[] 28)).heap.size ((w2.setCell ⟨w.heap.size + 1 + 1, 8, none⟩ (.slice B2 D.nh e2)).alloc (.cells #[] 28)) w3 := hbh3.out.mono (by simp [World.setCell])
  obtain ⟨B3, e3, rfl, q1, q2, q3, q4⟩ := hq3.out
  clear hbh3 hq3 x9 o8 f8
  have hs3 : w2.heap.size + 1 ≤ w3.heap.size := by have := hb3.size; simpa [World.setCell] using this
  have HR3 := Lib.hid (HR2.out.putFar (by omega) hb3)
  have HO3 := Lib.hid (show Blk w3 (w.heap.size + 1 + 1) 26 #[.int .i64 D.size, .int .i64 D.load, .int .i64 D.wind, .slice B1 D.ns e1, .int .i64 D.pitch, .int .i64 D.roll, .int .i64 D.heave, .int .i64 D.fire, .slice B2 D.nh e2, .slice A3 D.nu c3] from HO2.out.putIn hb3)
  have HB3 := Lib.hid (bthen (bal (bset HB2.out (by omega) _) _) hb3)
  have M1 := Lib.hid (N1'.out.put (by omega) hb3)
  have M2 := Lib.hid (N2.out.put (by omega) hb3)
  have M3 := Lib.hid (show SlN (w.heap.size + 1 + 1 + 1) w3 (.slice B3 D.nu e3) D.nu 2 (iV D.U) from ⟨⟨B3, e3, rfl, q1, q2, q3⟩, fun b hb => by have := q4 b hb; have hz := HZ2.out; first | omega | (simp [World.setCell] at this; omega)⟩)
  clear q1 q2 q3 q4 hb3 HX2 HR2 HO2 HB2 N1' N2
  have o9 := HO3.out.cell 9
  have f9 := HO3.out.frozen 9
  simp only [List.getElem?_toArray, List.getElem?_cons_succ, List.getElem?_cons_zero] at o9
  have ht1 : w.heap.size + 1 < w3.heap.size := by omega
  have ht2 : w.heap.size + 1 + 1 < w3.heap.size := by omega
  have HO4 := Lib.hid (show Blk (w3.setCell ⟨w.heap.size + 1 + 1, 9, none⟩ (.slice B3 D.nu e3)) (w.heap.size + 1 + 1) 26 #[.int .i64 D.size, .int .i64 D.load, .int .i64 D.wind, .slice B1 D.ns e1, .int .i64 D.pitch, .int .i64 D.roll, .int .i64 D.heave, .int .i64 D.fire, .slice B2 D.nh e2, .slice B3 D.nu e3] from HO3.out.set_ 9 (.slice B3 D.nu e3))
  have HR4 := Lib.hid (HR3.out.far' (f := w.heap.size + 1 + 1) (by omega) (i := 9) (.slice B3 D.nu e3))
  go_wp2_with (first | (refine wpl_row rfl 26 _ rfl _ rfl #[.int .i64 D.size, .int .i64 D.load, .int .i64 D.wind, .slice B1 D.ns e1, .int .i64 D.pitch, .int .i64 D.roll, .int .i64 D.heave, .int .i64 D.fire, .slice B2 D.nh e2, .slice B3 D.nu e3] 10 HO4.out Tryz.rowDek rfl ?_; simp only [Act.put]) | (refine wpList_store_row rfl 26 _ _ rfl (w.heap.size + 1) #[.int .i64 D.size, .int .i64 D.load, .int .i64 D.wind, .slice B1 D.ns e1, .int .i64 D.pitch, .int .i64 D.roll, .int .i64 D.heave, .int .i64 D.fire, .slice B2 D.nh e2, .slice B3 D.nu e3] rfl rfl 26 #[.int .i64 0, .int .i64 0, .int .i64 0, .slice none 0 0, .int .i64 0, .int .i64 0, .int .i64 0, .int .i64 0, .slice none 0 0, .slice none 0 0] HR4.out Tryz.sizeDek rfl (by simp [Value.oneCell']) ?_; simp only [Act.put]))
  have fr : ∀ b, w.heap.size + 1 + 1 + 1 ≤ b → ((w3.setCell ⟨w.heap.size + 1 + 1, 9, none⟩ (.slice B3 D.nu e3)).setRow (w.heap.size + 1) #[.int .i64 D.size, .int .i64 D.load, .int .i64 D.wind, .slice B1 D.ns e1, .int .i64 D.pitch, .int .i64 D.roll, .int .i64 D.heave, .int .i64 D.fire, .slice B2 D.nh e2, .slice B3 D.nu e3]).heap[b]? = w3.heap[b]? := fun b hb => by
    rw [setRow_other _ _ _ _ (by omega)]
    exact Below.heap_setCell _ _ _ _ (by show b ≠ w.heap.size + 1 + 1; omega)
  exact bodyPost_ret (res_c rfl _ _ _ 10 rfl (setRow_heap _ _ _ _ _ _ HR4.out) Tryz.rowDek rfl) rfl ⟨_, _, _, rfl, rowBelow (bset HB3.out (by omega) _) (by omega) _, ⟨M1.out.1.frame (by simp [World.setRow, World.setCell]) (fun b hb => fr b (M1.out.2 b hb)), fun b hb => by have := M1.out.2 b hb; omega⟩, ⟨M2.out.1.frame (by simp [World.setRow, World.setCell]) (fun b hb => fr b (M2.out.2 b hb)), fun b hb => by have := M2.out.2 b hb; omega⟩, ⟨M3.out.1.frame (by simp [World.setRow, World.setCell]) (fun b hb => fr b (M3.out.2 b hb)), fun b hb => by have := M3.out.2 b hb; omega⟩⟩
end Go.Proofs.YtafkifjebimdaaaGreat
