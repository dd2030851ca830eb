/- Texts joined: JAR. -/
import Derived.Test.YtbgkbdhdkpjcdaaGreatNbA
import Derived.Test.YtbgkbdhdkpjcdaaGreatJAP
import Derived.Test.YtbgkbdhdkpjcdaaGreatJAQ
set_option linter.all false
namespace Go.Proofs.YtbgkbdhdkpjcdaaGreat
open Go Go.RowKit Go.Proofs
set_option maxRecDepth 100000
set_option maxHeartbeats 8000000
def opM (M : MetD) (lw ls lc : Int) (li lb : Bool) : Nat → Int → Bool := fun p a => openV M lw ls lc li lb (p : Int) a
/-- A slice that reads as havens. -/
def SlH (w : World) (v : Value) (l : List HavD) : Prop := ∃ A c, v = .slice A l.length c ∧ l.length ≤ c ∧ c ≤ 9223372036854775807 ∧ RecsAt w A l.length 3 (nHv (hvx l))
theorem SlH.below {w w' : World} {v : Value} {l : List HavD} (h : SlH w v l) (hb : RowKit.Below w.heap.size w w') : SlH w' v l := by
  obtain ⟨A, c, e, q1, q2, h⟩ := h
  exact ⟨A, c, e, q1, q2, h.below hb⟩
theorem SlH.of_owns {w : World} {base : Nat} {v : Value} {l : List HavD} (h : w.ownsRow base 47 3 v l.length (hvL l)) : SlH w v l := by
  rw [hvL_eq] at h
  exact RecsAt.of_owns (by omega) h
theorem Tryz.hvI : (Tryz.prog.info? 47).map (fun i => (i.zero.map (·.cells.size), i.size, decide (i.bytes ≤ 200))) = some (some 3, 3, true) := by kernel_rfl
theorem Tryz.hvU : Tryz.prog.underlying 59 = some (.slice 47) := by kernel_rfl
theorem wpl_appH {ops : Array Oper} {rest : List Oper} {o : Oper} {a : Act} {w : World} {Q : Exit → Act → World → Prop} (hgd : o.guard = none) (s x : Operand)
    (ho : o.op = .call { callee := .builtin .append, args := #[s, x], argTypes := #[59, 59] }) (base : Nat) (v : Value) (n : Nat) (xs : List Value) (hs : a.eval s = v) (hown : w.ownsRow base 47 3 v n xs)
    (g : Nat) (y0 y1 : Int) (y2 : Bool) (hx : a.eval x = .slice (some ⟨g, 0, none⟩) 1 1) (hc0 : w.cell? ⟨g, 0, none⟩ = some (.int .i64 y0)) (hc1 : w.cell? ⟨g, 1, none⟩ = some (.int .i64 y1)) (hc2 : w.cell? ⟨g, 2, none⟩ = some (.bool y2)) (h40 : n ≤ 3000) (hbase : base ≤ w.heap.size)
    (h : ∀ v' w', Hid (w'.ownsRow base 47 3 v' (n + 1) (xs ++ [.int .i64 y0, .int .i64 y1, .bool y2])) → Hid (w.grownBy w' v.ownBlock) → wpList Tryz.prog ops Q rest (a.put o.dst v') w') : wpList Tryz.prog ops Q (o :: rest) a w := by
  have hi := Tryz.hvI
  cases hI : Tryz.prog.info? 47 with
  | none => rw [hI] at hi; cases hi
  | some i =>
    rw [hI] at hi
    simp only [Option.map_some, Option.some.injEq, Prod.mk.injEq, decide_eq_true_eq] at hi
    obtain ⟨i1, i2, i3⟩ := hi
    cases hz : i.zero with
    | none => rw [hz] at i1; cases i1
    | some z =>
      rw [hz] at i1
      simp only [Option.map_some, Option.some.injEq] at i1
      have hb : (n + 1) * i.bytes ≤ 3001 * 200 := Nat.mul_le_mul (by omega) i3
      refine wpList_append_own w hgd s x 59 ho base 47 i z 3 i.bytes Tryz.hvU hI hz i2 rfl i1 (by decide) v n xs hs hown ⟨g, 0, none⟩ 1 1 [.int .i64 y0, .int .i64 y1, .bool y2] hx rfl ?_ ?_ (by unfold maxLen; omega) (by omega) hbase ?_
      · intro j u hj
        match j, hj with
        | 0, hj =>
          have : u = .int .i64 y0 := by simpa using hj.symm
          subst this
          exact hc0
        | 1, hj =>
          have : u = .int .i64 y1 := by simpa using hj.symm
          subst this
          exact hc1
        | 2, hj =>
          have : u = .bool y2 := by simpa using hj.symm
          subst this
          exact hc2
      · intro u hu
        simp only [List.mem_cons, List.not_mem_nil, or_false] at hu
        rcases hu with rfl | rfl | rfl <;> rfl
      · intro v' w' h1 h2 _
        exact h v' w' (Lib.hid h1) (Lib.hid h2)
/-- What the loop of havens keeps. -/
structure HvK (l : List HavD) (vO : Value) (w wr : World) : Prop where
  b : RowKit.Below w.heap.size w wr
  o : wr.ownsRow w.heap.size 47 3 vO l.length (hvL l)
theorem HvK.below {l : List HavD} {vO : Value} {w wr w2 : World} (h : HvK l vO w wr) (hb : RowKit.Below wr.heap.size wr w2) : HvK l vO w w2 := ⟨bthen h.b hb, ownsRow_below h.o hb⟩
theorem HvK.app {l : List HavD} {vO v2 : Value} {w wr w2 : World} {x : HavD} (h : HvK l vO w wr) (ho : w2.ownsRow w.heap.size 47 3 v2 (l.length + 1) (hvL l ++ [.int .i64 x.p, .int .i64 x.t, .bool x.b])) (hg : wr.grownBy w2 vO.ownBlock) : HvK (l ++ [x]) v2 w w2 :=
  ⟨h.b.trans (belowGrew hg h.b.size (fun b q => (ownLt h.o q).1)), by rw [hvL_snoc, List.length_append]; exact ho⟩
theorem fhavens_c (M : MetD) (vF vS v vN : Value) (P : Nat) (lt tt : Tab) (F : FliD) (vR : Value) (lw ls lc : Int) (li lb : Bool) (t : Int) (dry : Bool) (w : World) (h : FliAt w v vN M vF vS P lt tt F vR lw ls lc li lb) (hM : MetAt w vF vS M) (hP : M.places = P) (hp8 : P ≤ 8) (hok : F.ok P lt) (hl : LegIn P lt) (htt : TabIn P 51200 tt) (h0 : F.dep ≤ t) (h1 : t ≤ F.at_ lt (F.m - 1)) :
   Calls Tryz.prog 69 #[v, .int .i64 t, .bool dry] w fun e w' => ∃ vO, e = .returned vO ∧ RowKit.Below w.heap.size w w' ∧ SlH w' vO (F.havK lt tt (opM M lw ls lc li lb) t dry P) := by
  have hopn := fun (k : Nat) a b w1 h hm => fopen_c M vF vS v vN P lt tt F vR lw ls lc li lb (k : Int) a b w1 h hm
  have hnu := hok.1
  have hlas := fun a ha w1 h => lasts_c M vF vS v vN P lt tt F vR lw ls lc li lb a w1 h hnu ha
  have hrea := fun (k : Nat) hk w1 h => reach_c M vF vS v vN P lt tt F vR lw ls lc li lb t k w1 h hok hl htt hk h0 h1
  have hrin := fun (k : Nat) hk => FliD.reach_in (F := F) (t := t) (p := k) hok hl htt hk h0 h1
  have HF := Lib.hid h
  have HM := Lib.hid hM
  obtain ⟨gx, vA, rfl, hx, hN, -⟩ := h
  obtain ⟨gN, gL, gT, cL, cT, rL, rT, loL, hiL, loT, hiT, rfl, n1, -, -⟩ := hN
  have x0 := hx.cell 0
  have n0 := n1.cell 0
  simp only [List.getElem?_toArray, List.getElem?_cons_zero] at x0 n0
  rw [hP] at n0
  obtain ⟨op, hop⟩ : ∃ op : Nat → Int → Bool, op = opM M lw ls lc li lb := ⟨_, rfl⟩
  rw [← hop]
  have HOPE := Lib.hid (fun (k : Nat) a => show openV M lw ls lc li lb (k : Int) a = op k a by rw [hop]; rfl)
  have HOPN := Lib.hid hopn
  have HLAS := Lib.hid hlas
  have HREA := Lib.hid hrea
  have HRIN := Lib.hid hrin
  clear hP hx n1 hop hopn hlas hrea hrin hok hl htt hM h0 h1 hnu
  go_enter Tryz.func69, Tryz.ntmps69
  go_wp2_with (fail)
  go_loopg [6, 18] P (fun gy ov iv wr => ∃ k : Nat, iv = .int .i64 k ∧ k ≤ P ∧ P - k ≤ gy ∧ Hid (HvK (F.havK lt tt op t dry k) ov w wr))
  case atStart => exact ⟨0, rfl, Nat.zero_le _, Nat.le_refl _, Lib.hid ⟨RowKit.Below.refl _ _, World.ownsRow_nil _ _ _ _⟩⟩
  case round =>
    clear x0 n0
    obtain ⟨k, rfl, hk, hgy, K0⟩ := hrel
    by_cases hlt : k < P
    case pos =>
      have hltz : (k : Int) < (P : Int) := by omega
      have hre := HREA.out k hlt wr (HF.out.below K0.out.b)
      have hri := HRIN.out k hlt
      rcases hrv : F.reach lt tt t k with ⟨ra, rb, rc⟩
      rw [hrv] at hre hri
      dsimp only at hre hri
      have HRV := Lib.hid hrv
      clear hrv
      have HLA := Lib.hid (fun w1 h => HLAS.out ra (by omega) w1 h)
      have hop := fun w1 h hm => HOPN.out k ra rb w1 h hm
      rw [HOPE.out k ra] at hop
      go_wp2_with (fail)
      refine hre.mono ?_
      clear hre
      rintro e w2 ⟨rfl, hb2⟩
      have HR3 := Lib.hid (bal hb2 (.cells #[.int .i64 (k : Int), .int .i64 ra, .bool rb] 47))
      have HH := Lib.hid (Blk.new w2 47 #[.int .i64 (k : Int), .int .i64 ra, .bool rb])
      clear hb2
      cases rc
      case false =>
        have HV := Lib.hid (show F.havK lt tt op t dry (k + 1) = F.havK lt tt op t dry k from if_neg (by unfold FliD.havB; rw [HRV.out]; simp [Bool.false_and]))
        go_wp2_with (first | (go_at_call 113; refine (HOP.out _ (HF.out.below (bthen K0.out.b HR3.out)) (HM.out.below (bthen K0.out.b HR3.out))).mono ?_; rintro e w4 ⟨rfl, hb4⟩; have HH4 := Lib.hid (HH.out.below hb4); have HR4 := Lib.hid (bthen HR3.out hb4); clear hb4 HH HR3; have y0 := HH4.out.cell 0; have y1 := HH4.out.cell 1; have y2 := HH4.out.cell 2; simp only [List.getElem?_toArray, List.getElem?_cons_succ, List.getElem?_cons_zero] at y0 y1 y2) | (go_at_call 98; refine (HLA.out _ (HF.out.below (bthen K0.out.b HR4.out))).mono ?_; rintro e w5 ⟨rfl, hb5⟩; have HH5 := Lib.hid (HH4.out.below hb5); have HR5 := Lib.hid (bthen HR4.out hb5); clear hb5 y0 y1 y2 HH4 HR4; have y0 := HH5.out.cell 0; have y1 := HH5.out.cell 1; have y2 := HH5.out.cell 2; simp only [List.getElem?_toArray, List.getElem?_cons_succ, List.getElem?_cons_zero] at y0 y1 y2))
        go_roundg (P - (k + 1))
        case measure => omega
        case rel => exact ⟨k + 1, by first | rfl | go_num | (congr 1; omega), by omega, Nat.le_refl _, Lib.hid (by rw [HV.out]; exact K0.out.below HR3.out)⟩
      cases ho : op k ra
      case false =>
        rw [ho] at hop
        have HOP := Lib.hid hop
        clear hop
        have HV := Lib.hid (show F.havK lt tt op t dry (k + 1) = F.havK lt tt op t dry k from if_neg (by unfold FliD.havB; rw [HRV.out]; simp [ho]))
        go_wp2_with (first | (go_at_call 113; refine (HOP.out _ (HF.out.below (bthen K0.out.b HR3.out)) (HM.out.below (bthen K0.out.b HR3.out))).mono ?_; rintro e w4 ⟨rfl, hb4⟩; have HH4 := Lib.hid (HH.out.below hb4); have HR4 := Lib.hid (bthen HR3.out hb4); clear hb4 HH HR3; have y0 := HH4.out.cell 0; have y1 := HH4.out.cell 1; have y2 := HH4.out.cell 2; simp only [List.getElem?_toArray, List.getElem?_cons_succ, List.getElem?_cons_zero] at y0 y1 y2) | (go_at_call 98; refine (HLA.out _ (HF.out.below (bthen K0.out.b HR4.out))).mono ?_; rintro e w5 ⟨rfl, hb5⟩; have HH5 := Lib.hid (HH4.out.below hb5); have HR5 := Lib.hid (bthen HR4.out hb5); clear hb5 y0 y1 y2 HH4 HR4; have y0 := HH5.out.cell 0; have y1 := HH5.out.cell 1; have y2 := HH5.out.cell 2; simp only [List.getElem?_toArray, List.getElem?_cons_succ, List.getElem?_cons_zero] at y0 y1 y2))
        go_roundg (P - (k + 1))
        case measure => omega
        case rel => exact ⟨k + 1, by first | rfl | go_num | (congr 1; omega), by omega, Nat.le_refl _, Lib.hid (by rw [HV.out]; exact K0.out.below HR4.out)⟩
      rw [ho] at hop
      have HOP := Lib.hid hop
      clear hop
      cases dry
      case true =>
        have HV := Lib.hid (show F.havK lt tt op t true (k + 1) = F.havK lt tt op t true k ++ [⟨k, ra, rb⟩] from (if_pos (by unfold FliD.havB; rw [HRV.out]; simp [ho])).trans (by unfold FliD.hav1; rw [HRV.out]))
        have hlen := FliD.havK_len (F := F) (lt := lt) (tt := tt) (op := op) (t := t) (dry := true) k
        go_wp2_with (first | (go_at_call 113; refine (HOP.out _ (HF.out.below (bthen K0.out.b HR3.out)) (HM.out.below (bthen K0.out.b HR3.out))).mono ?_; rintro e w4 ⟨rfl, hb4⟩; have HH4 := Lib.hid (HH.out.below hb4); have HR4 := Lib.hid (bthen HR3.out hb4); clear hb4 HH HR3; have y0 := HH4.out.cell 0; have y1 := HH4.out.cell 1; have y2 := HH4.out.cell 2; simp only [List.getElem?_toArray, List.getElem?_cons_succ, List.getElem?_cons_zero] at y0 y1 y2) | (go_at_call 98; refine (HLA.out _ (HF.out.below (bthen K0.out.b HR4.out))).mono ?_; rintro e w5 ⟨rfl, hb5⟩; have HH5 := Lib.hid (HH4.out.below hb5); have HR5 := Lib.hid (bthen HR4.out hb5); clear hb5 y0 y1 y2 HH4 HR4; have y0 := HH5.out.cell 0; have y1 := HH5.out.cell 1; have y2 := HH5.out.cell 2; simp only [List.getElem?_toArray, List.getElem?_cons_succ, List.getElem?_cons_zero] at y0 y1 y2) | (at_builtin; refine wpl_appH rfl _ _ rfl w.heap.size u6 (F.havK lt tt op t true k).length _ rfl (ownsRow_below (K0.out.below HR4.out).o (bal (RowKit.Below.refl _ _) _)) w4.heap.size (k : Int) ra rb rfl ?a1 ?c1 ?d1 (by omega) ?b1 ?_))
        (try case a1 => exact (Blk.new _ _ _).cell 0)
        (try case c1 => exact (Blk.new _ _ _).cell 1)
        (try case d1 => exact (Blk.new _ _ _).cell 2)
        case b1 => have := K0.out.b.size; have := HR4.out.size; simp; omega
        intro v' w6 ho hg
        have nK := Lib.hid (HvK.app (x := ⟨k, ra, rb⟩) ((K0.out.below HR4.out).below (bal (RowKit.Below.refl _ _) _)) ho.out hg.out)
        go_wp2_with (fail)
        go_roundg (P - (k + 1))
        case measure => omega
        case rel => exact ⟨k + 1, by first | rfl | go_num | (congr 1; omega), by omega, Nat.le_refl _, Lib.hid (by rw [HV.out]; exact nK.out)⟩
      have hla := HLA.out
      cases hl : F.lasts ra
      case false =>
        rw [hl] at hla
        clear HLA
        have HLA := Lib.hid hla
        clear hla
        have HV := Lib.hid (show F.havK lt tt op t false (k + 1) = F.havK lt tt op t false k from if_neg (by unfold FliD.havB; rw [HRV.out]; simp [ho, hl]))
        go_wp2_with (first | (go_at_call 113; refine (HOP.out _ (HF.out.below (bthen K0.out.b HR3.out)) (HM.out.below (bthen K0.out.b HR3.out))).mono ?_; rintro e w4 ⟨rfl, hb4⟩; have HH4 := Lib.hid (HH.out.below hb4); have HR4 := Lib.hid (bthen HR3.out hb4); clear hb4 HH HR3; have y0 := HH4.out.cell 0; have y1 := HH4.out.cell 1; have y2 := HH4.out.cell 2; simp only [List.getElem?_toArray, List.getElem?_cons_succ, List.getElem?_cons_zero] at y0 y1 y2) | (go_at_call 98; refine (HLA.out _ (HF.out.below (bthen K0.out.b HR4.out))).mono ?_; rintro e w5 ⟨rfl, hb5⟩; have HH5 := Lib.hid (HH4.out.below hb5); have HR5 := Lib.hid (bthen HR4.out hb5); clear hb5 y0 y1 y2 HH4 HR4; have y0 := HH5.out.cell 0; have y1 := HH5.out.cell 1; have y2 := HH5.out.cell 2; simp only [List.getElem?_toArray, List.getElem?_cons_succ, List.getElem?_cons_zero] at y0 y1 y2))
        go_roundg (P - (k + 1))
        case measure => omega
        case rel => exact ⟨k + 1, by first | rfl | go_num | (congr 1; omega), by omega, Nat.le_refl _, Lib.hid (by rw [HV.out]; exact K0.out.below HR5.out)⟩
      rw [hl] at hla
      clear HLA
      have HLA := Lib.hid hla
      clear hla
      have HV := Lib.hid (show F.havK lt tt op t false (k + 1) = F.havK lt tt op t false k ++ [⟨k, ra, rb⟩] from (if_pos (by unfold FliD.havB; rw [HRV.out]; simp [ho, hl])).trans (by unfold FliD.hav1; rw [HRV.out]))
      have hlen := FliD.havK_len (F := F) (lt := lt) (tt := tt) (op := op) (t := t) (dry := false) k
      go_wp2_with (first | (go_at_call 113; refine (HOP.out _ (HF.out.below (bthen K0.out.b HR3.out)) (HM.out.below (bthen K0.out.b HR3.out))).mono ?_; rintro e w4 ⟨rfl, hb4⟩; have HH4 := Lib.hid (HH.out.below hb4); have HR4 := Lib.hid (bthen HR3.out hb4); clear hb4 HH HR3; have y0 := HH4.out.cell 0; have y1 := HH4.out.cell 1; have y2 := HH4.out.cell 2; simp only [List.getElem?_toArray, List.getElem?_cons_succ, List.getElem?_cons_zero] at y0 y1 y2) | (go_at_call 98; refine (HLA.out _ (HF.out.below (bthen K0.out.b HR4.out))).mono ?_; rintro e w5 ⟨rfl, hb5⟩; have HH5 := Lib.hid (HH4.out.below hb5); have HR5 := Lib.hid (bthen HR4.out hb5); clear hb5 y0 y1 y2 HH4 HR4; have y0 := HH5.out.cell 0; have y1 := HH5.out.cell 1; have y2 := HH5.out.cell 2; simp only [List.getElem?_toArray, List.getElem?_cons_succ, List.getElem?_cons_zero] at y0 y1 y2) | (at_builtin; refine wpl_appH rfl _ _ rfl w.heap.size u6 (F.havK lt tt op t false k).length _ rfl (ownsRow_below (K0.out.below HR5.out).o (bal (RowKit.Below.refl _ _) _)) w5.heap.size (k : Int) ra rb rfl ?a2 ?c2 ?d2 (by omega) ?b2 ?_))
      (try case a2 => exact (Blk.new _ _ _).cell 0)
      (try case c2 => exact (Blk.new _ _ _).cell 1)
      (try case d2 => exact (Blk.new _ _ _).cell 2)
      case b2 => have := K0.out.b.size; have := HR5.out.size; simp; omega
      intro v' w6 ho hg
      have nK := Lib.hid (HvK.app (x := ⟨k, ra, rb⟩) ((K0.out.below HR5.out).below (bal (RowKit.Below.refl _ _) _)) ho.out hg.out)
      go_wp2_with (fail)
      go_roundg (P - (k + 1))
      case measure => omega
      case rel => exact ⟨k + 1, by first | rfl | go_num | (congr 1; omega), by omega, Nat.le_refl _, Lib.hid (by rw [HV.out]; exact nK.out)⟩
    obtain rfl : k = P := by omega
    go_wp2_with (fail)
    go_ret
    exact ⟨_, rfl, K0.out.b, SlH.of_owns K0.out.o⟩
end Go.Proofs.YtbgkbdhdkpjcdaaGreat

namespace Go.Proofs.YtbgkbdhdkpjcdaaGreat
open Go Go.RowKit Go.Proofs
set_option maxRecDepth 100000
set_option maxHeartbeats 8000000
theorem r5lasts_c (F : FliD) (vR : Value) (t : Int) (w : World) (hn : F.nums = true) (ht : -1000000 ≤ t ∧ t ≤ 1000000) :
   Calls Tryz.prog 99 #[.agg #[vR, .int .i64 F.dep, .int .i64 F.fuel, .int .i64 F.burn, .int .i64 F.res], .int .i64 t] w fun e w' => e = .returned (.bool (F.lasts t)) ∧ RowKit.Below w.heap.size w w' := by
  obtain ⟨hm, hd, hf, hr, hb⟩ := FliD.nums_iff.1 hn
  unfold FliD.lasts
  generalize F.dep = dp at *
  generalize F.fuel = fu at *
  generalize F.burn = bu at *
  generalize F.res = re at *
  have hw1 : IntKind.i64.wrap (t - dp) = t - dp := by rw [IntKind.wrap_i64]; omega
  have hD : -1002000 ≤ t - dp ∧ t - dp ≤ 1002000 := by omega
  have hbd := mul_bd (A := 100000) (B := 1002000) (a := bu) (b := t - dp) (by omega) (by omega) hD.1 hD.2
  have hw2 : IntKind.i64.wrap (bu * (t - dp)) = bu * (t - dp) := by rw [IntKind.wrap_i64]; omega
  have hw3 : IntKind.i64.wrap (fu - bu * (t - dp)) = fu - bu * (t - dp) := by rw [IntKind.wrap_i64]; omega
  clear hbd hD hm hd hf hr hb ht hn
  go_enter Tryz.func99, Tryz.ntmps99
  go_wp2_with (fail)
  go_ret
  exact ⟨ret_bool (by simp), (by repeat' (first | exact Below.refl _ _ | assumption | refine Below.drew ?_ | refine bdn ?_ _ | refine bal ?_ _ | refine Below.setCell ?_ (by first | (simp; done) | omega | (simp; omega)) _))⟩
theorem r5Reach_c (M : MetD) (vF vS : Value) (A : Option Addr) (n c : Nat) (S : Tab) (P : Nat) (F : FliD) (vR : Value) (t : Int) (p : Nat) (w : World) (hc1 : n ≤ c) (hc2 : c ≤ 9223372036854775807) (hL : RecsAt w A n 3 (nV S)) (hR : SlI w vR F.m F.R) (hok : F.ok P (lgT S n)) (hN : NetOk P S n) (hMP : M.places = P) (hp8 : 1 ≤ P ∧ P ≤ 8) (hp : p < P) (h0 : F.dep ≤ t) (h1 : t ≤ F.at_ (lgT S n) (F.m - 1)) :
   Calls Tryz.prog 55 #[.agg #[.int .i64 M.places, .int .i64 M.any.a0, .int .i64 M.any.a1, .int .i64 M.any.a2, .int .i64 M.any.a3, .int .i64 M.any.a4, .int .i64 M.any.a5, .bool M.any.i, .bool M.any.s, .int .i64 M.mw, .int .i64 M.ms, .int .i64 M.mc, vF, vS], .slice A n c, .agg #[vR, .int .i64 F.dep, .int .i64 F.fuel, .int .i64 F.burn, .int .i64 F.res], .int .i64 t, .int .i64 p] w fun e w' => e = .returned (.tuple #[.int .i64 (F.refR (lgT S n) (timT S n P) t p).1, .bool (F.refR (lgT S n) (timT S n P) t p).2]) ∧ RowKit.Below w.heap.size w w' := by
  obtain ⟨hnu, hfl, hend⟩ := hok
  obtain ⟨hm, hd, -⟩ := FliD.nums_iff.1 hnu
  have hlb := FliD.legB_iff.2 hfl.2
  have hflc := fun w1 h1 h2 => r5flown_c A n c S P F vR w1 hc1 hc2 h1 h2 hN hm hd hfl.1
  rw [hlb] at hflc
  have htic := fun w1 h1 => r5times_c M vF vS A n c S P w1 hc1 hc2 h1 hN hMP hp8
  have hlin : LegIn P (lgT S n) := fun i j => by have := lgT_in hN n (Nat.le_refl _) i j; omega
  have hlp := lgT_pos hN
  have hjo := timT_joined hN
  have hti := timT_in hN hp8.2
  generalize lgT S n = lt at *
  generalize timT S n P = tt at *
  have hat := fun i (hi : i < F.m) => FliD.at_in hlin hd i ⟨fun j hj => hfl.1 j (by omega), fun j hj => hfl.2 j (by omega)⟩
  have HFL := Lib.hid hflc
  have HTI := Lib.hid htic
  have HRA := Lib.hid (fun k hk h1 => FliD.refR_at (F := F) (tt := tt) (t := t) (p := p) (k := k) hlp hfl h0 hk h1)
  have HRO := Lib.hid (fun k hk h1 h2 => FliD.refR_on (F := F) (tt := tt) (t := t) (p := p) (k := k) hlp hjo hp hfl h0 hk h1 h2)
  have HJ := Lib.hid hjo
  have HTT := Lib.hid hti.1
  have HFB := Lib.hid hfl
  have HAT := Lib.hid hat
  have HL := Lib.hid hL
  have HR := Lib.hid hR
  have HDP := Lib.hid h0
  obtain ⟨RR, hRR⟩ : ∃ q, q = F.refR lt tt t p := ⟨_, rfl⟩
  rw [← hRR]
  have HRR := Lib.hid hRR
  clear hRR
  obtain ⟨AR, cR, hvR, r1, r2, r3⟩ := hR
  obtain ⟨bR, oR, rfl, hbR, hcR⟩ := r3 (by omega)
  have HVR := Lib.hid hvR
  clear hvR
  have HCR := Lib.hid hcR
  clear hL hcR hti hjo hlp hlin hat hflc htic hlb hfl hnu hd hN hMP hend h0 r3
  go_enter Tryz.func55, Tryz.ntmps55
  go_wp2_with (fail)
  have _x := frm2 w #[.int .i64 M.places, .int .i64 M.any.a0, .int .i64 M.any.a1, .int .i64 M.any.a2, .int .i64 M.any.a3, .int .i64 M.any.a4, .int .i64 M.any.a5, .bool M.any.i, .bool M.any.s, .int .i64 M.mw, .int .i64 M.ms, .int .i64 M.mc, vF, vS] 29 #[vR, .int .i64 F.dep, .int .i64 F.fuel, .int .i64 F.burn, .int .i64 F.res] 37
  have HX := Lib.hid _x.1
  have HF := Lib.hid _x.2.1
  have HB := Lib.hid _x.2.2.1
  have zW := _x.2.2.2
  clear _x
  generalize World.alloc (World.alloc w _) _ = W at *
  go_wp2_with (refine wpl_row rfl 37 (.tmp 7) rfl _ rfl #[vR, .int .i64 F.dep, .int .i64 F.fuel, .int .i64 F.burn, .int .i64 F.res] 5 HF.out Tryz.rowFli rfl ?_; simp only [Act.put])
  refine (HFL.out _ (HL.out.below HB.out) (HR.out.below HB.out)).mono ?_
  rintro e w2 ⟨v, rfl, hb2, hv⟩
  have HSA := Lib.hid (hv (by trivial))
  obtain ⟨A2, c2, rfl, e2, e3, e4⟩ := HSA.out
  clear hv e4
  have nHX := Lib.hid (HX.out.below hb2)
  have nHF := Lib.hid (HF.out.below hb2)
  have nHB := Lib.hid (bthen HB.out hb2)
  clear HX HF HB hb2
  have HX := nHX
  have HF := nHF
  have HB := nHB
  clear nHX nHF nHB
  go_wp2_with (refine wpl_row rfl 29 (.tmp 5) rfl _ rfl #[.int .i64 M.places, .int .i64 M.any.a0, .int .i64 M.any.a1, .int .i64 M.any.a2, .int .i64 M.any.a3, .int .i64 M.any.a4, .int .i64 M.any.a5, .bool M.any.i, .bool M.any.s, .int .i64 M.mw, .int .i64 M.ms, .int .i64 M.mc, vF, vS] 14 HX.out Tryz.rowMet rfl ?_; simp only [Act.put])
  refine (HTI.out _ (HL.out.below HB.out)).mono ?_
  rintro e w3 ⟨v, rfl, hb3, hv⟩
  obtain ⟨gT, cT, lo, hi, rT, rfl, hs⟩ := hv
  have HSQ := Lib.hid hs
  have hsa := HSA.out.below hb3
  clear hs HSA
  obtain ⟨A3, c3, e5, -, -, e6⟩ := hsa
  simp only [Value.slice.injEq] at e5
  obtain ⟨rfl, -, rfl⟩ := e5
  obtain ⟨b2, o2, rfl, hbb, hc2⟩ := e6 (by omega)
  have HC := Lib.hid (fun j (hj : j < F.m) => show w3.cell? ⟨b2, o2 + j, none⟩ = some (.int .i64 (F.at_ lt j)) from by have := hc2 j hj 0 (by omega); rw [Nat.mul_one, Nat.add_zero] at this; exact this)
  clear hc2 e6 hbb
  have nHX := Lib.hid (HX.out.below hb3)
  have nHF := Lib.hid (HF.out.below hb3)
  have nHB := Lib.hid (bthen HB.out hb3)
  clear HX HF HB hb3
  have HX := nHX
  have HF := nHF
  have HB := nHB
  clear nHX nHF nHB
  have HCR2 := Lib.hid (fun j (hj : j < F.m) => show w3.cell? ⟨bR, oR + j, none⟩ = some (.int .i64 (F.R j)) from (HB.out.cell (p := ⟨bR, oR + j, none⟩) hbR).trans (by have := HCR.out j hj 0 (by omega); rw [Nat.mul_one, Nat.add_zero] at this; exact this))
  clear HCR HR HL HFL HTI
  have x0 := HF.out.cell 0
  simp only [List.getElem?_toArray, List.getElem?_cons_zero] at x0
  rw [HVR.out] at x0
  go_wp2_with (fail)
  go_loopg [15] F.m (fun gy iv wr => ∃ i : Nat, iv = .int .i64 i ∧ i < F.m ∧ F.m - i ≤ gy ∧ Hid (∀ j, j < i → F.at_ lt j < t) ∧ wr = w3)
  case atStart => exact ⟨0, rfl, by omega, Nat.sub_le _ _, Lib.hid (fun j hj => absurd hj (Nat.not_lt_zero _)), rfl⟩
  case round =>
    obtain ⟨i, rfl, hi, hgy, HLS, rfl⟩ := hrel
    have ca := HC.out i hi
    have hiz : (i : Int) < (F.m : Int) := by omega
    have hai := HAT.out i hi
    have hpz : (p : Int) < (P : Int) := by omega
    by_cases hc : F.at_ lt i < t
    case pos =>
      have him : i + 1 < F.m := by
        rcases Nat.lt_or_ge (i + 1) F.m with q | q
        · exact q
        · have e : F.m - 1 = i := by omega
          rw [e] at h1; omega
      have HLS2 := Lib.hid (fun j (hj : j < i + 1) => show F.at_ lt j < t by
        by_cases q : j = i
        · subst q; exact hc
        · exact HLS.out j (by omega))
      generalize F.at_ lt i = D at *
      go_wp2_with (fail)
      go_roundg (F.m - (i + 1))
      case measure => omega
      case rel => exact ⟨i + 1, by first | rfl | go_num | (congr 1; omega), him, Nat.le_refl _, HLS2, rfl⟩
    have hri := HFB.out.1 i hi
    obtain ⟨a, ha⟩ : ∃ a : Nat, F.R i = a := Int.eq_ofNat_of_zero_le hri.1
    have haP : a < P := by omega
    have haz : (a : Int) < (P : Int) := by omega
    have cr := HCR2.out i hi
    rw [ha] at cr
    obtain ⟨ca2, -, -, co⟩ := HSQ.out.o a haP
    have cc := HSQ.out.cell haP hp
    have hbu := HTT.out a haP p hp
    by_cases heq : F.at_ lt i = t
    case pos =>
      have hre := HRR.out.trans (HRA.out i hi heq)
      rw [ha, Int.toNat_natCast] at hre
      rw [heq] at ca hai
      generalize tt a p = u at *
      by_cases hu : 0 ≤ u
      · rw [if_pos hu] at hre
        have HE := Lib.hid hre
        clear hre
        go_wp2_with (fail)
        go_ret2
        exact ⟨by rw [HE.out]; rfl, HB.out⟩
      · rw [if_neg hu] at hre
        have HE := Lib.hid hre
        clear hre
        obtain rfl : u = -1 := by omega
        go_wp2_with (fail)
        go_ret2
        exact ⟨by rw [HE.out]; rfl, HB.out⟩
    obtain ⟨k, rfl⟩ : ∃ k, i = k + 1 := by
      rcases i with _ | k
      · exact absurd (show F.at_ lt 0 = t from by have := HDP.out; have e : F.at_ lt 0 = F.dep := rfl; omega) heq
      · exact ⟨k, rfl⟩
    have hkt := HLS.out k (by omega)
    have hre := HRR.out.trans (HRO.out k hi hkt (by omega))
    have hrk := HFB.out.1 k (by omega)
    obtain ⟨b, hb⟩ : ∃ b : Nat, F.R k = b := Int.eq_ofNat_of_zero_le hrk.1
    have hbP : b < P := by omega
    have hbz : (b : Int) < (P : Int) := by omega
    have crk := HCR2.out k (by omega)
    rw [hb] at crk
    have cak := HC.out k (by omega)
    have hak := HAT.out k (by omega)
    obtain ⟨cb2, -, -, cob⟩ := HSQ.out.o b hbP
    have ccb := HSQ.out.cell hbP hp
    have hbv := HTT.out b hbP p hp
    have hJ := HJ.out b a p hbP haP hp (by have := HFB.out.2 k hi; rw [hb, ha] at this; exact this)
    rw [ha, hb, Int.toNat_natCast, Int.toNat_natCast] at hre
    clear ha hb hri hrk
    have hk1 : (k : Int) + 1 - 1 = (k : Int) := by omega
    have hkm : (k : Int) < (F.m : Int) := by omega
    generalize tt a p = u at *
    generalize tt b p = v at *
    generalize F.at_ lt (k + 1) = D1 at *
    generalize F.at_ lt k = D0 at *
    have hwk : IntKind.i64.wrap ((k : Int) + 1 - 1) = (k : Int) := by rw [IntKind.wrap_i64]; omega
    by_cases hv : v < 0
    · rw [if_pos hv] at hre
      have HE := Lib.hid hre
      clear hre
      obtain rfl : v = -1 := by omega
      obtain rfl : u = -1 := by omega
      go_wp2_with (fail)
      go_ret2
      exact ⟨by rw [HE.out]; rfl, HB.out⟩
    rw [if_neg hv] at hre
    have hu : 0 ≤ u := hJ.1 (by omega)
    by_cases hcm : t + (t - D0) + v < D1 + u
    · rw [if_pos hcm] at hre
      have HE := Lib.hid (show RR = (v + (t + (t - D0)), true) by rw [hre]; congr 1; omega)
      clear hre
      have hcm2 : v + (t + (t - D0)) < u + D1 := by omega
      go_wp2_with (fail)
      go_ret2
      exact ⟨by rw [HE.out]; rfl, HB.out⟩
    · rw [if_neg hcm] at hre
      have HE := Lib.hid (show RR = (u + D1, false) by rw [hre]; congr 1; omega)
      clear hre
      have hcm2 : ¬ v + (t + (t - D0)) < u + D1 := by omega
      go_wp2_with (fail)
      go_ret2
      exact ⟨by rw [HE.out]; rfl, HB.out⟩
end Go.Proofs.YtbgkbdhdkpjcdaaGreat
