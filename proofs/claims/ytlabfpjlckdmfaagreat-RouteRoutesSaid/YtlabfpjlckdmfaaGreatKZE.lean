/- Texts joined: KZE. -/
import Derived.Test.YtlabfpjlckdmfaaGreatKZD
set_option linter.all false
namespace Go.Proofs.YtlabfpjlckdmfaaGreat
open Go Go.RowKit Go.Proofs
set_option maxRecDepth 100000
set_option maxHeartbeats 8000000
def opM (M : MetD) (lw ls lc : Int) (li lb : Bool) : Nat → Int → Bool := fun p a => openV M lw ls lc li lb (p : Int) a
def SlH (w : World) (v : Value) (l : List HavD) : Prop := ∃ A c, v = .slice A l.length c ∧ l.length ≤ c ∧ c ≤ 9223372036854775807 ∧ RecsAt w A l.length 3 (nHv (hvx l))
theorem SlH.below {w w' : World} {v : Value} {l : List HavD} (h : SlH w v l) (hb : RowKit.Below w.heap.size w w') : SlH w' v l := by
 obtain ⟨A, c, e, q1, q2, h⟩ := h
 exact ⟨A, c, e, q1, q2, h.below hb⟩
theorem SlH.of_owns {w : World} {base : Nat} {v : Value} {l : List HavD} (h : w.ownsRow base 67 3 v l.length (hvL l)) : SlH w v l := by
 rw [hvL_eq] at h
 exact RecsAt.of_owns (by omega) h
theorem Tryz.hvI : (Tryz.prog.info? 67).map (fun i => (i.zero.map (·.cells.size), i.size, decide (i.bytes ≤ 200))) = some (some 3, 3, true) := by kernel_rfl
theorem Tryz.hvU : Tryz.prog.underlying 93 = some (.slice 67) := by kernel_rfl
theorem wpl_appH {ops : Array Oper} {rest : List Oper} {o : Oper} {a : Act} {w : World} {Q : Exit → Act → World → Prop} (hgd : o.guard = none) (s x : Operand)
  (ho : o.op = .call { callee := .builtin .append, args := #[s, x], argTypes := #[93, 93] }) (base : Nat) (v : Value) (n : Nat) (xs : List Value) (hs : a.eval s = v) (hown : w.ownsRow base 67 3 v n xs)
  (g : Nat) (y0 y1 : Int) (y2 : Bool) (hx : a.eval x = .slice (some ⟨g, 0, none⟩) 1 1) (hc0 : w.cell? ⟨g, 0, none⟩ = some (.int .i64 y0)) (hc1 : w.cell? ⟨g, 1, none⟩ = some (.int .i64 y1)) (hc2 : w.cell? ⟨g, 2, none⟩ = some (.bool y2)) (h40 : n ≤ 3000) (hbase : base ≤ w.heap.size)
  (h : ∀ v' w', Hid (w'.ownsRow base 67 3 v' (n + 1) (xs ++ [.int .i64 y0, .int .i64 y1, .bool y2])) → Hid (w.grownBy w' v.ownBlock) → wpList Tryz.prog ops Q rest (a.put o.dst v') w') : wpList Tryz.prog ops Q (o :: rest) a w := by
 have hi := Tryz.hvI
 cases hI : Tryz.prog.info? 67 with
 | none => rw [hI] at hi; cases hi
 | some i =>
  rw [hI] at hi
  simp only [Option.map_some, Option.some.injEq, Prod.mk.injEq, decide_eq_true_eq] at hi
  obtain ⟨i1, i2, i3⟩ := hi
  cases hz : i.zero with
  | none => rw [hz] at i1; cases i1
  | some z =>
   rw [hz] at i1
   simp only [Option.map_some, Option.some.injEq] at i1
   have hb : (n + 1) * i.bytes ≤ 3001 * 200 := Nat.mul_le_mul (by omega) i3
   refine wpList_append_own w hgd s x 93 ho base 67 i z 3 i.bytes Tryz.hvU hI hz i2 rfl i1 (by decide) v n xs hs hown ⟨g, 0, none⟩ 1 1 [.int .i64 y0, .int .i64 y1, .bool y2] hx rfl ?_ ?_ (by unfold maxLen; omega) (by omega) hbase ?_
   ·intro j u hj
    match j, hj with
    | 0, hj =>
     have : u = .int .i64 y0 := by simpa using hj.symm
     subst this
     exact hc0
    | 1, hj =>
     have : u = .int .i64 y1 := by simpa using hj.symm
     subst this
     exact hc1
    | 2, hj =>
     have : u = .bool y2 := by simpa using hj.symm
     subst this
     exact hc2
   ·intro u hu
    simp only [List.mem_cons, List.not_mem_nil, or_false] at hu
    rcases hu with rfl | rfl | rfl <;> rfl
   ·intro v' w' h1 h2 _
    exact h v' w' (hI9 h1) (hI9 h2)
structure HvK (l : List HavD) (vO : Value) (w wr : World) : Prop where
 b : RowKit.Below w.heap.size w wr
 o : wr.ownsRow w.heap.size 67 3 vO l.length (hvL l)
theorem HvK.below {l : List HavD} {vO : Value} {w wr w2 : World} (h : HvK l vO w wr) (hb : RowKit.Below wr.heap.size wr w2) : HvK l vO w w2 := ⟨bthen h.b hb, ownsRow_below h.o hb⟩
theorem HvK.app {l : List HavD} {vO v2 : Value} {w wr w2 : World} {x : HavD} (h : HvK l vO w wr) (ho : w2.ownsRow w.heap.size 67 3 v2 (l.length + 1) (hvL l ++ [.int .i64 x.p, .int .i64 x.t, .bool x.b])) (hg : wr.grownBy w2 vO.ownBlock) : HvK (l ++ [x]) v2 w w2 :=
 ⟨h.b.trans (belowGrew hg h.b.size (fun b q => (ownLt h.o q).1)), by rw [hvL_snoc, List.length_append]; exact ho⟩
theorem fhavens_c (M : MetD) (vF vS v vN : Value) (P : Nat) (lt tt : Tab) (F : FliD) (vR : Value) (lw ls lc : Int) (li lb : Bool) (t : Int) (dry : Bool) (w : World) (h : FliAt w v vN M vF vS P lt tt F vR lw ls lc li lb) (hM : MetAt w vF vS M) (hP : M.places = P) (hp8 : P ≤ 8) (hok : F.ok P lt) (hl : LegIn P lt) (htt : TabIn P 51200 tt) (h0 : F.dep ≤ t) (h1 : t ≤ F.at_ lt (F.m - 1)) :
  Calls Tryz.prog 45 #[v, .int .i64 t, .bool dry] w fun e w' => ∃ vO, e = .returned vO ∧ RowKit.Below w.heap.size w w' ∧ SlH w' vO (F.havK lt tt (opM M lw ls lc li lb) t dry P) := by
 have hopn := fun (k : Nat) a b w1 h hm => fopen_c M vF vS v vN P lt tt F vR lw ls lc li lb (k : Int) a b w1 h hm
 have hnu := hok.1
 have hlas := fun a ha w1 h => lasts_c M vF vS v vN P lt tt F vR lw ls lc li lb a w1 h hnu ha
 have hrea := fun (k : Nat) hk w1 h => reach_c M vF vS v vN P lt tt F vR lw ls lc li lb t k w1 h hok hl htt hk h0 h1
 have hrin := fun (k : Nat) hk => FliD.reach_in (F := F) (t := t) (p := k) hok hl htt hk h0 h1
 have HF := hI9 h
 have HM := hI9 hM
 obtain ⟨gx, vA, rfl, hx, hN, -⟩ := h
 obtain ⟨gN, gL, gT, cL, cT, rL, rT, loL, hiL, loT, hiT, rfl, n1, -, -⟩ := hN
 have x0 := hx.cell 0
 have n0 := n1.cell 0
 simp only [List.getElem?_toArray, List.getElem?_cons_zero] at x0 n0
 rw [hP] at n0
 obtain ⟨op, hop⟩ : ∃ op : Nat → Int → Bool, op = opM M lw ls lc li lb := ⟨_, rfl⟩
 rw [← hop]
 have HOPE := hI9 (fun (k : Nat) a => show openV M lw ls lc li lb (k : Int) a = op k a by rw [hop]; rfl)
 have HOPN := hI9 hopn
 have HLAS := hI9 hlas
 have HREA := hI9 hrea
 have HRIN := hI9 hrin
 clear hP hx n1 hop hopn hlas hrea hrin hok hl htt hM h0 h1 hnu
 go_enter Tryz.func45, Tryz.ntmps45
 go_wp2_with (fail)
 go_loopg [6, 18] P (fun gy ov iv wr => ∃ k : Nat, iv = .int .i64 k ∧ k ≤ P ∧ P - k ≤ gy ∧ Hid (HvK (F.havK lt tt op t dry k) ov w wr))
 case atStart => exact ⟨0, rfl, Nat.zero_le _, Nat.le_refl _, hI9 ⟨RowKit.Below.refl _ _, World.ownsRow_nil _ _ _ _⟩⟩
 case round =>
  clear x0 n0
  obtain ⟨k, rfl, hk, hgy, K0⟩ := hrel
  by_cases hlt : k < P
  case pos =>
   have hltz : (k : Int) < (P : Int) := by omega
   have hre := HREA.out k hlt wr (HF.out.below K0.out.b)
   have hri := HRIN.out k hlt
   rcases hrv : F.reach lt tt t k with ⟨ra, rb, rc⟩
   rw [hrv] at hre hri
   dsimp only at hre hri
   have HRV := hI9 hrv
   clear hrv
   have HLA := hI9 (fun w1 h => HLAS.out ra (by omega) w1 h)
   have hop := fun w1 h hm => HOPN.out k ra rb w1 h hm
   rw [HOPE.out k ra] at hop
   go_wp2_with (fail)
   refine hre.mono ?_
   clear hre
   rintro e w2 ⟨rfl, hb2⟩
   have HR3 := hI9 (bal hb2 (.cells #[.int .i64 (k : Int), .int .i64 ra, .bool rb] 67))
   have HH := hI9 (Blk.new w2 67 #[.int .i64 (k : Int), .int .i64 ra, .bool rb])
   clear hb2
   cases rc
   case false =>
    have HV := hI9 (show F.havK lt tt op t dry (k + 1) = F.havK lt tt op t dry k from if_neg (by unfold FliD.havB; rw [HRV.out]; simp [Bool.false_and]))
    go_wp2_with (first | (go_at_call 66; refine (HOP.out _ (HF.out.below (bthen K0.out.b HR3.out)) (HM.out.below (bthen K0.out.b HR3.out))).mono ?_; rintro e w4 ⟨rfl, hb4⟩; have HH4 := hI9 (HH.out.below hb4); have HR4 := hI9 (bthen HR3.out hb4); clear hb4 HH HR3; have y0 := HH4.out.cell 0; have y1 := HH4.out.cell 1; have y2 := HH4.out.cell 2; simp only [gtA, gtS, gtZ] at y0 y1 y2) | (go_at_call 67; refine (HLA.out _ (HF.out.below (bthen K0.out.b HR4.out))).mono ?_; rintro e w5 ⟨rfl, hb5⟩; have HH5 := hI9 (HH4.out.below hb5); have HR5 := hI9 (bthen HR4.out hb5); clear hb5 y0 y1 y2 HH4 HR4; have y0 := HH5.out.cell 0; have y1 := HH5.out.cell 1; have y2 := HH5.out.cell 2; simp only [gtA, gtS, gtZ] at y0 y1 y2))
    go_roundg (P - (k + 1))
    case measure => omega
    case rel => exact ⟨k + 1, by first | rfl | go_num | (congr 1; omega), by omega, Nat.le_refl _, hI9 (by rw [HV.out]; exact K0.out.below HR3.out)⟩
   cases ho : op k ra
   case false =>
    rw [ho] at hop
    have HOP := hI9 hop
    clear hop
    have HV := hI9 (show F.havK lt tt op t dry (k + 1) = F.havK lt tt op t dry k from if_neg (by unfold FliD.havB; rw [HRV.out]; simp [ho]))
    go_wp2_with (first | (go_at_call 66; refine (HOP.out _ (HF.out.below (bthen K0.out.b HR3.out)) (HM.out.below (bthen K0.out.b HR3.out))).mono ?_; rintro e w4 ⟨rfl, hb4⟩; have HH4 := hI9 (HH.out.below hb4); have HR4 := hI9 (bthen HR3.out hb4); clear hb4 HH HR3; have y0 := HH4.out.cell 0; have y1 := HH4.out.cell 1; have y2 := HH4.out.cell 2; simp only [gtA, gtS, gtZ] at y0 y1 y2) | (go_at_call 67; refine (HLA.out _ (HF.out.below (bthen K0.out.b HR4.out))).mono ?_; rintro e w5 ⟨rfl, hb5⟩; have HH5 := hI9 (HH4.out.below hb5); have HR5 := hI9 (bthen HR4.out hb5); clear hb5 y0 y1 y2 HH4 HR4; have y0 := HH5.out.cell 0; have y1 := HH5.out.cell 1; have y2 := HH5.out.cell 2; simp only [gtA, gtS, gtZ] at y0 y1 y2))
    go_roundg (P - (k + 1))
    case measure => omega
    case rel => exact ⟨k + 1, by first | rfl | go_num | (congr 1; omega), by omega, Nat.le_refl _, hI9 (by rw [HV.out]; exact K0.out.below HR4.out)⟩
   rw [ho] at hop
   have HOP := hI9 hop
   clear hop
   cases dry
   case true =>
    have HV := hI9 (show F.havK lt tt op t true (k + 1) = F.havK lt tt op t true k ++ [⟨k, ra, rb⟩] from (if_pos (by unfold FliD.havB; rw [HRV.out]; simp [ho])).trans (by unfold FliD.hav1; rw [HRV.out]))
    have hlen := FliD.havK_len (F := F) (lt := lt) (tt := tt) (op := op) (t := t) (dry := true) k
    go_wp2_with (first | (go_at_call 66; refine (HOP.out _ (HF.out.below (bthen K0.out.b HR3.out)) (HM.out.below (bthen K0.out.b HR3.out))).mono ?_; rintro e w4 ⟨rfl, hb4⟩; have HH4 := hI9 (HH.out.below hb4); have HR4 := hI9 (bthen HR3.out hb4); clear hb4 HH HR3; have y0 := HH4.out.cell 0; have y1 := HH4.out.cell 1; have y2 := HH4.out.cell 2; simp only [gtA, gtS, gtZ] at y0 y1 y2) | (go_at_call 67; refine (HLA.out _ (HF.out.below (bthen K0.out.b HR4.out))).mono ?_; rintro e w5 ⟨rfl, hb5⟩; have HH5 := hI9 (HH4.out.below hb5); have HR5 := hI9 (bthen HR4.out hb5); clear hb5 y0 y1 y2 HH4 HR4; have y0 := HH5.out.cell 0; have y1 := HH5.out.cell 1; have y2 := HH5.out.cell 2; simp only [gtA, gtS, gtZ] at y0 y1 y2) | (at_builtin; refine wpl_appH rfl _ _ rfl w.heap.size u6 (F.havK lt tt op t true k).length _ rfl (ownsRow_below (K0.out.below HR4.out).o (bal (RowKit.Below.refl _ _) _)) w4.heap.size (k : Int) ra rb rfl ?a1 ?c1 ?d1 (by omega) ?b1 ?_))
    (try case a1 => exact (Blk.new _ _ _).cell 0)
    (try case c1 => exact (Blk.new _ _ _).cell 1)
    (try case d1 => exact (Blk.new _ _ _).cell 2)
    case b1 => have := K0.out.b.size; have := HR4.out.size; simp; omega
    intro v' w6 ho hg
    have nK := hI9 (HvK.app (x := ⟨k, ra, rb⟩) ((K0.out.below HR4.out).below (bal (RowKit.Below.refl _ _) _)) ho.out hg.out)
    go_wp2_with (fail)
    go_roundg (P - (k + 1))
    case measure => omega
    case rel => exact ⟨k + 1, by first | rfl | go_num | (congr 1; omega), by omega, Nat.le_refl _, hI9 (by rw [HV.out]; exact nK.out)⟩
   have hla := HLA.out
   cases hl : F.lasts ra
   case false =>
    rw [hl] at hla
    clear HLA
    have HLA := hI9 hla
    clear hla
    have HV := hI9 (show F.havK lt tt op t false (k + 1) = F.havK lt tt op t false k from if_neg (by unfold FliD.havB; rw [HRV.out]; simp [ho, hl]))
    go_wp2_with (first | (go_at_call 66; refine (HOP.out _ (HF.out.below (bthen K0.out.b HR3.out)) (HM.out.below (bthen K0.out.b HR3.out))).mono ?_; rintro e w4 ⟨rfl, hb4⟩; have HH4 := hI9 (HH.out.below hb4); have HR4 := hI9 (bthen HR3.out hb4); clear hb4 HH HR3; have y0 := HH4.out.cell 0; have y1 := HH4.out.cell 1; have y2 := HH4.out.cell 2; simp only [gtA, gtS, gtZ] at y0 y1 y2) | (go_at_call 67; refine (HLA.out _ (HF.out.below (bthen K0.out.b HR4.out))).mono ?_; rintro e w5 ⟨rfl, hb5⟩; have HH5 := hI9 (HH4.out.below hb5); have HR5 := hI9 (bthen HR4.out hb5); clear hb5 y0 y1 y2 HH4 HR4; have y0 := HH5.out.cell 0; have y1 := HH5.out.cell 1; have y2 := HH5.out.cell 2; simp only [gtA, gtS, gtZ] at y0 y1 y2))
    go_roundg (P - (k + 1))
    case measure => omega
    case rel => exact ⟨k + 1, by first | rfl | go_num | (congr 1; omega), by omega, Nat.le_refl _, hI9 (by rw [HV.out]; exact K0.out.below HR5.out)⟩
   rw [hl] at hla
   clear HLA
   have HLA := hI9 hla
   clear hla
   have HV := hI9 (show F.havK lt tt op t false (k + 1) = F.havK lt tt op t false k ++ [⟨k, ra, rb⟩] from (if_pos (by unfold FliD.havB; rw [HRV.out]; simp [ho, hl])).trans (by unfold FliD.hav1; rw [HRV.out]))
   have hlen := FliD.havK_len (F := F) (lt := lt) (tt := tt) (op := op) (t := t) (dry := false) k
   go_wp2_with (first | (go_at_call 66; refine (HOP.out _ (HF.out.below (bthen K0.out.b HR3.out)) (HM.out.below (bthen K0.out.b HR3.out))).mono ?_; rintro e w4 ⟨rfl, hb4⟩; have HH4 := hI9 (HH.out.below hb4); have HR4 := hI9 (bthen HR3.out hb4); clear hb4 HH HR3; have y0 := HH4.out.cell 0; have y1 := HH4.out.cell 1; have y2 := HH4.out.cell 2; simp only [gtA, gtS, gtZ] at y0 y1 y2) | (go_at_call 67; refine (HLA.out _ (HF.out.below (bthen K0.out.b HR4.out))).mono ?_; rintro e w5 ⟨rfl, hb5⟩; have HH5 := hI9 (HH4.out.below hb5); have HR5 := hI9 (bthen HR4.out hb5); clear hb5 y0 y1 y2 HH4 HR4; have y0 := HH5.out.cell 0; have y1 := HH5.out.cell 1; have y2 := HH5.out.cell 2; simp only [gtA, gtS, gtZ] at y0 y1 y2) | (at_builtin; refine wpl_appH rfl _ _ rfl w.heap.size u6 (F.havK lt tt op t false k).length _ rfl (ownsRow_below (K0.out.below HR5.out).o (bal (RowKit.Below.refl _ _) _)) w5.heap.size (k : Int) ra rb rfl ?a2 ?c2 ?d2 (by omega) ?b2 ?_))
   (try case a2 => exact (Blk.new _ _ _).cell 0)
   (try case c2 => exact (Blk.new _ _ _).cell 1)
   (try case d2 => exact (Blk.new _ _ _).cell 2)
   case b2 => have := K0.out.b.size; have := HR5.out.size; simp; omega
   intro v' w6 ho hg
   have nK := hI9 (HvK.app (x := ⟨k, ra, rb⟩) ((K0.out.below HR5.out).below (bal (RowKit.Below.refl _ _) _)) ho.out hg.out)
   go_wp2_with (fail)
   go_roundg (P - (k + 1))
   case measure => omega
   case rel => exact ⟨k + 1, by first | rfl | go_num | (congr 1; omega), by omega, Nat.le_refl _, hI9 (by rw [HV.out]; exact nK.out)⟩
  obtain rfl : k = P := by omega
  go_wp2_with (fail)
  go_ret
  exact ⟨_, rfl, K0.out.b, SlH.of_owns K0.out.o⟩
end Go.Proofs.YtlabfpjlckdmfaaGreat
