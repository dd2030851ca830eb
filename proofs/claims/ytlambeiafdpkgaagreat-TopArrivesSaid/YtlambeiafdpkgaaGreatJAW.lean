/- Texts joined: JAW. -/
import Derived.Test.YtlambeiafdpkgaaGreatJAV
import Derived.Test.YtlambeiafdpkgaaGreatJAU
set_option linter.all false
namespace Go.Proofs.YtlambeiafdpkgaaGreat
open Go Go.RowKit Go.Proofs
set_option maxRecDepth 100000
set_option maxHeartbeats 8000000
def opM (M : MetD) (lw ls lc : Int) (li lb : Bool) : Nat → Int → Bool := fun p a => openV M lw ls lc li lb (p : Int) a
def SlH (w : World) (v : Value) (l : List HavD) : Prop := ∃ A c, v = .slice A l.length c ∧ l.length ≤ c ∧ c ≤ 9223372036854775807 ∧ RecsAt w A l.length 3 (nHv (hvx l))
theorem SlH.below {w w' : World} {v : Value} {l : List HavD} (h : SlH w v l) (hb : RowKit.Below w.heap.size w w') : SlH w' v l := by
 obtain ⟨A, c, e, q1, q2, h⟩ := h
 exact ⟨A, c, e, q1, q2, h.below hb⟩
theorem SlH.of_owns {w : World} {base : Nat} {v : Value} {l : List HavD} (h : w.ownsRow base 80 3 v l.length (hvL l)) : SlH w v l := by
 rw [hvL_eq] at h
 exact RecsAt.of_owns (by omega) h
theorem Tryz.hvI : (Tryz.prog.info? 80).map (fun i => (i.zero.map (·.cells.size), i.size, decide (i.bytes ≤ 200))) = some (some 3, 3, true) := by kernel_rfl
theorem Tryz.hvU : Tryz.prog.underlying 123 = some (.slice 80) := by kernel_rfl
theorem wpl_appH {ops : Array Oper} {rest : List Oper} {o : Oper} {a : Act} {w : World} {Q : Exit → Act → World → Prop} (hgd : o.guard = none) (s x : Operand)
  (ho : o.op = .call { callee := .builtin .append, args := #[s, x], argTypes := #[123, 123] }) (base : Nat) (v : Value) (n : Nat) (xs : List Value) (hs : a.eval s = v) (hown : w.ownsRow base 80 3 v n xs)
  (g : Nat) (y0 y1 : Int) (y2 : Bool) (hx : a.eval x = .slice (some ⟨g, 0, none⟩) 1 1) (hc0 : w.cell? ⟨g, 0, none⟩ = some (.int .i64 y0)) (hc1 : w.cell? ⟨g, 1, none⟩ = some (.int .i64 y1)) (hc2 : w.cell? ⟨g, 2, none⟩ = some (.bool y2)) (h40 : n ≤ 3000) (hbase : base ≤ w.heap.size)
  (h : ∀ v' w', Hid (w'.ownsRow base 80 3 v' (n + 1) (xs ++ [.int .i64 y0, .int .i64 y1, .bool y2])) → Hid (w.grownBy w' v.ownBlock) → wpList Tryz.prog ops Q rest (a.put o.dst v') w') : wpList Tryz.prog ops Q (o :: rest) a w := by
 have hi := Tryz.hvI
 cases hI : Tryz.prog.info? 80 with
 | none => rw [hI] at hi; cases hi
 | some i =>
  rw [hI] at hi
  simp only [Option.map_some, Option.some.injEq, Prod.mk.injEq, decide_eq_true_eq] at hi
  obtain ⟨i1, i2, i3⟩ := hi
  cases hz : i.zero with
  | none => rw [hz] at i1; cases i1
  | some z =>
   rw [hz] at i1
   simp only [Option.map_some, Option.some.injEq] at i1
   have hb : (n + 1) * i.bytes ≤ 3001 * 200 := Nat.mul_le_mul (by omega) i3
   refine wpList_append_own w hgd s x 123 ho base 80 i z 3 i.bytes Tryz.hvU hI hz i2 rfl i1 (by decide) v n xs hs hown ⟨g, 0, none⟩ 1 1 [.int .i64 y0, .int .i64 y1, .bool y2] hx rfl ?_ ?_ (by unfold maxLen; omega) (by omega) hbase ?_
   ·intro j u hj
    match j, hj with
    | 0, hj =>
     have : u = .int .i64 y0 := by simpa using hj.symm
     subst this
     exact hc0
    | 1, hj =>
     have : u = .int .i64 y1 := by simpa using hj.symm
     subst this
     exact hc1
    | 2, hj =>
     have : u = .bool y2 := by simpa using hj.symm
     subst this
     exact hc2
   ·intro u hu
    simp only [List.mem_cons, List.not_mem_nil, or_false] at hu
    rcases hu with rfl | rfl | rfl <;> rfl
   ·intro v' w' h1 h2 _
    exact h v' w' (hI9 h1) (hI9 h2)
structure HvK (l : List HavD) (vO : Value) (w wr : World) : Prop where
 b : RowKit.Below w.heap.size w wr
 o : wr.ownsRow w.heap.size 80 3 vO l.length (hvL l)
theorem HvK.below {l : List HavD} {vO : Value} {w wr w2 : World} (h : HvK l vO w wr) (hb : RowKit.Below wr.heap.size wr w2) : HvK l vO w w2 := ⟨bthen h.b hb, ownsRow_below h.o hb⟩
theorem HvK.app {l : List HavD} {vO v2 : Value} {w wr w2 : World} {x : HavD} (h : HvK l vO w wr) (ho : w2.ownsRow w.heap.size 80 3 v2 (l.length + 1) (hvL l ++ [.int .i64 x.p, .int .i64 x.t, .bool x.b])) (hg : wr.grownBy w2 vO.ownBlock) : HvK (l ++ [x]) v2 w w2 :=
 ⟨h.b.trans (belowGrew hg h.b.size (fun b q => (ownLt h.o q).1)), by rw [hvL_snoc, List.length_append]; exact ho⟩
theorem fhavens_c (M : MetD) (vF vS v vN : Value) (P : Nat) (lt tt : Tab) (F : FliD) (vR : Value) (lw ls lc : Int) (li lb : Bool) (t : Int) (dry : Bool) (w : World) (h : FliAt w v vN M vF vS P lt tt F vR lw ls lc li lb) (hM : MetAt w vF vS M) (hP : M.places = P) (hp8 : P ≤ 8) (hok : F.ok P lt) (hl : LegIn P lt) (htt : TabIn P 51200 tt) (h0 : F.dep ≤ t) (h1 : t ≤ F.at_ lt (F.m - 1)) :
  Calls Tryz.prog 44 #[v, .int .i64 t, .bool dry] w fun e w' => ∃ vO, e = .returned vO ∧ RowKit.Below w.heap.size w w' ∧ SlH w' vO (F.havK lt tt (opM M lw ls lc li lb) t dry P) := by
 have hopn := fun (k : Nat) a b w1 h hm => fopen_c M vF vS v vN P lt tt F vR lw ls lc li lb (k : Int) a b w1 h hm
 have hnu := hok.1
 have hlas := fun a ha w1 h => lasts_c M vF vS v vN P lt tt F vR lw ls lc li lb a w1 h hnu ha
 have hrea := fun (k : Nat) hk w1 h => reach_c M vF vS v vN P lt tt F vR lw ls lc li lb t k w1 h hok hl htt hk h0 h1
 have hrin := fun (k : Nat) hk => FliD.reach_in (F := F) (t := t) (p := k) hok hl htt hk h0 h1
 have HF := hI9 h
 have HM := hI9 hM
 obtain ⟨gx, vA, rfl, hx, hN, -⟩ := h
 obtain ⟨gN, gL, gT, cL, cT, rL, rT, loL, hiL, loT, hiT, rfl, n1, -, -⟩ := hN
 have x0 := hx.cell 0
 have n0 := n1.cell 0
 simp only [List.getElem?_toArray, List.getElem?_cons_zero] at x0 n0
 rw [hP] at n0
 obtain ⟨op, hop⟩ : ∃ op : Nat → Int → Bool, op = opM M lw ls lc li lb := ⟨_, rfl⟩
 rw [← hop]
 have HOPE := hI9 (fun (k : Nat) a => show openV M lw ls lc li lb (k : Int) a = op k a by rw [hop]; rfl)
 have HOPN := hI9 hopn
 have HLAS := hI9 hlas
 have HREA := hI9 hrea
 have HRIN := hI9 hrin
 clear hP hx n1 hop hopn hlas hrea hrin hok hl htt hM h0 h1 hnu
 go_enter Tryz.func44, Tryz.ntmps44
 go_wp2_with (fail)
 go_loopg [6, 18] P (fun gy ov iv wr => ∃ k : Nat, iv = .int .i64 k ∧ k ≤ P ∧ P - k ≤ gy ∧ Hid (HvK (F.havK lt tt op t dry k) ov w wr))
 case atStart => exact ⟨0, rfl, Nat.zero_le _, Nat.le_refl _, hI9 ⟨RowKit.Below.refl _ _, World.ownsRow_nil _ _ _ _⟩⟩
 case round =>
  clear x0 n0
  obtain ⟨k, rfl, hk, hgy, K0⟩ := hrel
  by_cases hlt : k < P
  case pos =>
   have hltz : (k : Int) < (P : Int) := by omega
   have hre := HREA.out k hlt wr (HF.out.below K0.out.b)
   have hri := HRIN.out k hlt
   rcases hrv : F.reach lt tt t k with ⟨ra, rb, rc⟩
   rw [hrv] at hre hri
   dsimp only at hre hri
   have HRV := hI9 hrv
   clear hrv
   have HLA := hI9 (fun w1 h => HLAS.out ra (by omega) w1 h)
   have hop := fun w1 h hm => HOPN.out k ra rb w1 h hm
   rw [HOPE.out k ra] at hop
   go_wp2_with (fail)
   refine hre.mono ?_
   clear hre
   rintro e w2 ⟨rfl, hb2⟩
   have HR3 := hI9 (bal hb2 (.cells #[.int .i64 (k : Int), .int .i64 ra, .bool rb] 80))
   have HH := hI9 (Blk.new w2 80 #[.int .i64 (k : Int), .int .i64 ra, .bool rb])
   clear hb2
   cases rc
   case false =>
    have HV := hI9 (show F.havK lt tt op t dry (k + 1) = F.havK lt tt op t dry k from if_neg (by unfold FliD.havB; rw [HRV.out]; simp [Bool.false_and]))
    go_wp2_with (first | (go_at_call 90; refine (HOP.out _ (HF.out.below (bthen K0.out.b HR3.out)) (HM.out.below (bthen K0.out.b HR3.out))).mono ?_; rintro e w4 ⟨rfl, hb4⟩; have HH4 := hI9 (HH.out.below hb4); have HR4 := hI9 (bthen HR3.out hb4); clear hb4 HH HR3; have y0 := HH4.out.cell 0; have y1 := HH4.out.cell 1; have y2 := HH4.out.cell 2; simp only [gtA, gtS, gtZ] at y0 y1 y2) | (go_at_call 91; refine (HLA.out _ (HF.out.below (bthen K0.out.b HR4.out))).mono ?_; rintro e w5 ⟨rfl, hb5⟩; have HH5 := hI9 (HH4.out.below hb5); have HR5 := hI9 (bthen HR4.out hb5); clear hb5 y0 y1 y2 HH4 HR4; have y0 := HH5.out.cell 0; have y1 := HH5.out.cell 1; have y2 := HH5.out.cell 2; simp only [gtA, gtS, gtZ] at y0 y1 y2))
    go_roundg (P - (k + 1))
    case measure => omega
    case rel => exact ⟨k + 1, by first | rfl | go_num | (congr 1; omega), by omega, Nat.le_refl _, hI9 (by rw [HV.out]; exact K0.out.below HR3.out)⟩
   cases ho : op k ra
   case false =>
    rw [ho] at hop
    have HOP := hI9 hop
    clear hop
    have HV := hI9 (show F.havK lt tt op t dry (k + 1) = F.havK lt tt op t dry k from if_neg (by unfold FliD.havB; rw [HRV.out]; simp [ho]))
    go_wp2_with (first | (go_at_call 90; refine (HOP.out _ (HF.out.below (bthen K0.out.b HR3.out)) (HM.out.below (bthen K0.out.b HR3.out))).mono ?_; rintro e w4 ⟨rfl, hb4⟩; have HH4 := hI9 (HH.out.below hb4); have HR4 := hI9 (bthen HR3.out hb4); clear hb4 HH HR3; have y0 := HH4.out.cell 0; have y1 := HH4.out.cell 1; have y2 := HH4.out.cell 2; simp only [gtA, gtS, gtZ] at y0 y1 y2) | (go_at_call 91; refine (HLA.out _ (HF.out.below (bthen K0.out.b HR4.out))).mono ?_; rintro e w5 ⟨rfl, hb5⟩; have HH5 := hI9 (HH4.out.below hb5); have HR5 := hI9 (bthen HR4.out hb5); clear hb5 y0 y1 y2 HH4 HR4; have y0 := HH5.out.cell 0; have y1 := HH5.out.cell 1; have y2 := HH5.out.cell 2; simp only [gtA, gtS, gtZ] at y0 y1 y2))
    go_roundg (P - (k + 1))
    case measure => omega
    case rel => exact ⟨k + 1, by first | rfl | go_num | (congr 1; omega), by omega, Nat.le_refl _, hI9 (by rw [HV.out]; exact K0.out.below HR4.out)⟩
   rw [ho] at hop
   have HOP := hI9 hop
   clear hop
   cases dry
   case true =>
    have HV := hI9 (show F.havK lt tt op t true (k + 1) = F.havK lt tt op t true k ++ [⟨k, ra, rb⟩] from (if_pos (by unfold FliD.havB; rw [HRV.out]; simp [ho])).trans (by unfold FliD.hav1; rw [HRV.out]))
    have hlen := FliD.havK_len (F := F) (lt := lt) (tt := tt) (op := op) (t := t) (dry := true) k
    go_wp2_with (first | (go_at_call 90; refine (HOP.out _ (HF.out.below (bthen K0.out.b HR3.out)) (HM.out.below (bthen K0.out.b HR3.out))).mono ?_; rintro e w4 ⟨rfl, hb4⟩; have HH4 := hI9 (HH.out.below hb4); have HR4 := hI9 (bthen HR3.out hb4); clear hb4 HH HR3; have y0 := HH4.out.cell 0; have y1 := HH4.out.cell 1; have y2 := HH4.out.cell 2; simp only [gtA, gtS, gtZ] at y0 y1 y2) | (go_at_call 91; refine (HLA.out _ (HF.out.below (bthen K0.out.b HR4.out))).mono ?_; rintro e w5 ⟨rfl, hb5⟩; have HH5 := hI9 (HH4.out.below hb5); have HR5 := hI9 (bthen HR4.out hb5); clear hb5 y0 y1 y2 HH4 HR4; have y0 := HH5.out.cell 0; have y1 := HH5.out.cell 1; have y2 := HH5.out.cell 2; simp only [gtA, gtS, gtZ] at y0 y1 y2) | (at_builtin; refine wpl_appH rfl _ _ rfl w.heap.size u6 (F.havK lt tt op t true k).length _ rfl (ownsRow_below (K0.out.below HR4.out).o (bal (RowKit.Below.refl _ _) _)) w4.heap.size (k : Int) ra rb rfl ?a1 ?c1 ?d1 (by omega) ?b1 ?_))
    (try case a1 => exact (Blk.new _ _ _).cell 0)
    (try case c1 => exact (Blk.new _ _ _).cell 1)
    (try case d1 => exact (Blk.new _ _ _).cell 2)
    case b1 => have := K0.out.b.size; have := HR4.out.size; simp; omega
    intro v' w6 ho hg
    have nK := hI9 (HvK.app (x := ⟨k, ra, rb⟩) ((K0.out.below HR4.out).below (bal (RowKit.Below.refl _ _) _)) ho.out hg.out)
    go_wp2_with (fail)
    go_roundg (P - (k + 1))
    case measure => omega
    case rel => exact ⟨k + 1, by first | rfl | go_num | (congr 1; omega), by omega, Nat.le_refl _, hI9 (by rw [HV.out]; exact nK.out)⟩
   have hla := HLA.out
   cases hl : F.lasts ra
   case false =>
    rw [hl] at hla
    clear HLA
    have HLA := hI9 hla
    clear hla
    have HV := hI9 (show F.havK lt tt op t false (k + 1) = F.havK lt tt op t false k from if_neg (by unfold FliD.havB; rw [HRV.out]; simp [ho, hl]))
    go_wp2_with (first | (go_at_call 90; refine (HOP.out _ (HF.out.below (bthen K0.out.b HR3.out)) (HM.out.below (bthen K0.out.b HR3.out))).mono ?_; rintro e w4 ⟨rfl, hb4⟩; have HH4 := hI9 (HH.out.below hb4); have HR4 := hI9 (bthen HR3.out hb4); clear hb4 HH HR3; have y0 := HH4.out.cell 0; have y1 := HH4.out.cell 1; have y2 := HH4.out.cell 2; simp only [gtA, gtS, gtZ] at y0 y1 y2) | (go_at_call 91; refine (HLA.out _ (HF.out.below (bthen K0.out.b HR4.out))).mono ?_; rintro e w5 ⟨rfl, hb5⟩; have HH5 := hI9 (HH4.out.below hb5); have HR5 := hI9 (bthen HR4.out hb5); clear hb5 y0 y1 y2 HH4 HR4; have y0 := HH5.out.cell 0; have y1 := HH5.out.cell 1; have y2 := HH5.out.cell 2; simp only [gtA, gtS, gtZ] at y0 y1 y2))
    go_roundg (P - (k + 1))
    case measure => omega
    case rel => exact ⟨k + 1, by first | rfl | go_num | (congr 1; omega), by omega, Nat.le_refl _, hI9 (by rw [HV.out]; exact K0.out.below HR5.out)⟩
   rw [hl] at hla
   clear HLA
   have HLA := hI9 hla
   clear hla
   have HV := hI9 (show F.havK lt tt op t false (k + 1) = F.havK lt tt op t false k ++ [⟨k, ra, rb⟩] from (if_pos (by unfold FliD.havB; rw [HRV.out]; simp [ho, hl])).trans (by unfold FliD.hav1; rw [HRV.out]))
   have hlen := FliD.havK_len (F := F) (lt := lt) (tt := tt) (op := op) (t := t) (dry := false) k
   go_wp2_with (first | (go_at_call 90; refine (HOP.out _ (HF.out.below (bthen K0.out.b HR3.out)) (HM.out.below (bthen K0.out.b HR3.out))).mono ?_; rintro e w4 ⟨rfl, hb4⟩; have HH4 := hI9 (HH.out.below hb4); have HR4 := hI9 (bthen HR3.out hb4); clear hb4 HH HR3; have y0 := HH4.out.cell 0; have y1 := HH4.out.cell 1; have y2 := HH4.out.cell 2; simp only [gtA, gtS, gtZ] at y0 y1 y2) | (go_at_call 91; refine (HLA.out _ (HF.out.below (bthen K0.out.b HR4.out))).mono ?_; rintro e w5 ⟨rfl, hb5⟩; have HH5 := hI9 (HH4.out.below hb5); have HR5 := hI9 (bthen HR4.out hb5); clear hb5 y0 y1 y2 HH4 HR4; have y0 := HH5.out.cell 0; have y1 := HH5.out.cell 1; have y2 := HH5.out.cell 2; simp only [gtA, gtS, gtZ] at y0 y1 y2) | (at_builtin; refine wpl_appH rfl _ _ rfl w.heap.size u6 (F.havK lt tt op t false k).length _ rfl (ownsRow_below (K0.out.below HR5.out).o (bal (RowKit.Below.refl _ _) _)) w5.heap.size (k : Int) ra rb rfl ?a2 ?c2 ?d2 (by omega) ?b2 ?_))
   (try case a2 => exact (Blk.new _ _ _).cell 0)
   (try case c2 => exact (Blk.new _ _ _).cell 1)
   (try case d2 => exact (Blk.new _ _ _).cell 2)
   case b2 => have := K0.out.b.size; have := HR5.out.size; simp; omega
   intro v' w6 ho hg
   have nK := hI9 (HvK.app (x := ⟨k, ra, rb⟩) ((K0.out.below HR5.out).below (bal (RowKit.Below.refl _ _) _)) ho.out hg.out)
   go_wp2_with (fail)
   go_roundg (P - (k + 1))
   case measure => omega
   case rel => exact ⟨k + 1, by first | rfl | go_num | (congr 1; omega), by omega, Nat.le_refl _, hI9 (by rw [HV.out]; exact nK.out)⟩
  obtain rfl : k = P := by omega
  go_wp2_with (fail)
  go_ret
  exact ⟨_, rfl, K0.out.b, SlH.of_owns K0.out.o⟩
end Go.Proofs.YtlambeiafdpkgaaGreat

namespace Go.Proofs.YtlambeiafdpkgaaGreat
open Go Go.RowKit Go.Proofs
set_option maxRecDepth 100000
set_option maxHeartbeats 8000000
theorem FliD.havK_mem {F : FliD} {lt tt : Tab} {op : Nat → Int → Bool} {t : Int} {dry : Bool} {x : HavD} : ∀ k, x ∈ F.havK lt tt op t dry k → ∃ p, p < k ∧ x = F.hav1 lt tt t p ∧ F.havB lt tt op t dry p = true
 | 0, h => absurd h (by simp [FliD.havK])
 | k + 1, h => by
  unfold FliD.havK at h
  split at h
  ·rename_i hb
   rw [List.mem_append, List.mem_singleton] at h
   rcases h with h | h
   ·obtain ⟨p, h1, h2⟩ := FliD.havK_mem k h
    exact ⟨p, by omega, h2⟩
   ·exact ⟨k, by omega, h, hb⟩
  ·obtain ⟨p, h1, h2⟩ := FliD.havK_mem k h
   exact ⟨p, by omega, h2⟩
theorem nfM_ok {M : MetD} {lw ls lc : Int} {S : Tab} {n : Nat} {F : FliD} (h : nfE (netME M lw ls lc S n) M S n F = 0) : M.places = (M.places.toNat : Int) ∧ (1 ≤ M.places.toNat ∧ M.places.toNat ≤ 8) ∧ LegIn M.places.toNat (lgT S n) ∧ NetOk M.places.toNat S n ∧ F.ok M.places.toNat (lgT S n) := by
 unfold nfE at h
 by_cases h1 : netME M lw ls lc S n = 0
 ·rw [if_pos h1] at h
  obtain ⟨f1, f2, -⟩ := netME_ok h1
  obtain ⟨f3, f4, f5, f6⟩ := net_facts f1 f2
  refine ⟨f3, f4, f5, f6, FliD.okB_iff.1 ?_⟩
  cases e : F.okB M.places.toNat (lgT S n)
  ·rw [e] at h; cases h
  ·rfl
 ·rw [if_neg h1] at h; exact absurd h h1
def tkE (NE : Int) (F : FliD) (lt : Tab) (t : Int) : Int := if NE = 0 then (if inB t F.dep (F.arr lt) = true then 0 else 1) else NE
theorem newTick_c (M : MetD) (vF vS : Value) (lw ls lc : Int) (li lb : Bool) (A : Option Addr) (n c : Nat) (S : Tab) (F : FliD) (vR : Value) (t : Int) (w : World) (hM : MetAt w vF vS M) (hc1 : n ≤ c) (hc2 : c ≤ 9223372036854775807) (hL : RecsAt w A n 3 (nV S)) (hR : SlI w vR F.m F.R) :
  Calls Tryz.prog 42 #[.agg #[.int .i64 M.places, .int .i64 M.any.a0, .int .i64 M.any.a1, .int .i64 M.any.a2, .int .i64 M.any.a3, .int .i64 M.any.a4, .int .i64 M.any.a5, .bool M.any.i, .bool M.any.s, .int .i64 M.mw, .int .i64 M.ms, .int .i64 M.mc, vF, vS], .agg #[.int .i64 lw, .int .i64 ls, .int .i64 lc, .bool li, .bool lb], .slice A n c, .agg #[vR, .int .i64 F.dep, .int .i64 F.fuel, .int .i64 F.burn, .int .i64 F.res], .int .i64 t] w fun e w' => ∃ v, e = .returned (.tuple #[v, .int .i64 (tkE (nfE (netME M lw ls lc S n) M S n F) F (lgT S n) t)]) ∧ RowKit.Below w.heap.size w w' ∧ NfRes (tkE (nfE (netME M lw ls lc S n) M S n F) F (lgT S n) t) w' v M vF vS S n F vR lw ls lc li lb := by
 have HM := hI9 hM
 have HL := hI9 hL
 have HR := hI9 hR
 clear hM hL hR
 have HNN := hI9 (fun w1 gl h1 hm h2 h3 => newFlightM_c M vF vS gl lw ls lc li lb A n c S F vR w1 h1 hm hc1 hc2 h2 h3)
 have tok : True := trivial
 have tok2 : True := trivial
 unfold tkE
 by_cases h0 : nfE (netME M lw ls lc S n) M S n F = 0
 case neg =>
  rw [if_neg h0]
  generalize nfE (netME M lw ls lc S n) M S n F = NE at *
  have hz : (NE == 0) = false := by simpa using h0
  have H0 := hI9 h0
  clear h0
  go_enter Tryz.func42, Tryz.ntmps42
  go_wp2_with (fail)
  have _x := frm3 w #[.int .i64 M.places, .int .i64 M.any.a0, .int .i64 M.any.a1, .int .i64 M.any.a2, .int .i64 M.any.a3, .int .i64 M.any.a4, .int .i64 M.any.a5, .bool M.any.i, .bool M.any.s, .int .i64 M.mw, .int .i64 M.ms, .int .i64 M.mc, vF, vS] 34 #[.int .i64 lw, .int .i64 ls, .int .i64 lc, .bool li, .bool lb] 41 #[vR, .int .i64 F.dep, .int .i64 F.fuel, .int .i64 F.burn, .int .i64 F.res] 70
  have HX := hI9 _x.1
  have HI := hI9 _x.2.1
  have HF := hI9 _x.2.2.1
  have HB := hI9 _x.2.2.2.1
  have zW := _x.2.2.2.2
  clear _x
  generalize World.alloc (World.alloc (World.alloc w _) _) _ = W at *
  go_wp2_with (first | (have _t := tok; refine wpl_row rfl 34 (.tmp 5) rfl _ rfl _ 14 HX.out Tryz.rowMet rfl ?_; simp only [Act.put]; clear tok) | (have _t := tok2; refine wpl_row rfl 70 (.tmp 8) rfl _ rfl _ 5 HF.out Tryz.rowFli rfl ?_; simp only [Act.put]; clear tok2) | (go_at_call 41; (with_reducible refine (HNN.out _ _ (HM.out.below HB.out) HI.out (HL.out.below HB.out) (HR.out.below HB.out)).mono ?_); rintro e w1 ⟨v, rfl, hb1⟩; (obtain ⟨hb1, -⟩ := hb1); have nHX := hI9 (HX.out.below hb1); have nHI := hI9 (HI.out.below hb1); have nHF := hI9 (HF.out.below hb1); have nHB := hI9 (bthen HB.out hb1); have zz1 := hb1.size; clear HX HI HF HB hb1; have HX := nHX; have HI := nHI; have HF := nHF; have HB := nHB; clear nHX nHI nHF nHB))
  go_quiet (fail)
  go_wp2_with (fail)
  go_ret2
  exact ⟨_, rfl, bdn HB.out _, fun h => absurd h H0.out⟩
 rw [if_pos h0]
 obtain ⟨f3, f4, f5, f6, f7⟩ := nfM_ok h0
 rw [h0] at HNN
 have hm1 := (FliD.nums_iff.1 f7.1).1.1
 have HAR := hI9 (fun v vN w1 h => arrival_c M vF vS v vN M.places.toNat (lgT S n) (timT S n M.places.toNat) F vR lw ls lc li lb w1 h hm1)
 have HARR := hI9 (show F.at_ (lgT S n) (F.m - 1) = F.arr (lgT S n) from rfl)
 clear f3 f4 f5 f6 f7 hm1 h0
 go_enter Tryz.func42, Tryz.ntmps42
 go_wp2_with (fail)
 have _x := frm3 w #[.int .i64 M.places, .int .i64 M.any.a0, .int .i64 M.any.a1, .int .i64 M.any.a2, .int .i64 M.any.a3, .int .i64 M.any.a4, .int .i64 M.any.a5, .bool M.any.i, .bool M.any.s, .int .i64 M.mw, .int .i64 M.ms, .int .i64 M.mc, vF, vS] 34 #[.int .i64 lw, .int .i64 ls, .int .i64 lc, .bool li, .bool lb] 41 #[vR, .int .i64 F.dep, .int .i64 F.fuel, .int .i64 F.burn, .int .i64 F.res] 70
 have HX := hI9 _x.1
 have HI := hI9 _x.2.1
 have HF := hI9 _x.2.2.1
 have HB := hI9 _x.2.2.2.1
 have zW := _x.2.2.2.2
 clear _x
 generalize World.alloc (World.alloc (World.alloc w _) _) _ = W at *
 go_wp2_with (first | (have _t := tok; refine wpl_row rfl 34 (.tmp 5) rfl _ rfl _ 14 HX.out Tryz.rowMet rfl ?_; simp only [Act.put]; clear tok) | (have _t := tok2; refine wpl_row rfl 70 (.tmp 8) rfl _ rfl _ 5 HF.out Tryz.rowFli rfl ?_; simp only [Act.put]; clear tok2))
 refine (HNN.out _ _ (HM.out.below HB.out) HI.out (HL.out.below HB.out) (HR.out.below HB.out)).mono ?_
 rintro e w2 ⟨v, rfl, hb2, hv⟩
 obtain ⟨vN, hfa⟩ := hv rfl
 have HFA := hI9 hfa
 obtain ⟨gx, vA, rfl, -⟩ := hfa
 have HFB := hI9 (HF.out.below hb2)
 have HB2 := hI9 (bthen HB.out hb2)
 clear HB HX HF HI hb2 hv
 have har := fun w1 h => HAR.out (.pointer (some ⟨gx, 0, none⟩)) vN w1 h
 rw [HARR.out] at har
 have HAR2 := hI9 har
 clear HAR HARR har
 have hwi := fun w1 => rwithin_c t F.dep (F.arr (lgT S n)) w1
 cases hin : inB t F.dep (F.arr (lgT S n))
 all_goals (rw [hin] at hwi; have HWI := hI9 hwi; clear hwi)
 ·skip
  skip
  have f1 : ∀ r : After w2, r.w.cell? ⟨w.heap.size + 1 + 1, 1, none⟩ = some (.int .i64 F.dep) := fun r => (HFB.out.below r.below).cell 1
  go_wp2_with (fail)
  refine wp_region_after (by kernel_rfl) (by kernel_rfl) ?_
  iterate 11 (go_big_quiet_step (first | (go_at_call 85; (with_reducible refine qafter (HAR2.out _ (HFA.out.below (After.below _))))) | (go_at_call 84; (with_reducible refine qafter_same (HWI.out _)))))
  refine wpQuiet_nil ?_
  rintro W3 ⟨r2, hr2⟩
  have hb3 : RowKit.Below w2.heap.size w2 W3 := by rw [hr2]; exact r2.below
  clear hr2 r2 f1
  go_wp2_with (fail)
  all_goals go_ret2
  all_goals exact ⟨_, rfl, bthen HB2.out hb3, fun h => absurd h (by decide)⟩
 ·skip
  skip
  have f1 : ∀ r : After w2, r.w.cell? ⟨w.heap.size + 1 + 1, 1, none⟩ = some (.int .i64 F.dep) := fun r => (HFB.out.below r.below).cell 1
  go_wp2_with (fail)
  refine wp_region_after (by kernel_rfl) (by kernel_rfl) ?_
  iterate 11 (go_big_quiet_step (first | (go_at_call 85; (with_reducible refine qafter (HAR2.out _ (HFA.out.below (After.below _))))) | (go_at_call 84; (with_reducible refine qafter_same (HWI.out _)))))
  refine wpQuiet_nil ?_
  rintro W3 ⟨r2, hr2⟩
  have hb3 : RowKit.Below w2.heap.size w2 W3 := by rw [hr2]; exact r2.below
  clear hr2 r2 f1
  go_wp2_with (fail)
  all_goals go_ret2
  all_goals exact ⟨_, rfl, bthen HB2.out hb3, fun _ => ⟨vN, HFA.out.below hb3⟩⟩
def bsE (TE : Int) (M : MetD) (lw ls lc : Int) (li lb : Bool) (S : Tab) (n : Nat) (F : FliD) (t : Int) : HavD × Int :=
 if TE = 0 then besV (bestL (F.havK (lgT S n) (timT S n M.places.toNat) (opM M lw ls lc li lb) t false M.places.toNat)) else (hvz, TE)
theorem rBest_c (M : MetD) (vF vS : Value) (lw ls lc : Int) (li lb : Bool) (A : Option Addr) (n c : Nat) (S : Tab) (F : FliD) (vR : Value) (t : Int) (w : World) (hM : MetAt w vF vS M) (hc1 : n ≤ c) (hc2 : c ≤ 9223372036854775807) (hL : RecsAt w A n 3 (nV S)) (hR : SlI w vR F.m F.R) :
  Calls Tryz.prog 20 #[.agg #[.int .i64 M.places, .int .i64 M.any.a0, .int .i64 M.any.a1, .int .i64 M.any.a2, .int .i64 M.any.a3, .int .i64 M.any.a4, .int .i64 M.any.a5, .bool M.any.i, .bool M.any.s, .int .i64 M.mw, .int .i64 M.ms, .int .i64 M.mc, vF, vS], .agg #[.int .i64 lw, .int .i64 ls, .int .i64 lc, .bool li, .bool lb], .slice A n c, .agg #[vR, .int .i64 F.dep, .int .i64 F.fuel, .int .i64 F.burn, .int .i64 F.res], .int .i64 t] w fun e w' => e = .returned (.tuple #[.agg (hvC (bsE (tkE (nfE (netME M lw ls lc S n) M S n F) F (lgT S n) t) M lw ls lc li lb S n F t).1), .int .i64 (bsE (tkE (nfE (netME M lw ls lc S n) M S n F) F (lgT S n) t) M lw ls lc li lb S n F t).2]) ∧ RowKit.Below w.heap.size w w' := by
 have HM := hI9 hM
 have HL := hI9 hL
 have HR := hI9 hR
 clear hM hL hR
 have HNT := hI9 (fun w1 h1 h2 h3 => newTick_c M vF vS lw ls lc li lb A n c S F vR t w1 h1 hc1 hc2 h2 h3)
 have tok : True := trivial
 have tok2 : True := trivial
 have tok3 : True := trivial
 have HIN : ∀ NE, tkE NE F (lgT S n) t = 0 → NE = 0 ∧ inB t F.dep (F.arr (lgT S n)) = true := fun NE h => by
  unfold tkE at h
  by_cases h1 : NE = 0
  ·rw [if_pos h1] at h
   cases e : inB t F.dep (F.arr (lgT S n))
   ·rw [e] at h; cases h
   ·exact ⟨h1, rfl⟩
  ·rw [if_neg h1] at h; exact absurd h h1
 have HIN2 := HIN (nfE (netME M lw ls lc S n) M S n F)
 clear HIN
 have hok := fun h => nfM_ok (M := M) (lw := lw) (ls := ls) (lc := lc) (S := S) (n := n) (F := F) (HIN2 h).1
 have hir := fun h => inB_iff.1 (HIN2 h).2
 clear HIN2
 generalize tkE (nfE (netME M lw ls lc S n) M S n F) F (lgT S n) t = TE at *
 unfold bsE
 by_cases h0 : TE = 0
 case neg =>
  rw [if_neg h0]
  have hz : (TE != 0) = true := by simpa using h0
  clear h0 hok hir
  go_enter Tryz.func20, Tryz.ntmps20
  go_wp2_with (fail)
  have _x := frm4 w #[.int .i64 M.places, .int .i64 M.any.a0, .int .i64 M.any.a1, .int .i64 M.any.a2, .int .i64 M.any.a3, .int .i64 M.any.a4, .int .i64 M.any.a5, .bool M.any.i, .bool M.any.s, .int .i64 M.mw, .int .i64 M.ms, .int .i64 M.mc, vF, vS] 34 #[.int .i64 lw, .int .i64 ls, .int .i64 lc, .bool li, .bool lb] 41 #[vR, .int .i64 F.dep, .int .i64 F.fuel, .int .i64 F.burn, .int .i64 F.res] 70 #[.int .i64 0, .int .i64 0, .bool false] 80
  have HX := hI9 _x.1
  have HI := hI9 _x.2.1
  have HF := hI9 _x.2.2.1
  have HZ := hI9 _x.2.2.2.1
  have HB := hI9 _x.2.2.2.2.1
  have zW := _x.2.2.2.2.2
  clear _x
  generalize World.alloc (World.alloc (World.alloc (World.alloc w _) _) _) _ = W at *
  go_wp2_with (first | (have _t := tok; refine wpl_row rfl 34 (.tmp 5) rfl _ rfl _ 14 HX.out Tryz.rowMet rfl ?_; simp only [Act.put]; clear tok) | (have _t := tok3; refine wpl_row rfl 41 (.tmp 6) rfl _ rfl _ 5 HI.out Tryz.rowMin rfl ?_; simp only [Act.put]; clear tok3) | (have _t := tok2; refine wpl_row rfl 70 (.tmp 8) rfl _ rfl _ 5 HF.out Tryz.rowFli rfl ?_; simp only [Act.put]; clear tok2) | (go_at_call 42; (with_reducible refine (HNT.out _ (HM.out.below HB.out) (HL.out.below HB.out) (HR.out.below HB.out)).mono ?_); rintro e w1 ⟨v, rfl, hb1⟩; (obtain ⟨hb1, -⟩ := hb1); have nHX := hI9 (HX.out.below hb1); have nHI := hI9 (HI.out.below hb1); have nHF := hI9 (HF.out.below hb1); have nHZ := hI9 (HZ.out.below hb1); have nHB := hI9 (bthen HB.out hb1); have zz1 := hb1.size; clear HX HI HF HZ HB hb1; have HX := nHX; have HI := nHI; have HF := nHF; have HZ := nHZ; have HB := nHB; clear nHX nHI nHF nHZ nHB; (try clear zHZ); have zHZ := HZ.out.lt; (try clear cHZ0); have cHZ0 := HZ.out.cell 0; (try clear cHZ1); have cHZ1 := HZ.out.cell 1; (try clear cHZ2); have cHZ2 := HZ.out.cell 2; (try clear fHZ); have fHZ := fun i => HZ.out.frozen i))
  exact bodyPost_ret (res_ct rfl _ _ #[.int .i64 0, .int .i64 0, .bool false] 3 rfl (((HZ.out.set_ 0 _).set_ 1 _).set_ 2 _) Tryz.rowHav rfl) rfl ⟨rfl, bset (bset (bset HB.out (by omega) _) (by omega) _) (by omega) _⟩
 subst h0
 rw [if_pos rfl]
 obtain ⟨f3, f4, f5, f6, f7⟩ := hok rfl
 have hi := hir rfl
 have hti := timT_in f6 f4.2
 have HHV := hI9 (fun v vN w1 h hm => fhavens_c M vF vS v vN M.places.toNat (lgT S n) (timT S n M.places.toNat) F vR lw ls lc li lb t false w1 h hm f3 f4.2 f7 f5 hti hi.1 hi.2)
 have hlen := FliD.havK_len (F := F) (lt := lgT S n) (tt := timT S n M.places.toNat) (op := opM M lw ls lc li lb) (t := t) (dry := false) M.places.toNat
 have hl3 : (F.havK (lgT S n) (timT S n M.places.toNat) (opM M lw ls lc li lb) t false M.places.toNat).length ≤ 3000 := by omega
 clear f3 f4 f5 f6 f7 hti hi hok hir hlen
 generalize F.havK (lgT S n) (timT S n M.places.toNat) (opM M lw ls lc li lb) t false M.places.toNat = l at *
 go_enter Tryz.func20, Tryz.ntmps20
 go_wp2_with (fail)
 have _x := frm4 w #[.int .i64 M.places, .int .i64 M.any.a0, .int .i64 M.any.a1, .int .i64 M.any.a2, .int .i64 M.any.a3, .int .i64 M.any.a4, .int .i64 M.any.a5, .bool M.any.i, .bool M.any.s, .int .i64 M.mw, .int .i64 M.ms, .int .i64 M.mc, vF, vS] 34 #[.int .i64 lw, .int .i64 ls, .int .i64 lc, .bool li, .bool lb] 41 #[vR, .int .i64 F.dep, .int .i64 F.fuel, .int .i64 F.burn, .int .i64 F.res] 70 #[.int .i64 0, .int .i64 0, .bool false] 80
 have HX := hI9 _x.1
 have HI := hI9 _x.2.1
 have HF := hI9 _x.2.2.1
 have HZ := hI9 _x.2.2.2.1
 have HB := hI9 _x.2.2.2.2.1
 have zW := _x.2.2.2.2.2
 clear _x
 generalize World.alloc (World.alloc (World.alloc (World.alloc w _) _) _) _ = W at *
 go_wp2_with (first | (have _t := tok; refine wpl_row rfl 34 (.tmp 5) rfl _ rfl _ 14 HX.out Tryz.rowMet rfl ?_; simp only [Act.put]; clear tok) | (have _t := tok3; refine wpl_row rfl 41 (.tmp 6) rfl _ rfl _ 5 HI.out Tryz.rowMin rfl ?_; simp only [Act.put]; clear tok3) | (have _t := tok2; refine wpl_row rfl 70 (.tmp 8) rfl _ rfl _ 5 HF.out Tryz.rowFli rfl ?_; simp only [Act.put]; clear tok2))
 refine (HNT.out _ (HM.out.below HB.out) (HL.out.below HB.out) (HR.out.below HB.out)).mono ?_
 rintro e w2 ⟨v, rfl, hb2, hv⟩
 obtain ⟨vN, hfa⟩ := hv rfl
 have HFA := hI9 hfa
 obtain ⟨gx, vA, rfl, -⟩ := hfa
 clear hv HX HI HF
 have nHZ := hI9 (HZ.out.below hb2)
 have nHB := hI9 (bthen HB.out hb2)
 clear HZ HB hb2
 have HZ := nHZ
 have HB := nHB
 clear nHZ nHB
 go_wp2_with (fail)
 refine (HHV.out _ _ _ HFA.out (HM.out.below HB.out)).mono ?_
 rintro e w3 ⟨vO, rfl, hb3, hO⟩
 obtain ⟨AO, cO, rfl, -, -, hO⟩ := hO
 have hbe := hvbest_c AO cO l w3 hl3 hO
 clear hO HFA HHV
 have nHZ := hI9 (HZ.out.below hb3)
 have nHB := hI9 (bthen HB.out hb3)
 clear HZ HB hb3
 have HZ := nHZ
 have HB := nHB
 clear nHZ nHB
 rcases hbs : bestL l with _ | x
 ·rw [hbs] at hbe
  simp only [Option.getD_none, Option.isSome_none] at hbe
  unfold hvC hvz at hbe
  have HBS := hI9 hbs
  clear hbs
  go_wp2_with (fail)
  refine hbe.mono ?_
  clear hbe
  rintro e w4 ⟨rfl, hb4⟩
  have nHZ := hI9 (HZ.out.below hb4)
  have nHB := hI9 (bthen HB.out hb4)
  clear HZ HB hb4
  have HZ := nHZ
  have HB := nHB
  clear nHZ nHB
  have nZ := hI9 (HZ.out.alloc (.cells #[.int .i64 0, .int .i64 0, .bool false] 80))
  have z0 := nZ.out.cell 0
  have z1 := nZ.out.cell 1
  have z2 := nZ.out.cell 2
  have zf := fun i => nZ.out.frozen i
  simp only [gtA, gtS, gtZ] at z0 z1 z2
  go_wp2_with (fail)
  exact bodyPost_ret (res_ct rfl _ _ #[.int .i64 0, .int .i64 0, .bool false] 3 rfl (((nZ.out.set_ 0 _).set_ 1 _).set_ 2 _) Tryz.rowHav rfl) rfl ⟨by rw [HBS.out]; rfl, bset (bset (bset (bal HB.out _) (by omega) _) (by omega) _) (by omega) _⟩
 ·obtain ⟨xp, xt, xb⟩ := x
  rw [hbs] at hbe
  simp only [Option.getD_some, Option.isSome_some] at hbe
  unfold hvC at hbe
  dsimp only at hbe
  have HBS := hI9 hbs
  clear hbs
  go_wp2_with (fail)
  refine hbe.mono ?_
  clear hbe
  rintro e w4 ⟨rfl, hb4⟩
  have nHZ := hI9 (HZ.out.below hb4)
  have nHB := hI9 (bthen HB.out hb4)
  clear HZ HB hb4
  have HZ := nHZ
  have HB := nHB
  clear nHZ nHB
  have nZ := hI9 (HZ.out.alloc (.cells #[.int .i64 (xp : Int), .int .i64 xt, .bool xb] 80))
  have z0 := nZ.out.cell 0
  have z1 := nZ.out.cell 1
  have z2 := nZ.out.cell 2
  have zf := fun i => nZ.out.frozen i
  have y0 := (Blk.new w4 80 #[.int .i64 (xp : Int), .int .i64 xt, .bool xb]).cell 0
  have y1 := (Blk.new w4 80 #[.int .i64 (xp : Int), .int .i64 xt, .bool xb]).cell 1
  have y2 := (Blk.new w4 80 #[.int .i64 (xp : Int), .int .i64 xt, .bool xb]).cell 2
  simp only [gtA, gtS, gtZ] at z0 z1 z2 y0 y1 y2
  go_wp2_with (fail)
  exact bodyPost_ret (res_ct rfl _ _ #[.int .i64 (xp : Int), .int .i64 xt, .bool xb] 3 rfl (((nZ.out.set_ 0 _).set_ 1 _).set_ 2 _) Tryz.rowHav rfl) rfl ⟨by rw [HBS.out]; rfl, bset (bset (bset (bal HB.out _) (by omega) _) (by omega) _) (by omega) _⟩
end Go.Proofs.YtlambeiafdpkgaaGreat

namespace Go.Proofs.YtlambeiafdpkgaaGreat
open Go Go.RowKit Go.Proofs
set_option maxRecDepth 100000
set_option maxHeartbeats 8000000
end Go.Proofs.YtlambeiafdpkgaaGreat

namespace Go.Proofs.YtlambeiafdpkgaaGreat
open Go Go.RowKit Go.Proofs
set_option maxRecDepth 100000
def FliD.need (F : FliD) (h : HavD) : Int := F.res + F.burn * (h.t - F.dep)
theorem minH_least {f : Nat → HavD} : ∀ (k i : Nat), i ≤ k → (minH f k).t ≤ (f i).t
 | 0, i, h => by
  obtain rfl : i = 0 := by omega
  exact Int.le_refl _
 | k + 1, i, h => by
  unfold minH
  by_cases e : (f (k + 1)).t < (minH f k).t
  ·rw [if_pos e]
   rcases Nat.lt_or_ge k i with q | q
   ·obtain rfl : i = k + 1 := by omega
    exact Int.le_refl _
   ·have := minH_least (f := f) k i q; omega
  ·rw [if_neg e]
   rcases Nat.lt_or_ge k i with q | q
   ·obtain rfl : i = k + 1 := by omega
    omega
   ·exact minH_least k i q
theorem minH_mem2 {f : Nat → HavD} : ∀ (k : Nat), ∃ i, i ≤ k ∧ minH f k = f i
 | 0 => ⟨0, Nat.le_refl _, rfl⟩
 | k + 1 => by
  unfold minH
  by_cases e : (f (k + 1)).t < (minH f k).t
  ·rw [if_pos e]; exact ⟨k + 1, Nat.le_refl _, rfl⟩
  ·rw [if_neg e]
   obtain ⟨i, h1, h2⟩ := minH_mem2 (f := f) k
   exact ⟨i, by omega, h2⟩
theorem bestL_some {l : List HavD} {h : HavD} (e : bestL l = some h) : h ∈ l ∧ ∀ x ∈ l, h.t ≤ x.t := by
 unfold bestL at e
 by_cases h0 : l.length = 0
 ·rw [if_pos h0] at e; cases e
 ·rw [if_neg h0] at e
  obtain rfl : minH (hvx l) (l.length - 1) = h := Option.some.inj e
  have hg : ∀ i (hi : i < l.length), hvx l i = l[i] := fun i hi => by unfold hvx; rw [List.getD_eq_getElem?_getD, List.getElem?_eq_getElem hi]; rfl
  constructor
  ·obtain ⟨i, h1, h2⟩ := minH_mem2 (f := hvx l) (l.length - 1)
   rw [h2, hg i (by omega)]
   exact List.getElem_mem _
  ·intro x hx
   obtain ⟨i, hi, rfl⟩ := List.getElem_of_mem hx
   have := minH_least (f := hvx l) (l.length - 1) i (by omega)
   rw [hg i hi] at this
   exact this
theorem bestL_nil {l : List HavD} (e : bestL l = none) : l = [] := by
 unfold bestL at e
 by_cases h0 : l.length = 0
 ·exact List.eq_nil_of_length_eq_zero h0
 ·rw [if_neg h0] at e; cases e
end Go.Proofs.YtlambeiafdpkgaaGreat
