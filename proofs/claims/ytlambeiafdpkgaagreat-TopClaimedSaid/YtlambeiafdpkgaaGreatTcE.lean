import Derived.Test.YtlambeiafdpkgaaGreatTcD
set_option linter.all false
namespace Go.Proofs.YtlambeiafdpkgaaGreat
open Go Go.RowKit Go.Proofs
set_option maxRecDepth 100000
set_option maxHeartbeats 4000000
def joF (n1 : Nat) (P1 P2 : Nat → Bool) (j : Nat) : Bool := if j < n1 then P1 j else P2 (j - n1)
theorem wpl_app2 {ops : Array Oper} {rest : List Oper} {o : Oper} {a : Act} {w : World} {Q : Exit → Act → World → Prop} (hgd : o.guard = none) (s x : Operand)
  (ho : o.op = .call { callee := .builtin .append, args := #[s, x], argTypes := #[127, 127] }) (n1 n2 : Nat) (P1 P2 : Nat → Bool) (v1 v2 : Value) (hs : a.eval s = v1) (hx : a.eval x = v2)
  (h1 : BoL w v1 n1 P1) (z1 : n1 = 0 → v1 = .slice none 0 0) (h2 : BoL w v2 n2 P2) (z2 : n2 = 0 → v2 = .slice none 0 0) (hor : n1 = 0 ∨ n2 = 0) (h40 : n2 ≤ 40)
  (h : ∀ v' w', BoL w' v' (n1 + n2) (joF n1 P1 P2) → Below w.heap.size w w' → wpList Tryz.prog ops Q rest (a.put o.dst v') w') : wpList Tryz.prog ops Q (o :: rest) a w := by
 have hI := Tryz.tcBoI
 cases hi : Tryz.prog.info? 4 with
 | none => rw [hi] at hI; cases hI
 | some i =>
  rw [hi] at hI
  simp only [Option.map_some, Option.some.injEq, Prod.mk.injEq] at hI
  by_cases hm : n2 = 0
  ·subst hm
   have e2 := z2 rfl
   rw [e2] at hx
   obtain ⟨A, c, rfl, hnc, hA⟩ := h1
   refine wpList_plain hgd fun K' hK' => ?_
   have hnc2 : ¬ c < n1 := by omega
   have hrun : (Builtin.append_ #[127, 127] o.type #[.slice A n1 c, .slice none 0 0]).run Tryz.prog w = .ok (.slice A n1 c) w := by
    cases A with
    | none => simp [Builtin.append_, run_underlying Tryz.tcBoU, sizeOf, typeInfo, hi, Builtin.lenOf, Builtin.firstCells, storeCells, hnc2]
    | some ad => simp [Builtin.append_, run_underlying Tryz.tcBoU, sizeOf, typeInfo, hi, Builtin.lenOf, Builtin.firstCells, storeCells, loadCells, loadCellsFrom, hnc2]
   unfold Oper.wp
   simp [execOp, ho, resolve, invoke, builtin, hs, hx, hrun, Result.andThen]
   exact hK' _ _ (h _ w ⟨A, c, rfl, hnc, fun hn => by obtain ⟨b, off, e, hl, hc⟩ := hA hn; exact ⟨b, off, e, hl, fun k hk => by rw [hc k hk, joF, if_pos (by omega)]⟩⟩ (Below.refl _ _))
  ·obtain rfl : n1 = 0 := by omega
   have e1 := z1 rfl
   rw [e1] at hs
   obtain ⟨A, c, rfl, -, hA⟩ := h2
   obtain ⟨b, off, rfl, hlt, hc⟩ := hA (by omega)
   refine wpList_append_grows w hgd s x 127 ho 4 i (.bool false) 1 1 Tryz.tcBoU hi hI.1 hI.2.1 hI.2.2 rfl (by decide) none 0 0 [] hs (fun _ => ⟨rfl, rfl⟩) (by simp) (fun _ _ j u h => by simp at h)
    ⟨b, off, none⟩ n2 c ((List.range n2).map fun k => .bool (P2 k)) hx (by simp) (fun j u h => ?_) (fun u hu => ?_) (by omega) (by unfold maxLen; omega) (by omega) (fun v' w' ho hgr => ?_)
   ·have hj : j < n2 := by
     have := (List.getElem?_eq_some_iff.1 h).1; simpa using this
    have : u = .bool (P2 j) := by simp [hj] at h; exact h.symm
    subst this
    have hadd : (⟨b, off, none⟩ : Addr).add j = ⟨b, off + j, none⟩ := by unfold Addr.add; split <;> simp_all
    rw [hadd]; exact hc j hj
   ·obtain ⟨k, hk, rfl⟩ := List.mem_map.1 hu
    rfl
   ·rw [Nat.zero_add, List.nil_append] at ho
    refine h v' w' ?_ (below_of_none hgr)
    rw [Nat.zero_add]
    exact (BoL.of_owns ho).congr fun k hk => by simp [joF]
theorem wpl_mk3 {ops : Array Oper} {rest : List Oper} {o : Oper} {a : Act} {w : World} {Q : Exit → Act → World → Prop} (hgd : o.guard = none) (l c : Operand) (ho : o.op = .makeSlice 127 l c) (hl : a.eval l = .int .i64 3) (hc : a.eval c = .int .i64 3)
  (h : ∀ w', Below w.heap.size w w' → Blk w' w.heap.size 4 #[.bool false, .bool false, .bool false] → wpList Tryz.prog ops Q rest (a.put o.dst (.slice (some ⟨w.heap.size, 0, none⟩) 3 3)) w') : wpList Tryz.prog ops Q (o :: rest) a w := by
 have hI := Tryz.tcBoI
 cases hi : Tryz.prog.info? 4 with
 | none => rw [hi] at hI; cases hI
 | some i =>
  rw [hi] at hI
  simp only [Option.map_some, Option.some.injEq, Prod.mk.injEq] at hI
  obtain ⟨i1, i2, i3⟩ := hI
  refine wpList_make_full w hgd l c 127 ho w.heap.size 4 i (.bool false) 1 Tryz.tcBoU hi i1 i2 .i64 .i64 3 3 3 hl hc rfl rfl (by rw [i3]; omega) (by decide) (Nat.le_refl _) (fun w' h1 h2 => ?_)
  refine h w' (below_of_none h2) ?_
  rcases h1.2 with ⟨e, -⟩ | ⟨g, cap, cur, hv, -, hh, -, -, hsz, hcur⟩
  ·cases e
  ·cases hv
   have : cur = #[.bool false, .bool false, .bool false] := by
    apply Array.toList_inj.1
    rw [List.take_of_length_le (by simp [hsz])] at hcur
    rw [hcur]
    unfold madeCells
    rw [Array.toList_map, Array.toList_range]
    rfl
   rw [this] at hh
   exact hh
theorem tcAsc_pos (P : Nat → Int) (n : Nat) (h : ∀ j, j < n → prvI P j < P j) : ∀ j, j < n → 0 ≤ P j := by
 intro j
 induction j with
 | zero => intro hj; have := h 0 hj; simp only [prvI] at this; omega
 | succ j ih => intro hj; have := h (j + 1) hj; have := ih (by omega); simp only [prvI] at *; omega
def clF (C : CasD) (p : Nat) (hv : Nat → Bool) (i : Nat) : Nat → Bool := joF (C.nn i) (fun j => hv (C.fn i j).toNat) (fun j => p.testBit (C.fr i j).toNat)
def clV (C : CasD) (p : Nat) (hv : Nat → Bool) (i : Nat) : Bool :=
 if C.any i then exB (clF C p hv i) true (C.nn i + C.nr i) else !exB (clF C p hv i) false (C.nn i + C.nr i)
def hcV (hv : Nat → Bool) (k i : Nat) : Bool := decide (i < k) && hv i
def tcHR (g9 g7 : Nat) (vN vR : Value) (p : Nat) (n1 n2 : Nat) (P1 P2 : Nat → Bool) : Nat → Value → World → Prop
 | 0, v, _ => v = .pointer (some ⟨g9, 0, none⟩)
 | 1, v, _ => v = vN
 | 2, v, _ => v = .func (.func 76) #[] #[.pointer (some ⟨g7, 0, none⟩)]
 | 3, v, w => (BoL w v n1 P1 ∧ (n1 = 0 → v = .slice none 0 0))
 | 4, v, _ => v = .pointer (some ⟨g9, 1, none⟩)
 | 5, v, _ => v = vR
 | 6, v, _ => v = .int .i64 p
 | 7, v, _ => v = .func (.func 77) #[.int .i64 p] #[]
 | 8, v, w => (BoL w v n2 P2 ∧ (n2 = 0 → v = .slice none 0 0))
 | 9, v, w => BoL w v (n1 + n2) (joF n1 P1 P2)
 | _, _, _ => True
theorem tcHR_below {g9 g7 : Nat} {vN vR : Value} {p : Nat} {n1 n2 : Nat} {P1 P2 : Nat → Bool} (k : Nat) (v : Value) (w w' : World) (hb : Below w.heap.size w w') (h : tcHR g9 g7 vN vR p n1 n2 P1 P2 k v w) : tcHR g9 g7 vN vR p n1 n2 P1 P2 k v w' := by
 unfold tcHR at *
 split at h <;> first | exact h | exact ⟨h.1.below hb, h.2⟩ | exact h.below hb
def tcSR (gh kk : Nat) (v10 : Value) (b : Bool) : Nat → Value → World → Prop
 | 0, v, _ => v = .slice (some ⟨gh, 0, none⟩) 3 3
 | 1, v, _ => v = .int .i64 kk
 | 2, v, _ => v = v10
 | 3, v, _ => v = .bool b
 | 4, v, _ => v = .pointer (some ⟨gh, kk, none⟩)
 | _, _, _ => True
theorem tcSR_below {gh kk : Nat} {v10 : Value} {b : Bool} (k : Nat) (v : Value) (w w' : World) (hb : Below w.heap.size w w') (h : tcSR gh kk v10 b k v w) : tcSR gh kk v10 b k v w' := by
 unfold tcSR at *
 split at h <;> first | exact h
def tcTR (gh kk : Nat) (v10 : Value) (b : Bool) : Nat → Value → World → Prop
 | 0, v, _ => v = .slice (some ⟨gh, 0, none⟩) 3 3
 | 1, v, _ => v = .int .i64 kk
 | 2, v, _ => v = v10
 | 3, v, _ => v = .bool b
 | 4, v, _ => v = .bool (!b)
 | 5, v, _ => v = .pointer (some ⟨gh, kk, none⟩)
 | _, _, _ => True
theorem tcTR_below {gh kk : Nat} {v10 : Value} {b : Bool} (k : Nat) (v : Value) (w w' : World) (hb : Below w.heap.size w w') (h : tcTR gh kk v10 b k v w) : tcTR gh kk v10 b k v w' := by
 unfold tcTR at *
 split at h <;> first | exact h
theorem hcV_set (hv : Nat → Bool) (k : Nat) (hk : k < 3) : (#[Value.bool (hcV hv k 0), Value.bool (hcV hv k 1), Value.bool (hcV hv k 2)]).setIfInBounds k (.bool (hv k)) = #[.bool (hcV hv (k + 1) 0), .bool (hcV hv (k + 1) 1), .bool (hcV hv (k + 1) 2)] := by
 match k, hk with
 | 0, _ => simp [hcV]
 | 1, _ => simp [hcV]
 | 2, _ => simp [hcV]
theorem hcV_cell (hv : Nat → Bool) (k m : Nat) (hk : k < 3) (hm : m < k) : (#[Value.bool (hcV hv k 0), Value.bool (hcV hv k 1), Value.bool (hcV hv k 2)])[m]? = some (.bool (hv m)) := by
 match m, (show m < 2 by omega) with
 | 0, _ => simp [hcV]; omega
 | 1, _ => simp [hcV]; omega
theorem tcHolds_c (C : CasD) (vC vP : Value) (p : Nat) (hv : Nat → Bool) (w : World) (hC : ClaAt w vC C) (hO : C.Ok) (h3 : C.n = 3) (hp : p < 2 ^ 60) (hs : ∀ i, i < 3 → C.nn i ≤ 12 ∧ C.nr i ≤ 12 ∧ (C.nn i = 0 ∨ C.nr i = 0))
  (hE : ∀ i, i < 3 → hv i = clV C p hv i) :
  Calls Tryz.prog 37 #[.agg #[vC, vP], .int .i64 2, .int .i64 p] w fun e w' => e = .returned (.bool (hv 2)) ∧ Below w.heap.size w w' := by
 have HC := hI9 hC
 have HO := hI9 hO
 have HS := hI9 hs
 have HE := hI9 hE
 have HP := hI9 hp
 obtain ⟨g, off, c, rfl, hcn, hg, -⟩ := hC
 rw [h3] at hcn ⊢
 clear hO hs hE hp
 go_enter Tryz.func37, Tryz.ntmps37
 go_wp2_with (first | (refine wpl_mk3 rfl _ _ rfl rfl rfl ?_; intro w1 hb1 hH; have HH := hI9 (show Blk w1 (w.heap.size + 1) 4 #[.bool false, .bool false, .bool false] from by simpa using hH); have HX := hI9 (Blk.below (Blk.new w 57 #[.slice (some ⟨g, off, none⟩) 3 c, vP]) hb1); have HB := hI9 (bthen (bal (Below.refl _ _) _) hb1); have zH := HH.out.lt; have zX := HX.out.lt; clear hb1 hH; have cX0 := HX.out.cell 0; simp only [List.getElem?_toArray, List.getElem?_cons_zero] at cX0))
 have HT := hI9 (Blk.new w1 127 #[.slice (some ⟨w.heap.size + 1, 0, none⟩) 3 3])
 have nHB := hI9 (bthen HB.out (bal (Below.refl _ w1) (.cells #[.slice (some ⟨w.heap.size + 1, 0, none⟩) 3 3] 127)))
 have nHX := hI9 (HX.out.alloc (.cells #[.slice (some ⟨w.heap.size + 1, 0, none⟩) 3 3] 127))
 have nHH := hI9 (HH.out.alloc (.cells #[.slice (some ⟨w.heap.size + 1, 0, none⟩) 3 3] 127))
 clear HX HH HB cX0 zX
 generalize World.alloc w1 _ = w2 at *
 generalize hg7 : w1.heap.size = g7 at *
 go_loopw [8, 9, 10, 20] (fun _ _ _ s20 wr => ∃ k : Nat, k ≤ 3 ∧ s20 = .int .i64 k ∧ Hid (Below w.heap.size w wr) ∧ Hid (Blk wr w.heap.size 57 #[.slice (some ⟨g, off, none⟩) 3 c, vP]) ∧ Hid (Blk wr (w.heap.size + 1) 4 #[.bool (hcV hv k 0), .bool (hcV hv k 1), .bool (hcV hv k 2)]) ∧ Hid (Blk wr g7 127 #[.slice (some ⟨w.heap.size + 1, 0, none⟩) 3 3])) (fun _ _ _ i _ => 3 - (intOf i).toNat)
 case atStart => exact ⟨0, by omega, rfl, nHB, nHX, nHH, HT⟩
 case round =>
  clear nHB nHX nHH HT hg7 w1 w2
  obtain ⟨k, hk, rfl, HB, HX, HH, HT⟩ := hrel
  by_cases hlt : k < 3
  ·obtain ⟨g', off', c'', e, -, hl, hc⟩ := HC.out
   cases e
   obtain ⟨vN, vR, h0, h1, h2, hN, hR⟩ := hc k (by omega)
   have c0 := (HB.out.cell (p := ⟨g, off + k * 3, none⟩) hl).trans h0
   have c1 := (HB.out.cell (p := ⟨g, off + k * 3 + 1, none⟩) hl).trans h1
   have c2 := (HB.out.cell (p := ⟨g, off + k * 3 + 2, none⟩) hl).trans h2
   have hbr := Nat.lt_of_lt_of_le hl HB.out.size
   have hN2 := hN
   have hR2 := hR
   obtain ⟨aN, kN, rfl, -⟩ := hN2
   obtain ⟨aR, kR, rfl, -⟩ := hR2
   have HN := hI9 hN
   have HR := hI9 hR
   clear hc h0 h1 h2 hN hR
   go_wp2
   have HY := hI9 (Blk.new wr 54 #[.slice aN (C.nn k) kN, .slice aR (C.nr k) kR, .bool (C.any k)])
   have hbW := bal (Below.refl _ wr) (.cells #[.slice aN (C.nn k) kN, .slice aR (C.nr k) kR, .bool (C.any k)] 54)
   clear c0 c1 c2 hbr
   generalize World.alloc wr _ = W at *
   generalize wr.heap.size = g9 at HY ⊢
   have nHB := hI9 (bthen HB.out hbW)
   have nHX := hI9 (HX.out.below hbW)
   have nHH := hI9 (HH.out.below hbW)
   have nHT := hI9 (HT.out.below hbW)
   have hsk := HS.out k hlt
   have HPA := hI9 (fun (W1 : World) (hb : Below W.heap.size W W1) => show Calls Tryz.prog 75 #[.slice aN (C.nn k) kN, .func (.func 76) #[] #[.pointer (some ⟨g7, 0, none⟩)]] W1 fun e w' => ∃ v', e = .returned v' ∧ (BoL w' v' (C.nn k) (fun j => hv (C.fn k j).toNat) ∧ (C.nn k = 0 → v' = .slice none 0 0)) ∧ Below W1.heap.size W1 w' from by
    refine (tcPickA_c (.slice aN (C.nn k) kN) (C.nn k) (C.fn k) (fun j => hv (C.fn k j).toNat) (.pointer (some ⟨g7, 0, none⟩)) W1 ((HN.out.below nHB.out).below hb) (by omega) (fun j W2 hj hb2 => ?_) Tryz.entHo).mono (fun e w' h => by obtain ⟨v', q1, q2, q3, q4⟩ := h; exact ⟨v', q1, ⟨q3, q4⟩, q2⟩)
    have hpos := tcAsc_pos (C.fn k) (C.nn k) (fun j hj => ((HO.out.nn k (by omega)).2 j hj).1) j hj
    have hlim := ((HO.out.nn k (by omega)).2 j hj).2
    have hm : ((C.fn k j).toNat : Int) = C.fn k j := by omega
    have hmk : (C.fn k j).toNat < k := by omega
    have := tcHeld_c g7 (w.heap.size + 1) 3 (C.fn k j).toNat (hv (C.fn k j).toNat) W2 (by omega) ((nHT.out.below (bthen hb hb2)).cell 0) (((nHH.out.below (bthen hb hb2)).cell _).trans (hcV_cell hv k _ hlt hmk))
    rwa [hm] at this)
   have HPB := hI9 (fun (W1 : World) (hb : Below W.heap.size W W1) => show Calls Tryz.prog 75 #[.slice aR (C.nr k) kR, .func (.func 77) #[.int .i64 p] #[]] W1 fun e w' => ∃ v', e = .returned v' ∧ (BoL w' v' (C.nr k) (fun j => p.testBit (C.fr k j).toNat) ∧ (C.nr k = 0 → v' = .slice none 0 0)) ∧ Below W1.heap.size W1 w' from by
    refine (tcPickB_c (.slice aR (C.nr k) kR) (C.nr k) (C.fr k) (fun j => p.testBit (C.fr k j).toNat) (.int .i64 p) W1 ((HR.out.below nHB.out).below hb) (by omega) (fun j W2 hj hb2 => ?_) Tryz.entHa).mono (fun e w' h => by obtain ⟨v', q1, q2, q3, q4⟩ := h; exact ⟨v', q1, ⟨q3, q4⟩, q2⟩)
    have hpos := tcAsc_pos (C.fr k) (C.nr k) (fun j hj => ((HO.out.nr k (by omega)).2 j hj).1) j hj
    have hlim := ((HO.out.nr k (by omega)).2 j hj).2
    have hk12 := HO.out.k12
    have hm : ((C.fr k j).toNat : Int) = C.fr k j := by omega
    have := tcHas_c p (C.fr k j).toNat W2 HP.out (by omega)
    rwa [hm] at this)
   have HCV := hI9 (HE.out k hlt)
   obtain ⟨F, hF⟩ : ∃ F, F = clF C p hv k := ⟨_, rfl⟩
   have HF := hI9 hF
   have HHC := hI9 (show ∀ b, hv k = b → (#[Value.bool (hcV hv k 0), Value.bool (hcV hv k 1), Value.bool (hcV hv k 2)]).setIfInBounds k (.bool b) = #[.bool (hcV hv (k + 1) 0), .bool (hcV hv (k + 1) 1), .bool (hcV hv (k + 1) 2)] from fun b h => by rw [← h]; exact hcV_set hv k hlt)
   have HHK := hI9 (show (#[Value.bool (hcV hv k 0), Value.bool (hcV hv k 1), Value.bool (hcV hv k 2)])[k]? = some (.bool (hcV hv k k)) from by match k, hlt with | 0, _ => rfl | 1, _ => rfl | 2, _ => rfl)
   clear HB HX HH HT hbW HN HR HC
   have HB := nHB
   have HX := nHX
   have HH := nHH
   have HT := nHT
   clear nHB nHX nHH nHT hF
   rw [show decide ((k : Int) < 3) = true from decide_eq_true (by omega)]
   refine wp_region_spec 10 (tcHR g9 g7 (.slice aN (C.nn k) kN) (.slice aR (C.nr k) kR) p (C.nn k) (C.nr k) (fun j => hv (C.fn k j).toNat) (fun j => p.testBit (C.fr k j).toNat)) (fun i => false) (by kernel_rfl) (by kernel_rfl) tcHR_below ?hop1 ?htail1
   case hop1 =>
    simp only [List.take_succ_cons, List.take_zero, allOps]
    refine ⟨?_, ?_, ?_, ?_, ?_, ?_, ?_, ?_, ?_, ?_, trivial⟩
    all_goals intro u A w1 hA hb hd
    all_goals simp only [putAll, dstOf, gtA, gtS, gtZ, Option.bind_some, Option.bind, Act.put, List.setIfInBounds_toArray, List.set_cons_succ, List.set_cons_zero] at hA; subst hA
    all_goals have HB1 := hI9 hb
    ·clear hb hd
     go_wp2
     exact ⟨_, rfl, Below.refl _ _, rfl, fun h => absurd h (by decide)⟩
    ·have d0 : u 0 = _ := hd 0 (by omega) (by kernel_rfl)
     clear hb hd
     rw [d0]
     clear d0
     have x0 := (HY.out.below HB1.out).cell 0
     go_wp2
     exact ⟨_, rfl, Below.refl _ _, rfl, fun h => absurd h (by decide)⟩
    ·clear hb hd
     go_wp2
     exact ⟨_, rfl, Below.refl _ _, rfl, fun h => absurd h (by decide)⟩
    ·have d1 : u 1 = _ := hd 1 (by omega) (by kernel_rfl)
     have d2 : u 2 = _ := hd 2 (by omega) (by kernel_rfl)
     clear hb hd
     rw [d1, d2]
     clear d1 d2
     go_wp2_with (go_at_call 75; (with_reducible refine (HPA.out _ HB1.out).mono ?_); rintro e w2 ⟨v, rfl, ho, hb2⟩)
     exact ⟨_, rfl, hb2, ho, fun h => absurd h (by decide)⟩
    ·clear hb hd
     go_wp2
     exact ⟨_, rfl, Below.refl _ _, rfl, fun h => absurd h (by decide)⟩
    ·have d4 : u 4 = _ := hd 4 (by omega) (by kernel_rfl)
     clear hb hd
     rw [d4]
     clear d4
     have x1 := (HY.out.below HB1.out).cell 1
     go_wp2
     exact ⟨_, rfl, Below.refl _ _, rfl, fun h => absurd h (by decide)⟩
    ·clear hb hd
     go_wp2
     exact ⟨_, rfl, Below.refl _ _, rfl, fun h => absurd h (by decide)⟩
    ·have d6 : u 6 = _ := hd 6 (by omega) (by kernel_rfl)
     clear hb hd
     rw [d6]
     clear d6
     go_wp2
     exact ⟨_, rfl, Below.refl _ _, rfl, fun h => absurd h (by decide)⟩
    ·have d3 := hd 3 (by omega) (by kernel_rfl)
     have d5 : u 5 = _ := hd 5 (by omega) (by kernel_rfl)
     have d7 : u 7 = _ := hd 7 (by omega) (by kernel_rfl)
     clear hb hd
     rw [d5, d7]
     clear d5 d7
     go_wp2_with (go_at_call 75; (with_reducible refine (HPB.out _ HB1.out).mono ?_); rintro e w2 ⟨v, rfl, ho, hb2⟩)
     exact ⟨_, rfl, hb2, ho, fun h => absurd h (by decide)⟩
    ·have d3 := hd 3 (by omega) (by kernel_rfl)
     have d8 := hd 8 (by omega) (by kernel_rfl)
     clear hb hd
     refine wpl_app2 rfl _ _ rfl (C.nn k) (C.nr k) _ _ _ _ rfl rfl d3.1 d3.2 d8.1 d8.2 hsk.2.2 (by omega) ?_
     intro v' w' hq hbl
     exact ⟨v', rfl, hbl, hq, fun h => absurd h (by decide)⟩
   case htail1 =>
    intro u A w1 hA hb hd hf
    simp only [putAll, dstOf, gtA, gtS, gtZ, Option.bind_some, Option.bind, Act.put, List.setIfInBounds_toArray, List.set_cons_succ, List.set_cons_zero] at hA; subst hA
    have e0 : u 0 = _ := hd 0 (by omega)
    have e1 : u 1 = _ := hd 1 (by omega)
    have e2 : u 2 = _ := hd 2 (by omega)
    have p3 := hd 3 (by omega)
    have e4 : u 4 = _ := hd 4 (by omega)
    have e5 : u 5 = _ := hd 5 (by omega)
    have e6 : u 6 = _ := hd 6 (by omega)
    have e7 : u 7 = _ := hd 7 (by omega)
    have p8 := hd 8 (by omega)
    have p9 := hd 9 (by omega)
    first | rw [e0, e1, e2, e4, e5, e6, e7] | simp only [e0, e1, e2, e4, e5, e6, e7]
    clear e0 e1 e2 e4 e5 e6 e7
    clear hd hf
    clear p3 p8
    have hsk2 := hsk
    clear HPA HPB
    generalize u 9 = v10 at *
    have nHY := hI9 (HY.out.below hb)
    have nHX := hI9 (HX.out.below hb)
    have nHH := hI9 (HH.out.below hb)
    have nHT := hI9 (HT.out.below hb)
    have nHB := hI9 (bthen HB.out hb)
    clear HY HX HH HT HB hb
    have HY := nHY
    have HX := nHX
    have HH := nHH
    have HT := nHT
    have HB := nHB
    clear nHY nHX nHH nHT nHB
    cases hany : C.any k
    ·rw [hany] at HY
     have cY2 := HY.out.cell 2
     simp only [gtA, gtS, gtZ] at cY2
     have hcv := HCV.out
     unfold clV at hcv
     rw [hany, if_neg (by decide), ← HF.out] at hcv
     have p9' : BoL w1 v10 (C.nn k + C.nr k) F := by rw [HF.out]; exact p9
     have HCT := hI9 (fun (W1 : World) (hb : Below w1.heap.size w1 W1) => (tcContains_c v10 (C.nn k + C.nr k) F false W1 (p9'.below hb) (by omega)).mono (fun e w' h => show e = .returned (.bool (exB F false (C.nn k + C.nr k))) ∧ Below W1.heap.size W1 w' from ⟨h.1, by obtain ⟨-, rfl⟩ := h; exact Below.refl _ _⟩))
     have HV := hI9 (HHC.out _ hcv)
     generalize exB F false (C.nn k + C.nr k) = b at *
     clear hcv p9 p9' HCV HF HHC hany
     go_wp2
     clear cY2
     have xT0 := HT.out.cell 0
     refine wp_region_spec 6 (tcTR (w.heap.size + 1) k v10 b) (fun i => false) (by kernel_rfl) (by kernel_rfl) tcTR_below ?hop2 ?htail2
     case hop2 =>
      simp only [List.take_succ_cons, List.take_zero, allOps]
      refine ⟨?_, ?_, ?_, ?_, ?_, ?_, trivial⟩
      all_goals intro u A w1 hA hb hd
      all_goals simp only [putAll, dstOf, gtA, gtS, gtZ, Option.bind_some, Option.bind, Act.put, List.setIfInBounds_toArray, List.set_cons_succ, List.set_cons_zero] at hA; subst hA
      all_goals have HB1 := hI9 hb
      ·clear hb hd
       have x0 := (HT.out.below HB1.out).cell 0
       go_wp2
       exact ⟨_, rfl, Below.refl _ _, rfl, fun h => absurd h (by decide)⟩
      ·clear hb hd
       go_wp2
       exact ⟨_, rfl, Below.refl _ _, rfl, fun h => absurd h (by decide)⟩
      ·clear hb hd
       go_wp2
       exact ⟨_, rfl, Below.refl _ _, rfl, fun h => absurd h (by decide)⟩
      ·have d2 : u 2 = _ := hd 2 (by omega) (by kernel_rfl)
       clear hb hd
       rw [d2]
       clear d2
       go_wp2_with (go_at_call 78; (with_reducible refine (HCT.out _ HB1.out).mono ?_); rintro e w2 ⟨rfl, hb2⟩)
       exact ⟨_, rfl, hb2, rfl, fun h => absurd h (by decide)⟩
      ·have d3 : u 3 = _ := hd 3 (by omega) (by kernel_rfl)
       clear hb hd
       rw [d3]
       clear d3
       go_wp2
       exact ⟨_, rfl, Below.refl _ _, rfl, fun h => absurd h (by decide)⟩
      ·have d0 : u 0 = _ := hd 0 (by omega) (by kernel_rfl)
       have d1 : u 1 = _ := hd 1 (by omega) (by kernel_rfl)
       have d2 : u 2 = _ := hd 2 (by omega) (by kernel_rfl)
       have d3 : u 3 = _ := hd 3 (by omega) (by kernel_rfl)
       have d4 : u 4 = _ := hd 4 (by omega) (by kernel_rfl)
       clear hb hd
       rw [d0, d1, d2, d3, d4]
       clear d0 d1 d2 d3 d4
       go_wp2
       exact ⟨_, rfl, Below.refl _ _, rfl, fun h => absurd h (by decide)⟩
     case htail2 =>
      intro u A w1 hA hb hd hf
      simp only [putAll, dstOf, gtA, gtS, gtZ, Option.bind_some, Option.bind, Act.put, List.setIfInBounds_toArray, List.set_cons_succ, List.set_cons_zero] at hA; subst hA
      have e0 : u 0 = _ := hd 0 (by omega)
      have e1 : u 1 = _ := hd 1 (by omega)
      have e2 : u 2 = _ := hd 2 (by omega)
      have e3 : u 3 = _ := hd 3 (by omega)
      have e4 : u 4 = _ := hd 4 (by omega)
      have e5 : u 5 = _ := hd 5 (by omega)
      first | rw [e0, e1, e2, e3, e4, e5] | simp only [e0, e1, e2, e3, e4, e5]
      clear e0 e1 e2 e3 e4 e5
      clear hd hf
      have nHX := hI9 (HX.out.below hb)
      have nHH := hI9 (HH.out.below hb)
      have nHT := hI9 (HT.out.below hb)
      have nHB := hI9 (bthen HB.out hb)
      clear HX HH HT HB hb
      have HX := nHX
      have HH := nHH
      have HT := nHT
      have HB := nHB
      clear nHX nHH nHT nHB
      have xk := (HH.out.cell k).trans HHK.out
      have xf := fun i => HH.out.frozen i
      have zH := HH.out.lt
      go_wp2
      go_roundw
      case rel => exact ⟨k + 1, by omega, by go_num, hI9 (bset HB.out (by omega) _), hI9 (HX.out.far' (by omega) _), hI9 (by rw [← HV.out]; exact HH.out.set_ k _), hI9 (HT.out.far' (by omega) _)⟩
      case measure => simp [intOf]; omega
    ·rw [hany] at HY
     have cY2 := HY.out.cell 2
     simp only [gtA, gtS, gtZ] at cY2
     have hcv := HCV.out
     unfold clV at hcv
     rw [hany, if_pos rfl, ← HF.out] at hcv
     have p9' : BoL w1 v10 (C.nn k + C.nr k) F := by rw [HF.out]; exact p9
     have HCT := hI9 (fun (W1 : World) (hb : Below w1.heap.size w1 W1) => (tcContains_c v10 (C.nn k + C.nr k) F true W1 (p9'.below hb) (by omega)).mono (fun e w' h => show e = .returned (.bool (exB F true (C.nn k + C.nr k))) ∧ Below W1.heap.size W1 w' from ⟨h.1, by obtain ⟨-, rfl⟩ := h; exact Below.refl _ _⟩))
     generalize exB F true (C.nn k + C.nr k) = b at *
     have HV := hI9 (HHC.out _ hcv)
     clear hcv p9 p9' HCV HF HHC hany
     go_wp2
     clear cY2
     have xT0 := HT.out.cell 0
     refine wp_region_spec 5 (tcSR (w.heap.size + 1) k v10 b) (fun i => false) (by kernel_rfl) (by kernel_rfl) tcSR_below ?hop3 ?htail3
     case hop3 =>
      simp only [List.take_succ_cons, List.take_zero, allOps]
      refine ⟨?_, ?_, ?_, ?_, ?_, trivial⟩
      all_goals intro u A w1 hA hb hd
      all_goals simp only [putAll, dstOf, gtA, gtS, gtZ, Option.bind_some, Option.bind, Act.put, List.setIfInBounds_toArray, List.set_cons_succ, List.set_cons_zero] at hA; subst hA
      all_goals have HB1 := hI9 hb
      ·clear hb hd
       have x0 := (HT.out.below HB1.out).cell 0
       go_wp2
       exact ⟨_, rfl, Below.refl _ _, rfl, fun h => absurd h (by decide)⟩
      ·clear hb hd
       go_wp2
       exact ⟨_, rfl, Below.refl _ _, rfl, fun h => absurd h (by decide)⟩
      ·clear hb hd
       go_wp2
       exact ⟨_, rfl, Below.refl _ _, rfl, fun h => absurd h (by decide)⟩
      ·have d2 : u 2 = _ := hd 2 (by omega) (by kernel_rfl)
       clear hb hd
       rw [d2]
       clear d2
       go_wp2_with (go_at_call 78; (with_reducible refine (HCT.out _ HB1.out).mono ?_); rintro e w2 ⟨rfl, hb2⟩)
       exact ⟨_, rfl, hb2, rfl, fun h => absurd h (by decide)⟩
      ·have d0 : u 0 = _ := hd 0 (by omega) (by kernel_rfl)
       have d1 : u 1 = _ := hd 1 (by omega) (by kernel_rfl)
       have d2 : u 2 = _ := hd 2 (by omega) (by kernel_rfl)
       have d3 : u 3 = _ := hd 3 (by omega) (by kernel_rfl)
       clear hb hd
       rw [d0, d1, d2, d3]
       clear d0 d1 d2 d3
       go_wp2
       exact ⟨_, rfl, Below.refl _ _, rfl, fun h => absurd h (by decide)⟩
     case htail3 =>
      intro u A w1 hA hb hd hf
      simp only [putAll, dstOf, gtA, gtS, gtZ, Option.bind_some, Option.bind, Act.put, List.setIfInBounds_toArray, List.set_cons_succ, List.set_cons_zero] at hA; subst hA
      have e0 : u 0 = _ := hd 0 (by omega)
      have e1 : u 1 = _ := hd 1 (by omega)
      have e2 : u 2 = _ := hd 2 (by omega)
      have e3 : u 3 = _ := hd 3 (by omega)
      have e4 : u 4 = _ := hd 4 (by omega)
      first | rw [e0, e1, e2, e3, e4] | simp only [e0, e1, e2, e3, e4]
      clear e0 e1 e2 e3 e4
      clear hd hf
      have nHX := hI9 (HX.out.below hb)
      have nHH := hI9 (HH.out.below hb)
      have nHT := hI9 (HT.out.below hb)
      have nHB := hI9 (bthen HB.out hb)
      clear HX HH HT HB hb
      have HX := nHX
      have HH := nHH
      have HT := nHT
      have HB := nHB
      clear nHX nHH nHT nHB
      have xk := (HH.out.cell k).trans HHK.out
      have xf := fun i => HH.out.frozen i
      have zH := HH.out.lt
      go_wp2
      go_roundw
      case rel => exact ⟨k + 1, by omega, by go_num, hI9 (bset HB.out (by omega) _), hI9 (HX.out.far' (by omega) _), hI9 (by rw [← HV.out]; exact HH.out.set_ k _), hI9 (HT.out.far' (by omega) _)⟩
      case measure => simp [intOf]; omega
  ·obtain rfl : k = 3 := by omega
   have HH2 := hI9 (show Blk wr (w.heap.size + 1) 4 #[.bool (hcV hv 3 0), .bool (hcV hv 3 1), .bool (hv 2)] from HH.out)
   clear HH
   have x1 := HT.out.cell 0
   have x2 := HH2.out.cell 2
   simp only [gtA, gtS, gtZ] at x1 x2
   go_wp2
   go_ret
   exact ⟨rfl, HB.out⟩
end Go.Proofs.YtlambeiafdpkgaaGreat
