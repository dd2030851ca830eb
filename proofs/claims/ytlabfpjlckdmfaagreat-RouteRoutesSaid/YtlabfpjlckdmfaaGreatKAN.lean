/- Texts joined: KAN. -/
import Derived.Test.YtlabfpjlckdmfaaGreatKZB
import Derived.Test.YtlabfpjlckdmfaaGreatKAM
set_option linter.all false
namespace Go.Proofs.YtlabfpjlckdmfaaGreat
open Go Go.RowKit Go.Proofs
set_option maxRecDepth 100000
set_option maxHeartbeats 8000000
structure FliD where
 m : Nat
 R : Nat → Int
 dep : Int
 fuel : Int
 burn : Int
 res : Int
def nL (R : Nat → Int) (i _j : Nat) : Value := .int .i64 (R i)
def FliD.at_ (F : FliD) (lt : Tab) : Nat → Int
 | 0 => F.dep
 | i + 1 => F.at_ lt i + lt (F.R i).toNat (F.R (i + 1)).toNat
def FliD.nums (F : FliD) : Bool := inB F.m 1 8 && (inB F.dep 0 2000 && (inB F.fuel 0 100000 && (inB F.res 0 100000 && inB F.burn 1 100000)))
def FliD.flown (F : FliD) (P : Nat) (lt : Tab) (i : Nat) : Prop := (∀ j, j < i → 0 ≤ F.R j ∧ F.R j < P) ∧ ∀ j, j + 1 < i → 0 ≤ lt (F.R j).toNat (F.R (j + 1)).toNat
def FliD.ok (F : FliD) (P : Nat) (lt : Tab) : Prop := F.nums = true ∧ F.flown P lt F.m ∧ F.at_ lt (F.m - 1) ≤ 2000
theorem FliD.nums_iff {F : FliD} : F.nums = true ↔ (1 ≤ F.m ∧ F.m ≤ 8) ∧ (0 ≤ F.dep ∧ F.dep ≤ 2000) ∧ (0 ≤ F.fuel ∧ F.fuel ≤ 100000) ∧ (0 ≤ F.res ∧ F.res ≤ 100000) ∧ 1 ≤ F.burn ∧ F.burn ≤ 100000 := by
 unfold FliD.nums
 simp only [Bool.and_eq_true, inB_iff]
 omega
def LegIn (P : Nat) (lt : Tab) : Prop := ∀ i j, -1 ≤ lt i j ∧ lt i j ≤ 200
theorem FliD.at_in {F : FliD} {P : Nat} {lt : Tab} (hl : LegIn P lt) (h0 : 0 ≤ F.dep ∧ F.dep ≤ 2000) : ∀ i, F.flown P lt (i + 1) → 0 ≤ F.at_ lt i ∧ F.at_ lt i ≤ 2000 + 200 * i
 | 0, _ => by show 0 ≤ F.dep ∧ F.dep ≤ _; omega
 | i + 1, h => by
  have ih := FliD.at_in hl h0 i ⟨fun j hj => h.1 j (by omega), fun j hj => h.2 j (by omega)⟩
  have h1 := h.2 i (by omega)
  have h2 := hl (F.R i).toNat (F.R (i + 1)).toNat
  show 0 ≤ F.at_ lt i + lt (F.R i).toNat (F.R (i + 1)).toNat ∧ F.at_ lt i + lt (F.R i).toNat (F.R (i + 1)).toNat ≤ _
  omega
def SlI (w : World) (v : Value) (n : Nat) (R : Nat → Int) : Prop := ∃ A c, v = .slice A n c ∧ n ≤ c ∧ c ≤ 9223372036854775807 ∧ RecsAt w A n 1 (nL R)
theorem SlI.below {w w' : World} {v : Value} {n : Nat} {R : Nat → Int} (h : SlI w v n R) (hb : RowKit.Below w.heap.size w w') : SlI w' v n R := by
 obtain ⟨A, c, e, q1, q2, h⟩ := h
 exact ⟨A, c, e, q1, q2, h.below hb⟩
def FliAt (w : World) (v vN : Value) (M : MetD) (vF vS : Value) (P : Nat) (lt tt : Tab) (F : FliD) (vR : Value) (lw ls lc : Int) (li lb : Bool) : Prop :=
 ∃ gx vA, v = .pointer (some ⟨gx, 0, none⟩) ∧ Blk w gx 79 #[vN, vR, .int .i64 F.dep, .int .i64 F.fuel, .int .i64 F.burn, .int .i64 F.res, .int .i64 lw, .int .i64 ls, .int .i64 lc, .bool li, .bool lb, vA] ∧ NetAt w vN M vF vS P lt tt ∧ SlI w vR F.m F.R ∧ SlI w vA F.m (F.at_ lt) ∧ some gx ≠ vA.ownBlock
theorem FliAt.below {w w' : World} {v vN : Value} {M : MetD} {vF vS : Value} {P : Nat} {lt tt : Tab} {F : FliD} {vR : Value} {lw ls lc : Int} {li lb : Bool} (h : FliAt w v vN M vF vS P lt tt F vR lw ls lc li lb) (hb : RowKit.Below w.heap.size w w') : FliAt w' v vN M vF vS P lt tt F vR lw ls lc li lb := by
 obtain ⟨gx, vA, e, h1, h2, h3, h4, h5⟩ := h
 exact ⟨gx, vA, e, h1.below hb, h2.below hb, h3.below hb, h4.below hb, h5⟩
def FlyRes (B : Nat) (w : World) (v vN : Value) (M : MetD) (vF vS : Value) (P : Nat) (lt tt : Tab) (F : FliD) (vR : Value) (lw ls lc : Int) (li lb : Bool) : Prop :=
 (F.ok P lt → FliAt w v vN M vF vS P lt tt F vR lw ls lc li lb ∧ ∀ g o p, v = .pointer (some ⟨g, o, p⟩) → B ≤ g) ∧ (¬ F.ok P lt → v = .pointer none)
structure FlK (F : FliD) (vR : Value) (lt : Tab) (gN gX i : Nat) (vA : Value) (w wr : World) : Prop where
 b : RowKit.Below w.heap.size w wr
 f : Blk wr w.heap.size 37 #[vR, .int .i64 F.dep, .int .i64 F.fuel, .int .i64 F.burn, .int .i64 F.res]
 x : Blk wr gX 79 #[.pointer (some ⟨gN, 0, none⟩), vR, .int .i64 F.dep, .int .i64 F.fuel, .int .i64 F.burn, .int .i64 F.res, .int .i64 0, .int .i64 0, .int .i64 0, .bool false, .bool false, vA]
 o : wr.ownsRow w.heap.size 3 1 vA i ((List.range i).map fun j => .int .i64 (F.at_ lt j))
 g : w.heap.size ≤ gX
theorem FlK.below {F : FliD} {vR : Value} {lt : Tab} {gN gX i : Nat} {vA : Value} {w wr w2 : World} (h : FlK F vR lt gN gX i vA w wr) (hb : RowKit.Below wr.heap.size wr w2) : FlK F vR lt gN gX i vA w w2 :=
 ⟨bthen h.b hb, h.f.below hb, h.x.below hb, ownsRow_below h.o hb, h.g⟩
theorem wpl_appT {ops : Array Oper} {rest : List Oper} {o : Oper} {a : Act} {w : World} {Q : Exit → Act → World → Prop} (hgd : o.guard = none) (s x : Operand)
  (ho : o.op = .call { callee := .builtin .append, args := #[s, x], argTypes := #[35, 35] }) (base : Nat) (v : Value) (n : Nat) (xs : List Value) (hs : a.eval s = v) (hown : w.ownsRow base 3 1 v n xs)
  (g : Nat) (y : Value) (hx : a.eval x = .slice (some ⟨g, 0, none⟩) 1 1) (hc : w.cell? ⟨g, 0, none⟩ = some y) (hy : y.oneCell' = true) (h40 : n ≤ 1000) (hbase : base ≤ w.heap.size)
  (h : ∀ v' w', Hid (w'.ownsRow base 3 1 v' (n + 1) (xs ++ [y])) → Hid (w.grownBy w' v.ownBlock) → wpList Tryz.prog ops Q rest (a.put o.dst v') w') : wpList Tryz.prog ops Q (o :: rest) a w := by
 have hI := Tryz.inIx
 cases hi : Tryz.prog.info? 3 with
 | none => rw [hi] at hI; cases hI
 | some i =>
  rw [hi] at hI
  simp only [Option.map_some, Option.some.injEq, Prod.mk.injEq] at hI
  refine wpList_append_own_at w hgd s x 35 ho base 3 i (.int .i64 0) 1 8 Tryz.inUx hi hI.1 hI.2.1 hI.2.2 rfl (by decide) v n xs hs hown ⟨g, 0, none⟩ 1 1 [y] hx rfl ?_ ?_ (by unfold maxLen; omega) (by omega) hbase ?_
  ·intro j u hj
   match j, hj with
   | 0, hj =>
    have : u = y := by simpa using hj.symm
    subst this
    exact hc
  ·intro u hu
   have : u = y := by simpa using hu
   subst this
   exact hy
  ·intro v' w' h1 h2 h3 h4
   exact h v' w' (hI9 h1) (hI9 h2)
theorem own_blk_ne {w : World} {base g n : Nat} {T U : TypeId} {v : Value} {xs : List Value} {cs : Array Value} (h : w.ownsRow base T 1 v n xs) (hb : Blk w g U cs) (hne : T ≠ U) : some g ≠ v.ownBlock := by
 rcases h.2 with ⟨rfl, -⟩ | ⟨k, cap, cur, rfl, -, h3, -⟩
 ·intro e; cases e
 ·intro e
  have : g = k := by simpa [Value.ownBlock] using e
  subst this
  exact blk_ne (show Blk w g T cur from h3) hb hne rfl
theorem FlK.step {F : FliD} {vR : Value} {lt : Tab} {gN gX i : Nat} {vA vB : Value} {w wr w1 w2 : World} (h : FlK F vR lt gN gX i vA w wr) (hb : RowKit.Below wr.heap.size wr w1) (ho : w2.ownsRow w.heap.size 3 1 vB (i + 1) ((List.range i).map (fun j => .int .i64 (F.at_ lt j)) ++ [.int .i64 (F.at_ lt i)]))
  (hg : w1.grownBy w2 vA.ownBlock) : FlK F vR lt gN gX (i + 1) vB w (w2.setCell ⟨gX, 11, none⟩ vB) := by
 have h1 := h.below hb
 have hvo : ∀ b, some b = vA.ownBlock → w.heap.size ≤ b := fun b q => (ownLt h1.o q).1
 have hb2 : RowKit.Below w.heap.size w w2 := h1.b.trans (belowGrew hg h1.b.size hvo)
 have hf := h1.f.grew hg (own_blk_ne h1.o h1.f (by decide))
 have hx := h1.x.grew hg (own_blk_ne h1.o h1.x (by decide))
 have hne : some gX ≠ vB.ownBlock := own_blk_ne ho hx (by decide)
 refine ⟨bset hb2 h.g _, hf.far' (blk_ne hf hx (by decide)) _, hx.set_ 11 vB, ?_, h.g⟩
 have e : (List.range (i + 1)).map (fun j => Value.int .i64 (F.at_ lt j)) = (List.range i).map (fun j => .int .i64 (F.at_ lt j)) ++ [.int .i64 (F.at_ lt i)] := by rw [List.range_succ, List.map_append]; rfl
 rw [e]
 obtain ⟨o1, o2⟩ := ho
 refine ⟨o1, ?_⟩
 rcases o2 with ⟨q1, q2⟩ | ⟨k, cap, cur, q1, q2, q3, q4⟩
 ·exact Or.inl ⟨q1, q2⟩
 ·refine Or.inr ⟨k, cap, cur, q1, q2, ?_, q4⟩
  exact (show Blk w2 k _ cur from q3).far' (fun e => hne (by rw [q1, e]; rfl)) _
theorem owns_form {w : World} {base n : Nat} {T : TypeId} {v : Value} {xs : List Value} (h : w.ownsRow base T 1 v (n + 1) xs) : ∃ k c, v = .slice (some ⟨k, 0, none⟩) (n + 1) c := by
 rcases h.2 with ⟨-, h⟩ | ⟨k, cap, cur, e, -⟩
 ·omega
 ·exact ⟨k, cap, e⟩
def FliD.now (F : FliD) (lt : Tab) : Nat → Int
 | 0 => F.dep
 | i + 1 => F.at_ lt i
theorem fly_c (M : MetD) (vF vS vN : Value) (P : Nat) (lt tt : Tab) (F : FliD) (vR : Value) (w : World) (hN : NetAt w vN M vF vS P lt tt) (hP : M.places = P) (hp8 : 1 ≤ P ∧ P ≤ 8) (hl : LegIn P lt) (hR : SlI w vR F.m F.R) :
  Calls Tryz.prog 53 #[vN, .agg #[vR, .int .i64 F.dep, .int .i64 F.fuel, .int .i64 F.burn, .int .i64 F.res]] w fun e w' => ∃ v, e = .returned v ∧ RowKit.Below w.heap.size w w' ∧ FlyRes w.heap.size w' v vN M vF vS P lt tt F vR 0 0 0 false false := by
 have HN0 := hI9 hN
 obtain ⟨gN, gL, gT, cL, cT, rL, rT, loL, hiL, loT, hiT, rfl, n1, n2, n3⟩ := hN
 have HR0 := hI9 hR
 obtain ⟨A, c, rfl, r1, r2, r3⟩ := hR
 have HN := hI9 n1
 have HSL := hI9 n2
 have HR := hI9 r3
 have HP := hI9 hP
 clear n1 n2 n3 r3 hP
 cases b1 : inB (F.m : Int) 1 8
 case false =>
  have HNO := hI9 (show ¬ F.ok P lt from fun h => by have := h.1; unfold FliD.nums at this; simp [b1] at this)
  go_enter Tryz.func53, Tryz.ntmps53
  go_wp2_with (fail)
  have _x := frm1 w #[(.slice A F.m c), .int .i64 F.dep, .int .i64 F.fuel, .int .i64 F.burn, .int .i64 F.res] 37
  have HX := hI9 _x.1
  have HB := hI9 _x.2.1
  have zW := _x.2.2
  clear _x
  generalize World.alloc w _ = W at *
  have hx0 := HX.out.cell 0
  have hx1 := HX.out.cell 1
  have hx2 := HX.out.cell 2
  have hx3 := HX.out.cell 3
  have hx4 := HX.out.cell 4
  simp only [gtA, gtS, gtZ] at hx0 hx1 hx2 hx3 hx4
  go_wp2_with (first | (go_at_call 28; (with_reducible refine (rwithin_c _ _ _ _).mono ?_); rintro e w1 ⟨rfl, rfl⟩))
  go_ret
  exact ⟨_, rfl, HB.out, fun h => absurd h HNO.out, fun _ => rfl⟩
 cases b2 : inB F.dep 0 2000
 case false =>
  have HNO := hI9 (show ¬ F.ok P lt from fun h => by have := h.1; unfold FliD.nums at this; simp [b2] at this)
  go_enter Tryz.func53, Tryz.ntmps53
  go_wp2_with (fail)
  have _x := frm1 w #[(.slice A F.m c), .int .i64 F.dep, .int .i64 F.fuel, .int .i64 F.burn, .int .i64 F.res] 37
  have HX := hI9 _x.1
  have HB := hI9 _x.2.1
  have zW := _x.2.2
  clear _x
  generalize World.alloc w _ = W at *
  have hx0 := HX.out.cell 0
  have hx1 := HX.out.cell 1
  have hx2 := HX.out.cell 2
  have hx3 := HX.out.cell 3
  have hx4 := HX.out.cell 4
  simp only [gtA, gtS, gtZ] at hx0 hx1 hx2 hx3 hx4
  go_wp2_with (first | (go_at_call 28; (with_reducible refine (rwithin_c _ _ _ _).mono ?_); rintro e w1 ⟨rfl, rfl⟩))
  go_ret
  exact ⟨_, rfl, HB.out, fun h => absurd h HNO.out, fun _ => rfl⟩
 cases b3 : inB F.fuel 0 100000
 case false =>
  have HNO := hI9 (show ¬ F.ok P lt from fun h => by have := h.1; unfold FliD.nums at this; simp [b3] at this)
  go_enter Tryz.func53, Tryz.ntmps53
  go_wp2_with (fail)
  have _x := frm1 w #[(.slice A F.m c), .int .i64 F.dep, .int .i64 F.fuel, .int .i64 F.burn, .int .i64 F.res] 37
  have HX := hI9 _x.1
  have HB := hI9 _x.2.1
  have zW := _x.2.2
  clear _x
  generalize World.alloc w _ = W at *
  have hx0 := HX.out.cell 0
  have hx1 := HX.out.cell 1
  have hx2 := HX.out.cell 2
  have hx3 := HX.out.cell 3
  have hx4 := HX.out.cell 4
  simp only [gtA, gtS, gtZ] at hx0 hx1 hx2 hx3 hx4
  go_wp2_with (first | (go_at_call 28; (with_reducible refine (rwithin_c _ _ _ _).mono ?_); rintro e w1 ⟨rfl, rfl⟩))
  go_ret
  exact ⟨_, rfl, HB.out, fun h => absurd h HNO.out, fun _ => rfl⟩
 cases b4 : inB F.res 0 100000
 case false =>
  have HNO := hI9 (show ¬ F.ok P lt from fun h => by have := h.1; unfold FliD.nums at this; simp [b4] at this)
  go_enter Tryz.func53, Tryz.ntmps53
  go_wp2_with (fail)
  have _x := frm1 w #[(.slice A F.m c), .int .i64 F.dep, .int .i64 F.fuel, .int .i64 F.burn, .int .i64 F.res] 37
  have HX := hI9 _x.1
  have HB := hI9 _x.2.1
  have zW := _x.2.2
  clear _x
  generalize World.alloc w _ = W at *
  have hx0 := HX.out.cell 0
  have hx1 := HX.out.cell 1
  have hx2 := HX.out.cell 2
  have hx3 := HX.out.cell 3
  have hx4 := HX.out.cell 4
  simp only [gtA, gtS, gtZ] at hx0 hx1 hx2 hx3 hx4
  go_wp2_with (first | (go_at_call 28; (with_reducible refine (rwithin_c _ _ _ _).mono ?_); rintro e w1 ⟨rfl, rfl⟩))
  go_ret
  exact ⟨_, rfl, HB.out, fun h => absurd h HNO.out, fun _ => rfl⟩
 cases b5 : inB F.burn 1 100000
 case false =>
  have HNO := hI9 (show ¬ F.ok P lt from fun h => by have := h.1; unfold FliD.nums at this; simp [b5] at this)
  go_enter Tryz.func53, Tryz.ntmps53
  go_wp2_with (fail)
  have _x := frm1 w #[(.slice A F.m c), .int .i64 F.dep, .int .i64 F.fuel, .int .i64 F.burn, .int .i64 F.res] 37
  have HX := hI9 _x.1
  have HB := hI9 _x.2.1
  have zW := _x.2.2
  clear _x
  generalize World.alloc w _ = W at *
  have hx0 := HX.out.cell 0
  have hx1 := HX.out.cell 1
  have hx2 := HX.out.cell 2
  have hx3 := HX.out.cell 3
  have hx4 := HX.out.cell 4
  simp only [gtA, gtS, gtZ] at hx0 hx1 hx2 hx3 hx4
  go_wp2_with (first | (go_at_call 28; (with_reducible refine (rwithin_c _ _ _ _).mono ?_); rintro e w1 ⟨rfl, rfl⟩))
  go_ret
  exact ⟨_, rfl, HB.out, fun h => absurd h HNO.out, fun _ => rfl⟩
 have HNU := hI9 (show F.nums = true by unfold FliD.nums; rw [b1, b2, b3, b4, b5]; rfl)
 go_enter Tryz.func53, Tryz.ntmps53
 go_wp2_with (fail)
 have _x := frm1 w #[(.slice A F.m c), .int .i64 F.dep, .int .i64 F.fuel, .int .i64 F.burn, .int .i64 F.res] 37
 have HX := hI9 _x.1
 have HB := hI9 _x.2.1
 have zW := _x.2.2
 clear _x
 generalize World.alloc w _ = W at *
 have hx0 := HX.out.cell 0
 have hx1 := HX.out.cell 1
 have hx2 := HX.out.cell 2
 have hx3 := HX.out.cell 3
 have hx4 := HX.out.cell 4
 simp only [gtA, gtS, gtZ] at hx0 hx1 hx2 hx3 hx4
 go_wp2_with (first | (go_at_call 28; (with_reducible refine (rwithin_c _ _ _ _).mono ?_); rintro e w1 ⟨rfl, rfl⟩))
 have K0 := hI9 (show FlK F (.slice A F.m c) lt gN W.heap.size 0 (.slice none 0 0) w (W.alloc (.cells #[.pointer (some ⟨gN, 0, none⟩), .slice A F.m c, .int .i64 F.dep, .int .i64 F.fuel, .int .i64 F.burn, .int .i64 F.res, .int .i64 0, .int .i64 0, .int .i64 0, .bool false, .bool false, .slice none 0 0] 79)) from ⟨bal HB.out _, HX.out.alloc _, Blk.new _ _ _, World.ownsRow_nil _ _ _ _, HB.out.size⟩)
 clear HX HB hx0 hx1 hx2 hx3 hx4 zW
 generalize W.alloc (.cells #[.pointer (some ⟨gN, 0, none⟩), .slice A F.m c, .int .i64 F.dep, .int .i64 F.fuel, .int .i64 F.burn, .int .i64 F.res, .int .i64 0, .int .i64 0, .int .i64 0, .bool false, .bool false, .slice none 0 0] 79) = wX at *
 generalize W.heap.size = gX at *
 have hnu := FliD.nums_iff.1 HNU.out
 clear b1 b2 b3 b4 b5
 go_loopg [6, 48] F.m (fun gy x iv wr => ∃ (i : Nat) (vA : Value), iv = .int .i64 i ∧ x = .int .i64 (F.now lt i) ∧ i ≤ F.m ∧ F.m - i ≤ gy ∧ Hid (F.flown P lt i) ∧ Hid (FlK F (.slice A F.m c) lt gN gX i vA w wr))
 case atStart => exact ⟨0, _, rfl, rfl, Nat.zero_le _, Nat.le_refl _, hI9 ⟨fun j hj => by omega, fun j hj => by omega⟩, K0⟩
 case round =>
  clear K0
  obtain ⟨i, vA, rfl, rfl, hi, hgy, HFL, K0⟩ := hrel
  by_cases hlt : i < F.m
  case pos =>
   have hltz : (i : Int) < (F.m : Int) := by omega
   obtain ⟨bs, os, rfl, hbs, hcs⟩ := HR.out (by omega)
   have cr : wr.cell? ⟨bs, os + i, none⟩ = some (.int .i64 (F.R i)) := (K0.out.b.cell (p := ⟨bs, os + i, none⟩) hbs).trans (by have := hcs i hlt 0 (by omega); rw [Nat.mul_one, Nat.add_zero] at this; exact this)
   have n0 : wr.cell? ⟨gN, 0, none⟩ = some (.int .i64 (P : Int)) := by rw [← HP.out]; exact (HN.out.below K0.out.b).cell 0
   cases q1 : inB (F.R i) 0 ((P : Int) - 1)
   case false =>
    have HNO := hI9 (show ¬ F.ok P lt from fun h => by
     have := h.2.1.1 i hlt
     have q2 : ¬ inB (F.R i) 0 ((P : Int) - 1) = true := by rw [q1]; decide
     rw [inB_iff] at q2
     omega)
    have HB := hI9 K0.out.b
    clear K0
    go_wp2_with (first | (go_at_call 28; (with_reducible refine (rwithin_c _ _ _ _).mono ?_); rintro e w1 ⟨rfl, rfl⟩))
    go_ret
    exact ⟨_, rfl, HB.out, fun h => absurd h HNO.out, fun _ => rfl⟩
   have q2 := inB_iff.1 q1
   have x11 := K0.out.x.cell 11
   simp only [gtA, gtS, gtZ] at x11
   rcases i with _ | j
   ·rw [Nat.add_zero] at cr
    have HF1 := hI9 (show F.flown P lt 1 from ⟨fun j hj => by (obtain rfl : j = 0 := by omega); omega, fun j hj => by omega⟩)
    have e0 : F.now lt 0 = F.at_ lt 0 := rfl
    rw [e0]
    clear e0
    generalize hA0 : F.at_ lt 0 = D0 at *
    have HA0 := hI9 hA0
    clear hA0
    go_wp2_with (first | (go_at_call 28; (with_reducible refine (rwithin_c _ _ _ _).mono ?_); rintro e w1 ⟨rfl, rfl⟩) | (at_builtin; refine wpl_appT rfl _ _ rfl w.heap.size _ (0) _ rfl (ownsRow_below K0.out.o (bal (RowKit.Below.refl _ _) _)) wr.heap.size (.int .i64 D0) rfl ?a1 rfl (by omega) ?b1 ?_))
    (try case a1 => exact (Blk.new _ _ _).cell 0)
    case b1 => have := K0.out.b.size; simp; omega
    intro v' w3 ho hg
    obtain ⟨kv, cv, rfl⟩ := owns_form ho.out
    have hx3 := ((K0.out.x.alloc _).grew hg.out (own_blk_ne K0.out.o K0.out.x (by decide)))
    have cx := hx3.cell 11
    have fx := hx3.frozen 11
    simp only [gtA, gtS, gtZ] at cx
    have nK := hI9 (FlK.step K0.out (bal (RowKit.Below.refl _ _) _) (by first | exact ho.out | (rw [HA0.out]; exact ho.out) | (rw [HA0.out]; simpa [List.range_succ] using ho.out)) hg.out)
    clear K0 ho hg hx3 x11
    go_wp2_with (fail)
    go_roundg (F.m - 1)
    case measure => omega
    case rel => exact ⟨1, _, by first | rfl | go_num | (congr 1; omega), by rw [← HA0.out]; rfl, by omega, by omega, HF1, nK⟩
   ·have hj := HFL.out.1 j (by omega)
    obtain ⟨a, ha⟩ : ∃ a : Nat, F.R j = a := Int.eq_ofNat_of_zero_le hj.1
    obtain ⟨b, hb⟩ : ∃ b : Nat, F.R (j + 1) = b := Int.eq_ofNat_of_zero_le q2.1
    have haP : a < P := by omega
    have hbP : b < P := by omega
    have crj : wr.cell? ⟨bs, os + j, none⟩ = some (.int .i64 (a : Int)) := by rw [← ha]; exact (K0.out.b.cell (p := ⟨bs, os + j, none⟩) hbs).trans (by have := hcs j (by omega) 0 (by omega); rw [Nat.mul_one, Nat.add_zero] at this; exact this)
    rw [hb] at cr q1 q2
    have n14 := (HN.out.below K0.out.b).cell 14
    have f0 := K0.out.f.cell 0
    simp only [gtA, gtS, gtZ] at n14 f0
    obtain ⟨cra, -, -, co⟩ := (HSL.out.below K0.out.b).o a haP
    have cc := (HSL.out.below K0.out.b).cell haP hbP
    have hL := hl a b
    have hD := FliD.at_in hl hnu.2.1 j HFL.out
    have hltz2 : (j : Int) + 1 < (F.m : Int) := by omega
    have e0 : F.now lt (j + 1) = F.at_ lt j := rfl
    rw [e0]
    clear e0
    have HA1 := hI9 (show F.at_ lt (j + 1) = F.at_ lt j + lt a b from by
     show F.at_ lt j + lt (F.R j).toNat (F.R (j + 1)).toNat = _
     rw [ha, hb]; rfl)
    have HLE := hI9 (show lt (F.R j).toNat (F.R (j + 1)).toNat = lt a b by rw [ha, hb]; rfl)
    have HRB := hI9 hb
    clear ha hb hcs
    generalize F.at_ lt j = D at *
    generalize hLv : lt a b = L at *
    clear hLv
    have wj : IntKind.i64.wrap ((j : Int) + 1 - 1) = (j : Int) := by rw [IntKind.wrap_i64]; omega
    go_wp2_with (first | (go_at_call 28; (with_reducible refine (rwithin_c _ _ _ _).mono ?_); rintro e w1 ⟨rfl, rfl⟩))
    (refine wp_region_drawnt 15 (by kernel_rfl) (by kernel_rfl) ?_; simp only [List.take_succ_cons, List.take_zero, List.drop_succ_cons, List.drop_zero]; (repeat (go_big_quiet_step ( fail))); refine wpQuiet_nil ?_; rintro _ ⟨nq, rfl⟩)
    have nK := hI9 (K0.out.below (bdn (RowKit.Below.refl _ _) nq))
    clear K0 cr crj n0 n14 f0 co cc x11 wj
    have K0 := nK
    clear nK
    generalize wr.drewN nq = wr at *
    have x11 := K0.out.x.cell 11
    simp only [gtA, gtS, gtZ] at x11
    by_cases hLn : L < 0
    ·have HNO := hI9 (show ¬ F.ok P lt from fun h => by
      have := h.2.1.2 j (by omega)
      rw [HLE.out] at this
      omega)
     have HB := hI9 K0.out.b
     clear K0 x11
     go_wp2_with (fail)
     go_ret
     exact ⟨_, rfl, HB.out, fun h => absurd h HNO.out, fun _ => rfl⟩
    ·have HF1 := hI9 (show F.flown P lt (j + 2) from ⟨fun k hk => by
       by_cases e : k = j + 1
       ·subst e; rw [HRB.out]; omega
       ·exact HFL.out.1 k (by omega), fun k hk => by
       by_cases e : k = j
       ·subst e; rw [HLE.out]; omega
       ·exact HFL.out.2 k (by omega)⟩)
     have HA0 := HA1
     go_wp2_with (first | (go_at_call 28; (with_reducible refine (rwithin_c _ _ _ _).mono ?_); rintro e w1 ⟨rfl, rfl⟩) | (at_builtin; refine wpl_appT rfl _ _ rfl w.heap.size _ ((j + 1)) _ rfl (ownsRow_below K0.out.o (bal (RowKit.Below.refl _ _) _)) wr.heap.size (.int .i64 (D + L)) rfl ?a2 rfl (by omega) ?b2 ?_))
     (try case a2 => exact (Blk.new _ _ _).cell 0)
     case b2 => have := K0.out.b.size; simp; omega
     intro v' w3 ho hg
     obtain ⟨kv, cv, rfl⟩ := owns_form ho.out
     have hx3 := ((K0.out.x.alloc _).grew hg.out (own_blk_ne K0.out.o K0.out.x (by decide)))
     have cx := hx3.cell 11
     have fx := hx3.frozen 11
     simp only [gtA, gtS, gtZ] at cx
     have nK := hI9 (FlK.step K0.out (bal (RowKit.Below.refl _ _) _) (by first | exact ho.out | (rw [HA0.out]; exact ho.out) | (rw [HA0.out]; simpa [List.range_succ] using ho.out)) hg.out)
     clear K0 ho hg hx3 x11
     go_wp2_with (fail)
     go_roundg (F.m - (j + 2))
     case measure => omega
     case rel => exact ⟨j + 2, _, by first | rfl | go_num | (congr 1; omega), by rw [show F.now lt (j + 2) = F.at_ lt (j + 1) from rfl, HA1.out], by omega, by omega, HF1, nK⟩
  rcases i with _ | j
  ·omega
  have him : j + 1 = F.m := by omega
  have hmj : F.m - 1 = j := by omega
  have hD := FliD.at_in hl hnu.2.1 j HFL.out
  have hnlt : ¬ ((j + 1 : Nat) : Int) < (F.m : Int) := by omega
  have HO := hI9 (show F.ok P lt ↔ F.at_ lt j ≤ 2000 from ⟨fun h => hmj ▸ h.2.2, fun h => ⟨HNU.out, him ▸ HFL.out, by rw [hmj]; exact h⟩⟩)
  have HIM := hI9 him
  clear him hmj
  have e0 : F.now lt (j + 1) = F.at_ lt j := rfl
  rw [e0]
  clear e0
  generalize F.at_ lt j = D at *
  by_cases h2 : 2000 < D
  ·have HB := hI9 K0.out.b
   clear K0
   go_wp2_with (fail)
   go_ret
   exact ⟨_, rfl, HB.out, fun h => absurd (HO.out.1 h) (by omega), fun _ => rfl⟩
  ·go_wp2_with (fail)
   go_ret
   refine ⟨_, rfl, K0.out.b, fun _ => ⟨⟨gX, vA, rfl, K0.out.x, HN0.out.below K0.out.b, HR0.out.below K0.out.b, ?_, own_blk_ne K0.out.o K0.out.x (by decide)⟩, fun g o p e => by cases e; exact K0.out.g⟩, fun h => absurd (HO.out.2 (by omega)) h⟩
   have ho := K0.out.o
   rw [HIM.out] at ho
   obtain ⟨A2, c2, e1, e2, e3, e4⟩ := RecsAt.of_owns (V := nL (F.at_ lt)) (by omega) (show wr.ownsRow w.heap.size 3 1 vA F.m ((List.range (F.m * 1)).map fun q => nL (F.at_ lt) (q / 1) (q % 1)) from by
    have e : ((List.range (F.m * 1)).map fun q => nL (F.at_ lt) (q / 1) (q % 1)) = (List.range F.m).map fun j => Value.int .i64 (F.at_ lt j) := by
     rw [Nat.mul_one]
     refine List.map_congr_left fun q _ => ?_
     show Value.int .i64 (F.at_ lt (q / 1)) = _
     rw [Nat.div_one]
    rw [e]; exact ho)
   exact ⟨A2, c2, e1, e2, e3, e4⟩
end Go.Proofs.YtlabfpjlckdmfaaGreat

namespace Go.Proofs.YtlabfpjlckdmfaaGreat
open Go Go.RowKit Go.Proofs
set_option maxRecDepth 100000
set_option maxHeartbeats 8000000
theorem RecsAt.frm {w w' : World} {A : Option Addr} {n k : Nat} {V : Nat → Nat → Value} (h : RecsAt w A n k V) (hs : w.heap.size ≤ w'.heap.size) (hf : ∀ b off, A = some ⟨b, off, none⟩ → w'.heap[b]? = w.heap[b]?) : RecsAt w' A n k V := by
 intro hn
 obtain ⟨b, off, rfl, hb, hc⟩ := h hn
 exact ⟨b, off, rfl, by omega, fun i hi j hj => by rw [← hc i hi j hj]; simp only [World.cell?, hf b off rfl]⟩
def FliD.okB (F : FliD) (P : Nat) (lt : Tab) : Bool :=
 F.nums && ((List.range F.m).all (fun j => decide (0 ≤ F.R j ∧ F.R j < P)) && ((List.range (F.m - 1)).all (fun j => decide (0 ≤ lt (F.R j).toNat (F.R (j + 1)).toNat)) && decide (F.at_ lt (F.m - 1) ≤ 2000)))
theorem FliD.okB_iff {F : FliD} {P : Nat} {lt : Tab} : F.okB P lt = true ↔ F.ok P lt := by
 unfold FliD.okB FliD.ok FliD.flown
 simp only [Bool.and_eq_true, List.all_eq_true, List.mem_range, decide_eq_true_eq]
 constructor
 ·rintro ⟨h1, h2, h3, h4⟩
  exact ⟨h1, ⟨h2, fun j hj => h3 j (by omega)⟩, h4⟩
 ·rintro ⟨h1, ⟨h2, h3⟩, h4⟩
  exact ⟨h1, h2, fun j hj => h3 j (by omega), h4⟩
theorem netE_ok {M : MetD} {S : Tab} {n : Nat} (h : netE M S n = 0) : M.bad = false ∧ legsBad M S n = false := by
 unfold netE at h
 cases hb : M.bad
 ·have he : M.err = 0 := by unfold MetD.err; rw [hb]; rfl
  rw [he, if_pos rfl] at h
  cases hl : legsBad M S n
  ·exact ⟨rfl, rfl⟩
  ·rw [hl] at h; cases h
 ·have he : M.err = 40 := by unfold MetD.err; rw [hb]; rfl
  rw [he, if_neg (by decide)] at h
  exact absurd h (by decide)
theorem netME_ok {M : MetD} {lw ls lc : Int} {S : Tab} {n : Nat} (h : netME M lw ls lc S n = 0) : M.bad = false ∧ legsBad M S n = false ∧ opE M lw ls lc 0 0 = 0 := by
 unfold netME at h
 cases hb : M.bad
 ·have he : M.err = 0 := by unfold MetD.err; rw [hb]; rfl
  rw [he, if_pos rfl] at h
  by_cases ho : opE M lw ls lc 0 0 = 0
  ·rw [if_pos ho] at h
   cases hl : legsBad M S n
   ·exact ⟨rfl, rfl, ho⟩
   ·rw [hl] at h; cases h
  ·rw [if_neg ho] at h; exact absurd h ho
 ·have he : M.err = 40 := by unfold MetD.err; rw [hb]; rfl
  rw [he, if_neg (by decide)] at h
  exact absurd h (by decide)
theorem net_facts {M : MetD} {S : Tab} {n : Nat} (hb : M.bad = false) (hl : legsBad M S n = false) : M.places = (M.places.toNat : Int) ∧ (1 ≤ M.places.toNat ∧ M.places.toNat ≤ 8) ∧ LegIn M.places.toNat (lgT S n) ∧ NetOk M.places.toNat S n := by
 have h := (MetD.ok_of hb).places
 have hP : M.places = (M.places.toNat : Int) := by omega
 have hn := (legs_ok hP hl).2
 exact ⟨hP, by omega, fun i j => by have := lgT_in hn n (Nat.le_refl _) i j; omega, hn⟩
theorem Tryz.rowFli : RowTy Tryz.prog 37 5 := ⟨by kernel_rfl, by kernel_rfl⟩
def nfE (E : Int) (M : MetD) (S : Tab) (n : Nat) (F : FliD) : Int := if E = 0 then (if F.okB M.places.toNat (lgT S n) then 0 else 51) else E
def NfRes (E : Int) (w : World) (v : Value) (M : MetD) (vF vS : Value) (S : Tab) (n : Nat) (F : FliD) (vR : Value) (lw ls lc : Int) (li lb : Bool) : Prop := E = 0 → ∃ vN, FliAt w v vN M vF vS M.places.toNat (lgT S n) (timT S n M.places.toNat) F vR lw ls lc li lb
theorem newFlightM_c (M : MetD) (vF vS : Value) (gl : Nat) (lw ls lc : Int) (li lb : Bool) (A : Option Addr) (n c : Nat) (S : Tab) (F : FliD) (vR : Value) (w : World) (hM : MetAt w vF vS M) (hmi : Blk w gl 31 #[.int .i64 lw, .int .i64 ls, .int .i64 lc, .bool li, .bool lb]) (hc1 : n ≤ c) (hc2 : c ≤ 9223372036854775807) (hL : RecsAt w A n 3 (nV S)) (hR : SlI w vR F.m F.R) :
  Calls Tryz.prog 25 #[.agg #[.int .i64 M.places, .int .i64 M.any.a0, .int .i64 M.any.a1, .int .i64 M.any.a2, .int .i64 M.any.a3, .int .i64 M.any.a4, .int .i64 M.any.a5, .bool M.any.i, .bool M.any.s, .int .i64 M.mw, .int .i64 M.ms, .int .i64 M.mc, vF, vS], .pointer (some ⟨gl, 0, none⟩), .slice A n c, .agg #[vR, .int .i64 F.dep, .int .i64 F.fuel, .int .i64 F.burn, .int .i64 F.res]] w fun e w' => ∃ v, e = .returned (.tuple #[v, .int .i64 (nfE (netME M lw ls lc S n) M S n F)]) ∧ RowKit.Below w.heap.size w w' ∧ NfRes (nfE (netME M lw ls lc S n) M S n F) w' v M vF vS S n F vR lw ls lc li lb := by
 have HM := hI9 hM
 have HL := hI9 hL
 have HR := hI9 hR
 have HMI := hI9 hmi
 clear hM hL hR hmi
 have hnn := fun w1 h1 hm h2 => netM_c M vF vS gl lw ls lc li lb A n c S w1 h1 hm hc1 hc2 h2
 obtain ⟨E, hE⟩ : ∃ q, q = netME M lw ls lc S n := ⟨_, rfl⟩
 obtain ⟨NE, hNE⟩ : ∃ q, q = nfE E M S n F := ⟨_, rfl⟩
 rw [← hE] at hnn ⊢
 rw [← hNE]
 have HNN := hI9 hnn
 clear hnn
 unfold nfE at hNE
 by_cases h0 : E = 0
 case neg =>
  rw [if_neg h0] at hNE
  have hz : (E != 0) = true := by simpa using h0
  have HH := hI9 (And.intro hNE h0)
  clear hNE h0 hE
  go_enter Tryz.func25, Tryz.ntmps25
  go_wp2_with (fail)
  have _x := frm2 w #[.int .i64 M.places, .int .i64 M.any.a0, .int .i64 M.any.a1, .int .i64 M.any.a2, .int .i64 M.any.a3, .int .i64 M.any.a4, .int .i64 M.any.a5, .bool M.any.i, .bool M.any.s, .int .i64 M.mw, .int .i64 M.ms, .int .i64 M.mc, vF, vS] 29 #[vR, .int .i64 F.dep, .int .i64 F.fuel, .int .i64 F.burn, .int .i64 F.res] 37
  have HX := hI9 _x.1
  have HF := hI9 _x.2.1
  have HB := hI9 _x.2.2.1
  have zW := _x.2.2.2
  clear _x
  generalize World.alloc (World.alloc w _) _ = W at *
  have tok : True := trivial
  go_wp2_with (first | (have _t := tok; refine wpl_row rfl 29 _ rfl _ rfl _ 14 HX.out Tryz.rowMet rfl ?_; simp only [Act.put]; clear tok))
  refine (HNN.out _ (HM.out.below HB.out) (HMI.out.below HB.out) (HL.out.below HB.out)).mono ?_
  rintro e w2 ⟨vN, rfl, hb2, hN⟩
  have nHX := hI9 (HX.out.below hb2)
  have nHF := hI9 (HF.out.below hb2)
  have nHB := hI9 (bthen HB.out hb2)
  clear HX HF HB hb2
  have HX := nHX
  have HF := nHF
  have HB := nHB
  clear nHX nHF nHB
  go_wp2_with (fail)
  go_ret2
  exact ⟨_, by rw [HH.out.1]; rfl, HB.out, fun h => absurd (HH.out.1.symm.trans h) HH.out.2⟩
 rw [if_pos h0] at hNE
 subst h0
 obtain ⟨f1, f2, -⟩ := netME_ok hE.symm
 obtain ⟨f3, f4, f5, f6⟩ := net_facts f1 f2
 have HFC := hI9 (fun v w1 h1 h2 => fly_c M vF vS v M.places.toNat (lgT S n) (timT S n M.places.toNat) F vR w1 h1 f3 f4 f5 h2)
 have HNE := hI9 hNE
 clear hNE hE f1 f2 f3 f4 f5 f6
 go_enter Tryz.func25, Tryz.ntmps25
 go_wp2_with (fail)
 have _x := frm2 w #[.int .i64 M.places, .int .i64 M.any.a0, .int .i64 M.any.a1, .int .i64 M.any.a2, .int .i64 M.any.a3, .int .i64 M.any.a4, .int .i64 M.any.a5, .bool M.any.i, .bool M.any.s, .int .i64 M.mw, .int .i64 M.ms, .int .i64 M.mc, vF, vS] 29 #[vR, .int .i64 F.dep, .int .i64 F.fuel, .int .i64 F.burn, .int .i64 F.res] 37
 have HX := hI9 _x.1
 have HF := hI9 _x.2.1
 have HB := hI9 _x.2.2.1
 have zW := _x.2.2.2
 clear _x
 generalize World.alloc (World.alloc w _) _ = W at *
 have tok : True := trivial
 go_wp2_with (first | (have _t := tok; refine wpl_row rfl 29 _ rfl _ rfl _ 14 HX.out Tryz.rowMet rfl ?_; simp only [Act.put]; clear tok))
 refine (HNN.out _ (HM.out.below HB.out) (HMI.out.below HB.out) (HL.out.below HB.out)).mono ?_
 rintro e w2 ⟨vN, rfl, hb2, hN⟩
 have nHX := hI9 (HX.out.below hb2)
 have nHF := hI9 (HF.out.below hb2)
 have nHB := hI9 (bthen HB.out hb2)
 clear HX HF HB hb2
 have HX := nHX
 have HF := nHF
 have HB := nHB
 clear nHX nHF nHB
 have HNA := hI9 (hN (by trivial))
 clear hN
 go_wp2_with (refine wpl_row rfl 37 (.tmp 7) rfl _ rfl _ 5 HF.out Tryz.rowFli rfl ?_; simp only [Act.put])
 refine (HFC.out _ _ HNA.out (HR.out.below HB.out)).mono ?_
 rintro e w3 ⟨v, rfl, hb3, hfr⟩
 have HB3 := hI9 (bthen HB.out hb3)
 have HB2 := HB
 have HB23 := hI9 hb3
 have HNA2 := HNA
 clear HB HX HF HNA hb3
 cases hok : F.okB M.places.toNat (lgT S n)
 case false =>
  obtain rfl := hfr.2 (fun h => by rw [FliD.okB_iff.2 h] at hok; cases hok)
  have HH := hI9 (show NE = 51 by rw [HNE.out, hok]; rfl)
  clear hfr hok HNE
  go_wp2_with (fail)
  go_ret2
  exact ⟨_, by rw [HH.out]; rfl, HB3.out, fun h => absurd (HH.out.symm.trans h) (by decide)⟩
 have hfa := (hfr.1 (FliD.okB_iff.1 hok)).1
 have hge := (hfr.1 (FliD.okB_iff.1 hok)).2
 have HH := hI9 (show NE = 0 by rw [HNE.out, hok]; rfl)
 obtain ⟨gx, vA, rfl, h1, h2, h3, h4, h5⟩ := hfa
 have HGE := hI9 (hge _ _ _ rfl)
 have HXX := hI9 h1
 have HH2 := hI9 (And.intro h2 (And.intro h3 (And.intro h4 h5)))
 have HM3 := hI9 (HMI.out.below HB3.out)
 have y6 := h1.cell 6
 have y7 := h1.cell 7
 have y8 := h1.cell 8
 have y9 := h1.cell 9
 have y10 := h1.cell 10
 have fr := fun i => h1.frozen i
 simp only [gtA, gtS, gtZ] at y6 y7 y8 y9 y10
 clear hge hfr hok HNE h1 h2 h3 h4 h5
 have tok2 : True := trivial
 go_wp2_with (have _t := tok2; refine wpl_row rfl 31 _ rfl _ rfl _ 5 HM3.out Tryz.rowMin rfl ?_; simp only [Act.put]; clear tok2)
 go_ret2
 have hx := (((((HXX.out.set_ 6 (.int .i64 lw)).set_ 7 (.int .i64 ls)).set_ 8 (.int .i64 lc)).set_ 9 (.bool li)).set_ 10 (.bool lb))
 obtain ⟨-, hsr, hsa, hne⟩ := HH2.out
 have hb2 : RowKit.Below w2.heap.size w2 (((((w3.setCell ⟨gx, 6, none⟩ (.int .i64 lw)).setCell ⟨gx, 7, none⟩ (.int .i64 ls)).setCell ⟨gx, 8, none⟩ (.int .i64 lc)).setCell ⟨gx, 9, none⟩ (.bool li)).setCell ⟨gx, 10, none⟩ (.bool lb)) := bset (bset (bset (bset (bset HB23.out HGE.out _) HGE.out _) HGE.out _) HGE.out _) HGE.out _
 refine ⟨_, by rw [HH.out]; rfl, bthen HB2.out hb2, fun _ => ⟨vN, gx, vA, rfl, hx, HNA2.out.below hb2, (HR.out.below HB2.out).below hb2, ?_, hne⟩⟩
 obtain ⟨A2, c2, rfl, e2, e3, e4⟩ := hsa
 refine ⟨A2, c2, rfl, e2, e3, RecsAt.frm e4 (by simp) fun b off e => ?_⟩
 subst e
 have hbg : b ≠ gx := fun q => hne (by rw [q]; rfl)
 rw [Below.heap_setCell _ ⟨gx, 10, none⟩ _ b hbg, Below.heap_setCell _ ⟨gx, 9, none⟩ _ b hbg, Below.heap_setCell _ ⟨gx, 8, none⟩ _ b hbg, Below.heap_setCell _ ⟨gx, 7, none⟩ _ b hbg, Below.heap_setCell _ ⟨gx, 6, none⟩ _ b hbg]
end Go.Proofs.YtlabfpjlckdmfaaGreat

namespace Go.Proofs.YtlabfpjlckdmfaaGreat
open Go Go.RowKit Go.Proofs
set_option maxRecDepth 100000
set_option maxHeartbeats 8000000
end Go.Proofs.YtlabfpjlckdmfaaGreat

namespace Go.Proofs.YtlabfpjlckdmfaaGreat
open Go Go.RowKit Go.Proofs
theorem nf_net {M : MetD} {lw ls lc : Int} {S : Tab} {n : Nat} {F : FliD} (h : nfE (netME M lw ls lc S n) M S n F = 0) : netME M lw ls lc S n = 0 := by
 unfold nfE at h
 by_cases h1 : netME M lw ls lc S n = 0
 ·exact h1
 ·rw [if_neg h1] at h; exact absurd h h1
theorem nf_mk {M : MetD} {lw ls lc : Int} {S : Tab} {n : Nat} {F : FliD} (h : netME M lw ls lc S n = 0) (hk : F.okB M.places.toNat (lgT S n) = true) : nfE (netME M lw ls lc S n) M S n F = 0 := by
 unfold nfE
 rw [if_pos h, if_pos hk]
end Go.Proofs.YtlabfpjlckdmfaaGreat
