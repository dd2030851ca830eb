/- Contracts: Copy of the references. -/
import Derived.Test.YtechkkgmdjgddaaGreatRfA
import Derived.Test.YtechkkgmdjgddaaGreatBas
import Derived.Laws.CopyOwn
import Derived.Test.YtechkkgmdjgddaaGreatRoH
set_option linter.all false
namespace Go.Proofs.YtechkkgmdjgddaaGreat
open Go Go.RowKit Go.Proofs
set_option maxRecDepth 100000
set_option maxHeartbeats 4000000

/-- A table that is not larger than a statement looks at. -/
structure Near (T : Tbl) : Prop where
  x : T.X.length ≤ 1000
  y : T.Y.length ≤ 1000
  v : T.V.length ≤ 1000
  r : ∀ k, k < T.V.length → (nthR T.V k).length ≤ 1000

def EmptyS (e : TypeId) (v : Value) (w : World) : Prop := ∃ g, v = .slice (some ⟨g, 0, none⟩) 0 0 ∧ Blk w g e #[]
theorem EmptyS.below {e : TypeId} {v : Value} {w w' : World} (hb : Below w.heap.size w w') (h : EmptyS e v w) : EmptyS e v w' := by
  obtain ⟨g, rfl, h2⟩ := h; exact ⟨g, rfl, h2.below hb⟩

/-- A row of integers of the call's own. -/
def OwnI (B : Nat) (w : World) (v : Value) (xs : List Int) : Prop := w.ownsRow B 3 1 v xs.length ((List.range xs.length).map fun k => .int .i64 (nth xs k))
theorem OwnI.below {B : Nat} {w w' : World} {v : Value} {xs : List Int} (h : OwnI B w v xs) (hb : Below w.heap.size w w') : OwnI B w' v xs := ownsRow_below h hb
theorem OwnI.base0 {B : Nat} {w : World} {v : Value} {xs : List Int} (h : OwnI B w v xs) : OwnI 0 w v xs := ownsRow_base h (Nat.zero_le _)
theorem Ints.all {w : World} {v : Value} {xs : List Int} (h : Ints w v xs) : ∀ x ∈ xs, I64 x := by obtain ⟨A, c, _, _, _, h3, _⟩ := h; exact h3
theorem OwnI.slice {B : Nat} {w : World} {v : Value} {xs : List Int} (h : OwnI B w v xs) : ∃ a c, v = .slice a xs.length c := by
  rcases h.2 with ⟨rfl, hz⟩ | ⟨g, cap, cur, rfl, -⟩
  · exact ⟨none, 0, by rw [hz]⟩
  · exact ⟨_, _, rfl⟩
theorem blk_grown {w w' : World} {row : Option Nat} {g : Nat} {t : TypeId} {cs : Array Value} (h : Blk w g t cs) (hg : w.grownBy w' row) (hne : some g ≠ row) : Blk w' g t cs := (hg.block g h.lt hne).trans h

def cpR (b0 : Nat) (x y : Value) (X Y : List Int) : Nat → Value → World → Prop
  | 0, v, w => EmptyS 3 v w
  | 1, v, _ => v = .pointer (some ⟨b0, 0, none⟩)
  | 2, v, _ => v = x
  | 3, v, w => OwnI 0 w v X
  | 4, v, w => EmptyS 3 v w
  | 5, v, _ => v = .pointer (some ⟨b0, 1, none⟩)
  | 6, v, _ => v = y
  | 7, v, w => OwnI 0 w v Y
  | 8, v, w => ∃ p q, v = .agg #[p, q, .slice none 0 0] ∧ OwnI 0 w p X ∧ OwnI 0 w q Y
  | 9, v, w => NewBlk (b0 + 1 + 1) 25 #[.slice none 0 0, .slice none 0 0, .slice none 0 0] v w
  | _, _, _ => True
theorem cpR_below {b0 : Nat} {x y : Value} {X Y : List Int} (k : Nat) (v : Value) (w w' : World) (hb : Below w.heap.size w w') (h : cpR b0 x y X Y k v w) : cpR b0 x y X Y k v w' := by
  unfold cpR at *
  split at h
  any_goals exact h
  any_goals exact EmptyS.below hb h
  any_goals exact OwnI.below h hb
  · obtain ⟨p, q, h1, h2, h3⟩ := h; exact ⟨p, q, h1, h2.below hb, h3.below hb⟩
  · exact NewBlk.below hb h

theorem Tryz.infoInts : (Tryz.prog.info? 22).map (fun i => (i.zero, i.size, i.bytes)) = some (some (.slice none 0 0), 1, 24) := by kernel_rfl
theorem Tryz.undRows : Tryz.prog.underlying 23 = some (.slice 22) := by kernel_rfl
theorem Tryz.rowTbl : RowTy Tryz.prog 25 3 := ⟨by kernel_rfl, by kernel_rfl⟩

/-- What stands at the head of a round of Copy's loop. -/
structure CpInv (w : World) (T : Tbl) (t0 : Array Value) (b3 i : Nat) (wr : World) (p q vv : Value) (us : List Value) : Prop where
  t : Blk wr b3 25 #[p, q, vv]
  o : Blk wr w.heap.size 25 t0
  z : Blk wr (w.heap.size + 1) 25 #[.slice none 0 0, .slice none 0 0, .slice none 0 0]
  lt : w.heap.size + 1 + 1 ≤ b3
  x : OwnI 0 wr p T.X
  y : OwnI 0 wr q T.Y
  r : ∀ j, j < i → OwnI 0 wr (us.getD j undef) (nthR T.V j)
  v : wr.ownsRow w.heap.size 22 1 vv i us
  b : Below w.heap.size w wr
theorem CpInv.row {w : World} {T : Tbl} {t0 : Array Value} {b3 i : Nat} {wr : World} {p q vv : Value} {us : List Value} (h : CpInv w T t0 b3 i wr p q vv us) : ∀ g, vv.ownBlock = some g → w.heap.size ≤ g ∧ g < wr.heap.size := h.v.lt
theorem own_kept {w w' : World} {B : Nat} {v : Value} {xs : List Int} {base n : Nat} {vv : Value} {us : List Value} (h : OwnI B w v xs) (hv : w.ownsRow base 22 1 vv n us) (hg : w.grownBy w' vv.ownBlock) : OwnI B w' v xs :=
  World.ownsRow.kept h hg (own_ne h hv (by decide))
theorem blk_kept {w w' : World} {g : Nat} {cs : Array Value} {base n : Nat} {vv : Value} {us : List Value} (h : Blk w g 25 cs) (hv : w.ownsRow base 22 1 vv n us) (hg : w.grownBy w' vv.ownBlock) : Blk w' g 25 cs :=
  blk_grown h hg (fun e => own_far hv h (by decide) e.symm)
theorem CpInv.next {w : World} {T : Tbl} {t0 : Array Value} {b3 i : Nat} {wr w1 : World} {p q vv v' r : Value} {us : List Value} (h : CpInv w T t0 b3 i wr p q vv us) (hg : wr.grownBy w1 vv.ownBlock)
    (ho : w1.ownsRow w.heap.size 22 1 v' (i + 1) (us ++ [r])) (hr : OwnI 0 w1 r (nthR T.V i)) : CpInv w T t0 b3 (i + 1) (w1.setCell ⟨b3, 2, none⟩ v') p q v' (us ++ [r]) := by
  have hu : us.length = i := by have := h.v.1; omega
  have tt : Blk w1 b3 25 #[p, q, vv] := blk_kept h.t h.v hg
  have nb : ∀ {B : Nat} {v : Value} {xs : List Int}, OwnI B w1 v xs → OwnI B (w1.setCell ⟨b3, 2, none⟩ v') v xs := fun hw => own_set hw (own_far hw tt (by decide)) _
  refine ⟨tt.set_ 2 v', (blk_kept h.o h.v hg).far' (by have := h.lt; omega) _, (blk_kept h.z h.v hg).far' (by have := h.lt; omega) _, h.lt, nb (own_kept h.x h.v hg), nb (own_kept h.y h.v hg), fun j hj => ?_, own_set ho (own_far ho tt (by decide)) _, ?_⟩
  · by_cases e : j = i
    · subst e
      rw [show (us ++ [r]).getD j undef = r by simp [List.getD, hu]]
      exact nb hr
    · rw [show (us ++ [r]).getD j undef = us.getD j undef by simp [List.getD, List.getElem?_append_left (show j < us.length by omega)]]
      exact nb (own_kept (h.r j (by omega)) h.v hg)
  · exact bset (h.b.grown hg h.b.size (fun k hk => (h.row k hk).1)) (by have := h.lt; omega) _

def rdR (B W0 b1 b3 bV oV i : Nat) (vv A0 : Value) (rv : Value) (row : List Int) (us : List Value) : Nat → Value → World → Prop
  | 0, v, _ => v = .pointer (some ⟨b3, 2, none⟩)
  | 1, v, _ => v = vv
  | 2, v, w => ∃ g, v = .slice (some ⟨g, 0, none⟩) 0 0 ∧ B ≤ g ∧ Blk w g 3 #[]
  | 3, v, _ => v = .pointer (some ⟨b1, 2, none⟩)
  | 4, v, _ => v = A0
  | 5, v, _ => v = .int .i64 i
  | 6, v, _ => v = .pointer (some ⟨bV, oV + i, none⟩)
  | 7, v, _ => v = rv
  | 8, v, w => OwnI B w v row
  | 9, v, w => ∃ g r, v = .slice (some ⟨g, 0, none⟩) 1 1 ∧ B ≤ g ∧ Blk w g 22 #[r] ∧ OwnI B w r row
  | 10, v, w => ∃ r, w.ownsRow W0 22 1 v (i + 1) (us ++ [r]) ∧ OwnI B w r row
  | 11, v, _ => v = .pointer (some ⟨b3, 2, none⟩)
  | _, _, _ => True
def rdG (row : Option Nat) (j : Nat) (a b : World) : Prop := a.grownBy b row ∧ (j ≠ 10 → Below a.heap.size a b)
theorem rdG_b {row : Option Nat} {j : Nat} {a b : World} (h : Below a.heap.size a b) : rdG row j a b := ⟨grown_of_below row h, fun _ => h⟩
theorem OwnI.grown {B : Nat} {w w' : World} {v : Value} {xs : List Int} {row : Option Nat} (h : OwnI B w v xs) (hg : w.grownBy w' row) (hrow : ∀ g, row = some g → g < B) : OwnI B w' v xs := by
  refine World.ownsRow.kept h hg ?_
  rcases h.2 with ⟨rfl, -⟩ | ⟨g, cap, cur, rfl, h1, -⟩
  · exact .inl rfl
  · refine .inr fun e => ?_
    have := hrow g e.symm; omega
theorem rdR_st {B W0 b1 b3 bV oV i : Nat} {vv A0 rv : Value} {row : List Int} {us : List Value} {rw_ : Option Nat} (hrow : ∀ g, rw_ = some g → g < B) (k j : Nat) (v : Value) (a b : World) (hkj : k ≠ j) (hG : rdG rw_ j a b)
    (h : rdR B W0 b1 b3 bV oV i vv A0 rv row us k v a) : rdR B W0 b1 b3 bV oV i vv A0 rv row us k v b := by
  obtain ⟨hg, hb⟩ := hG
  have far : ∀ g, B ≤ g → some g ≠ rw_ := fun g hB e => by have := hrow g e.symm; omega
  unfold rdR at *
  split at h
  any_goals exact h
  · obtain ⟨g, h1, h2, h3⟩ := h; exact ⟨g, h1, h2, blk_grown h3 hg (far g h2)⟩
  · exact OwnI.grown h hg hrow
  · obtain ⟨g, r, h1, h2, h3, h4⟩ := h; exact ⟨g, r, h1, h2, blk_grown h3 hg (far g h2), h4.grown hg hrow⟩
  · obtain ⟨r, h1, h2⟩ := h
    have hb' := hb (by omega)
    exact ⟨r, ownsRow_below h1 hb', h2.below hb'⟩

/-- A table of the call's own. -/
structure TblOwn (w : World) (x y v : Value) (T : Tbl) : Prop where
  x : OwnI 0 w x T.X
  y : OwnI 0 w y T.Y
  v : ∃ us, w.ownsRow 0 22 1 v T.V.length us ∧ ∀ j, j < T.V.length → OwnI 0 w (us.getD j undef) (nthR T.V j)
theorem TblOwn.at_ {w w0 : World} {x y v x0 y0 v0 : Value} {T : Tbl} (h : TblOwn w x y v T) (h0 : TblAt w0 x0 y0 v0 T) : TblAt w x y v T := by
  obtain ⟨us, h1, h2⟩ := h.v
  obtain ⟨A, c, vs, _, _, _, _, hr⟩ := h0.v
  exact ⟨Ints.of_owns h.x h0.x.all, Ints.of_owns h.y h0.y.all, Rows.of_owns h1 (fun j hj => Ints.of_owns (h2 j hj) (hr j hj).all)⟩
theorem TblOwn.below {w w' : World} {x y v : Value} {T : Tbl} (h : TblOwn w x y v T) (hb : Below w.heap.size w w') : TblOwn w' x y v T := by
  obtain ⟨us, h1, h2⟩ := h.v
  exact ⟨h.x.below hb, h.y.below hb, us, ownsRow_below h1 hb, fun j hj => (h2 j hj).below hb⟩
theorem TblOwn.set {w : World} {x y v : Value} {T : Tbl} (h : TblOwn w x y v T) {g k : Nat} {t : TypeId} {cs : Array Value} (hg : Blk w g t cs) (h1 : 3 ≠ t) (h2 : 22 ≠ t) (u : Value) : TblOwn (w.setCell ⟨g, k, none⟩ u) x y v T := by
  obtain ⟨us, h3, h4⟩ := h.v
  exact ⟨own_set h.x (own_far h.x hg h1) _, own_set h.y (own_far h.y hg h1) _, us, own_set h3 (own_far h3 hg h2) _, fun j hj => own_set (h4 j hj) (own_far (h4 j hj) hg h1) _⟩

theorem rf_Copy1_c (x y v : Value) (T : Tbl) (w : World) (hT : TblAt w x y v T) (hN : Near T) :
   Calls Tryz.prog 45 #[.agg #[x, y, v]] w fun e w' => ∃ x' y' v', e = .returned (.agg #[x', y', v']) ∧ TblOwn w' x' y' v' T ∧ Below w.heap.size w w' := by
  have HT := Lib.hid hT
  have HN := Lib.hid hN
  obtain ⟨i0, hi0, hz0, hz1, hz2⟩ := info_parts Tryz.infoInt
  obtain ⟨xA, xc, rfl, hx1, hx2, hx3, hx4⟩ := id hT.x
  obtain ⟨yA, yc, rfl, hy1, hy2, hy3, hy4⟩ := id hT.y
  obtain ⟨A, c, vs, rfl, hv1, hv2, hv3, hv4⟩ := id hT.v
  have HX3 := Lib.hid hx3
  have HX4 := Lib.hid hx4
  have HY3 := Lib.hid hy3
  have HY4 := Lib.hid hy4
  have HV3 := Lib.hid hv3
  have HV4 := Lib.hid hv4
  clear hT hv3 hv4 hx3 hx4 hy3 hy4 hN
  have bM : Blk ((w.alloc (.cells #[.slice xA T.X.length xc, .slice yA T.Y.length yc, .slice A T.V.length c] 25)).alloc (.cells #[.slice none 0 0, .slice none 0 0, .slice none 0 0] 25)) w.heap.size 25 #[.slice xA T.X.length xc, .slice yA T.Y.length yc, .slice A T.V.length c] := (by repeat (first | (refine Blk.newAt _ _ _ ?_; first | rfl | (simp; done)) | refine Blk.alloc ?_ _))
  have bZ : Blk ((w.alloc (.cells #[.slice xA T.X.length xc, .slice yA T.Y.length yc, .slice A T.V.length c] 25)).alloc (.cells #[.slice none 0 0, .slice none 0 0, .slice none 0 0] 25)) (w.heap.size + 1) 25 #[.slice none 0 0, .slice none 0 0, .slice none 0 0] := (by repeat (first | (refine Blk.newAt _ _ _ ?_; first | rfl | (simp; done)) | refine Blk.alloc ?_ _))
  have bW : Below w.heap.size w ((w.alloc (.cells #[.slice xA T.X.length xc, .slice yA T.Y.length yc, .slice A T.V.length c] 25)).alloc (.cells #[.slice none 0 0, .slice none 0 0, .slice none 0 0] 25)) := (by repeat' (first | exact Below.refl _ _ | assumption | refine Below.drew ?_ | refine bdn ?_ _ | refine bal ?_ _ | refine Below.setCell ?_ (by first | (simp; done) | omega | (simp; omega)) _))
  have zW : ((w.alloc (.cells #[.slice xA T.X.length xc, .slice yA T.Y.length yc, .slice A T.V.length c] 25)).alloc (.cells #[.slice none 0 0, .slice none 0 0, .slice none 0 0] 25)).heap.size = w.heap.size + 1 + 1 := by simp
  go_enter Tryz.func45, Tryz.ntmps45
  go_wp2
  generalize ((w.alloc (.cells #[.slice xA T.X.length xc, .slice yA T.Y.length yc, .slice A T.V.length c] 25)).alloc (.cells #[.slice none 0 0, .slice none 0 0, .slice none 0 0] 25)) = W at *
  have BM := Lib.hid bM
  have BZ := Lib.hid bZ
  have BW := Lib.hid bW
  have ZW := Lib.hid zW
  clear bM bZ bW zW
  refine wp_region_spec 10 (cpR w.heap.size (.slice xA T.X.length xc) (.slice yA T.Y.length yc) T.X T.Y) (fun i => decide (i = 9)) (by kernel_rfl) (by kernel_rfl) cpR_below ?hop ?htail
  case hop =>
    simp only [List.take_succ_cons, List.take_zero, allOps]
    refine ⟨?_, ?_, ?_, ?_, ?_, ?_, ?_, ?_, ?_, ?_, trivial⟩
    all_goals intro u A w1 hA hb hd
    all_goals simp only [putAll, dstOf, List.getElem?_toArray, List.getElem?_cons_succ, List.getElem?_cons_zero, Option.bind_some, Option.bind, Act.put, List.setIfInBounds_toArray, List.set_cons_succ, List.set_cons_zero] at hA; subst hA
    all_goals have HB := Lib.hid hb
    · clear hb hd
      go_wp2
      exact ⟨_, rfl, bal (Below.refl _ _) _, ⟨_, rfl, Blk.new _ _ _⟩, fun h => absurd h (by decide)⟩
    · clear hb hd
      go_wp2
      exact ⟨_, rfl, Below.refl _ _, rfl, fun h => absurd h (by decide)⟩
    · have d0 : u 1 = _ := hd 1 (by omega) (by kernel_rfl)
      have c0 := (BM.out.below hb).cell 0
      clear hb hd
      rw [d0]
      clear d0
      go_wp2
      exact ⟨_, rfl, Below.refl _ _, rfl, fun h => absurd h (by decide)⟩
    · obtain ⟨g, d0, d1⟩ := hd 0 (by omega) (by kernel_rfl)
      have d2 : u 2 = _ := hd 2 (by omega) (by kernel_rfl)
      have hcx := Lib.hid ((HX4.out.below BW.out).below hb)
      have hnx := HN.out.x
      clear hb hd
      rw [d0, d2]
      clear d0 d2
      refine wpl_append_new rfl (.tmp 5) (.tmp 7) 22 rfl 3 i0 (.int .i64 0) 8 Tryz.undInts hi0 hz0 hz1 hz2 rfl g rfl d1 0 (Nat.zero_le _) xA T.X.length xc rfl _ hcx.out (fun _ _ => rfl) (by unfold maxLen; omega) (by omega) (fun v' w' ho hbl => ?_)
      exact ⟨v', rfl, hbl, ho, fun h => absurd h (by decide)⟩
    · clear hb hd
      go_wp2
      exact ⟨_, rfl, bal (Below.refl _ _) _, ⟨_, rfl, Blk.new _ _ _⟩, fun h => absurd h (by decide)⟩
    · clear hb hd
      go_wp2
      exact ⟨_, rfl, Below.refl _ _, rfl, fun h => absurd h (by decide)⟩
    · have d0 : u 5 = _ := hd 5 (by omega) (by kernel_rfl)
      have c0 := (BM.out.below hb).cell 1
      clear hb hd
      rw [d0]
      clear d0
      go_wp2
      exact ⟨_, rfl, Below.refl _ _, rfl, fun h => absurd h (by decide)⟩
    · obtain ⟨g, d0, d1⟩ := hd 4 (by omega) (by kernel_rfl)
      have d2 : u 6 = _ := hd 6 (by omega) (by kernel_rfl)
      have hcx := Lib.hid ((HY4.out.below BW.out).below hb)
      have hnx := HN.out.y
      clear hb hd
      rw [d0, d2]
      clear d0 d2
      refine wpl_append_new rfl (.tmp 9) (.tmp 11) 22 rfl 3 i0 (.int .i64 0) 8 Tryz.undInts hi0 hz0 hz1 hz2 rfl g rfl d1 0 (Nat.zero_le _) yA T.Y.length yc rfl _ hcx.out (fun _ _ => rfl) (by unfold maxLen; omega) (by omega) (fun v' w' ho hbl => ?_)
      exact ⟨v', rfl, hbl, ho, fun h => absurd h (by decide)⟩
    · have d0 : OwnI 0 w1 (u 3) T.X := hd 3 (by omega) (by kernel_rfl)
      have d1 : OwnI 0 w1 (u 7) T.Y := hd 7 (by omega) (by kernel_rfl)
      have D0 := Lib.hid d0
      have D1 := Lib.hid d1
      obtain ⟨p1, p2, e1⟩ := d0.slice
      obtain ⟨q1, q2, e2⟩ := d1.slice
      clear hb hd
      rw [e1] at D0 ⊢
      rw [e2] at D1 ⊢
      clear e1 e2
      go_wp2
      exact ⟨_, rfl, Below.refl _ _, ⟨_, _, rfl, D0.out, D1.out⟩, fun h => absurd h (by decide)⟩
    · have zz := hb.size
      rw [ZW.out] at zz
      clear hb hd
      go_wp2
      exact ⟨_, rfl, bal (Below.refl _ _) _, ⟨_, rfl, zz, Blk.new _ _ _⟩, fun _ => ⟨_, rfl, Nat.le_refl _, by simp⟩⟩
  case htail =>
    intro u A w1 hA hb hd hf
    simp only [putAll, dstOf, List.getElem?_toArray, List.getElem?_cons_succ, List.getElem?_cons_zero, Option.bind_some, Option.bind, Act.put, List.setIfInBounds_toArray, List.set_cons_succ, List.set_cons_zero] at hA; subst hA
    obtain ⟨p, q, e8, hp, hq⟩ := hd 8 (by omega)
    obtain ⟨b3, e9, z9, b9⟩ := hd 9 (by omega)
    rw [e8, e9]
    obtain ⟨p1, p2, rfl⟩ := hp.slice
    obtain ⟨q1, q2, rfl⟩ := hq.slice
    have k0 := b9.cell 0
    have k1 := b9.cell 1
    have k2 := b9.cell 2
    have k3 := fun i => b9.frozen i
    have INV : RowKit.Hid (CpInv w T #[.slice xA T.X.length xc, .slice yA T.Y.length yc, .slice A T.V.length c] b3 0 (((w1.setCell ⟨b3, 0, none⟩ (.slice p1 T.X.length p2)).setCell ⟨b3, 1, none⟩ (.slice q1 T.Y.length q2)).setCell ⟨b3, 2, none⟩ (.slice none 0 0)) (.slice p1 T.X.length p2) (.slice q1 T.Y.length q2) (.slice none 0 0) []) := by
      have n1 : ∀ {v : Value} {xs : List Int}, OwnI 0 w1 v xs → OwnI 0 (((w1.setCell ⟨b3, 0, none⟩ (.slice p1 T.X.length p2)).setCell ⟨b3, 1, none⟩ (.slice q1 T.Y.length q2)).setCell ⟨b3, 2, none⟩ (.slice none 0 0)) v xs :=
        fun hw => own_set (own_set (own_set hw (own_far hw b9 (by decide)) _) (own_far hw b9 (by decide)) _) (own_far hw b9 (by decide)) _
      refine ⟨((b9.set_ 0 _).set_ 1 _).set_ 2 _, ((((BM.out.below hb).far' (by omega) _).far' (by omega) _).far' (by omega) _), ((((BZ.out.below hb).far' (by omega) _).far' (by omega) _).far' (by omega) _), z9, n1 hp, n1 hq, fun j hj => absurd hj (by omega), World.ownsRow_nil _ _ _ _, ?_⟩
      exact bset (bset (bset (bthen BW.out hb) (by omega) _) (by omega) _) (by omega) _
    clear hd hf hb hp hq e8 e9 b9
    go_wp2
    clear k0 k1 k2 k3
    obtain ⟨r0, hr0, rz0, rz1, rz2⟩ := info_parts Tryz.infoInts
    clear HX3 HX4 HY3 HY4 BM BZ BW ZW
    go_loopw [4] (fun s wr => ∃ i : Nat, i ≤ T.V.length ∧ s = .int .i64 i ∧ RowKit.Hid (∃ p q vv us, CpInv w T #[.slice xA T.X.length xc, .slice yA T.Y.length yc, .slice A T.V.length c] b3 i wr p q vv us)) (fun i _ => T.V.length - (intOf i).toNat)
    case atStart => exact ⟨0, by omega, rfl, _, _, _, _, INV.out⟩
    case round =>
      obtain ⟨i, hi, rfl, hI⟩ := hrel
      obtain ⟨p, q, vv, us, hinv⟩ := hI.out
      clear hI INV
      have HI := Lib.hid hinv
      have t2 := hinv.o.cell 2
      by_cases hlt : i < T.V.length
      · obtain ⟨bV, oV, rfl, hbV, hcV⟩ := HV3.out (by omega)
        have ck := (hinv.b.cell (p := ⟨bV, oV + i, none⟩) hbV).trans (hcV i hlt)
        have hnv := HN.out.v
        have hnr := HN.out.r i hlt
        have hrow := HV4.out i hlt
        obtain ⟨ra, rm, hre, s1, s2, hr64, hRA⟩ := hrow
        rw [hre] at ck
        generalize hrw : nthR T.V i = row at *
        have HRW := Lib.hid hrw
        have HRA := Lib.hid hRA
        have HCK := Lib.hid ck
        clear hre hcV hRA hr64 hrw
        clear hinv
        go_wp2
        refine wp_region_specG (rdG vv.ownBlock) (fun w1 => wr.grownBy w1 vv.ownBlock) (fun k w1 => k = 10 → w1.ownsRow w.heap.size 22 1 vv i us) (fun _ _ _ h => h.1.size) (fun _ _ _ h h2 => grown_trans h2 h.1)
          (fun k j a b hkj hG h e => ownsRow_below (h e) (hG.2 (by omega))) (grown_of_below _ (Below.refl _ _).drew) (fun _ _ => HI.out.v) 12
          (rdR wr.heap.size w.heap.size w.heap.size b3 bV oV i vv (.slice (some ⟨bV, oV, none⟩) T.V.length c) (.slice ra row.length rm) row us) (fun _ => false) (by kernel_rfl) (by kernel_rfl) (rdR_st (fun g hg => (HI.out.row g hg).2)) ?hop2 ?htail2
        case hop2 =>
          simp only [List.take_succ_cons, List.take_zero, allOps]
          refine ⟨?_, ?_, ?_, ?_, ?_, ?_, ?_, ?_, ?_, ?_, ?_, ?_, trivial⟩
          all_goals intro u A w1 hA hJ hIk hd
          all_goals simp only [putAll, dstOf, List.getElem?_toArray, List.getElem?_cons_succ, List.getElem?_cons_zero, Option.bind_some, Option.bind, Act.put, List.setIfInBounds_toArray, List.set_cons_succ, List.set_cons_zero] at hA; subst hA
          all_goals have HJ := Lib.hid hJ
          · clear hJ hd hIk ck t2
            go_wp2
            exact ⟨_, rfl, rdG_b (Below.refl _ _), rfl, fun h => absurd h (by decide)⟩
          · have d0 : u 0 = _ := hd 0 (by omega) (by kernel_rfl)
            have c2 := (blk_kept HI.out.t HI.out.v hJ).cell 2
            clear hJ hd hIk ck t2
            rw [d0]
            clear d0
            go_wp2
            exact ⟨_, rfl, rdG_b (Below.refl _ _), rfl, fun h => absurd h (by decide)⟩
          · have hz := hJ.size
            clear hJ hd hIk ck t2
            go_wp2
            exact ⟨_, rfl, rdG_b (bal (Below.refl _ _) _), ⟨_, rfl, hz, Blk.new _ _ _⟩, fun h => absurd h (by decide)⟩
          · clear hJ hd hIk ck t2
            go_wp2
            exact ⟨_, rfl, rdG_b (Below.refl _ _), rfl, fun h => absurd h (by decide)⟩
          · have d0 : u 3 = _ := hd 3 (by omega) (by kernel_rfl)
            have c2 := (blk_kept HI.out.o HI.out.v hJ).cell 2
            clear hJ hd hIk ck t2
            rw [d0]
            clear d0
            go_wp2
            exact ⟨_, rfl, rdG_b (Below.refl _ _), rfl, fun h => absurd h (by decide)⟩
          · clear hJ hd hIk ck t2
            go_wp2
            exact ⟨_, rfl, rdG_b (Below.refl _ _), rfl, fun h => absurd h (by decide)⟩
          · have d0 : u 4 = _ := hd 4 (by omega) (by kernel_rfl)
            have d1 : u 5 = _ := hd 5 (by omega) (by kernel_rfl)
            clear hJ hd hIk ck t2
            rw [d0, d1]
            clear d0 d1
            go_wp2
            exact ⟨_, rfl, rdG_b (Below.refl _ _), rfl, fun h => absurd h (by decide)⟩
          · have d0 : u 6 = _ := hd 6 (by omega) (by kernel_rfl)
            have c2 := hJ.cell HCK.out (fun e => by have := (HI.out.row bV e.symm).1; omega)
            clear hJ hd hIk ck t2
            rw [d0]
            clear d0
            go_wp2
            exact ⟨_, rfl, rdG_b (Below.refl _ _), rfl, fun h => absurd h (by decide)⟩
          · obtain ⟨g, d0, dB, d1⟩ := hd 2 (by omega) (by kernel_rfl)
            have d2 : u 7 = _ := hd 7 (by omega) (by kernel_rfl)
            have hcx := HRA.out.below (HI.out.b.grown hJ HI.out.b.size (fun k hk => (HI.out.row k hk).1))
            clear hJ hd hIk ck t2
            rw [d0, d2]
            clear d0 d2
            refine wpl_append_new rfl (.tmp 23) (.tmp 28) 22 rfl 3 i0 (.int .i64 0) 8 Tryz.undInts hi0 hz0 hz1 hz2 rfl g rfl d1 wr.heap.size dB ra row.length rm rfl _ hcx (fun _ _ => rfl) (by unfold maxLen; omega) (by omega) (fun v' w' ho hbl => ?_)
            exact ⟨v', rfl, rdG_b hbl, ho, fun h => absurd h (by decide)⟩
          · have d0 : OwnI wr.heap.size w1 (u 8) row := hd 8 (by omega) (by kernel_rfl)
            obtain ⟨p1, p2, e1⟩ := d0.slice
            have hz := hJ.size
            clear hJ hd hIk ck t2
            rw [e1] at d0 ⊢
            have D0 := Lib.hid d0
            clear d0 e1
            go_wp2
            exact ⟨_, rfl, rdG_b (bal (Below.refl _ _) _), ⟨_, _, rfl, hz, Blk.new _ _ _, D0.out.below (bal (Below.refl _ _) _)⟩, fun h => absurd h (by decide)⟩
          · have d0 : u 1 = _ := hd 1 (by omega) (by kernel_rfl)
            obtain ⟨g, r, d1, d2, d3, d4⟩ := hd 9 (by omega) (by kernel_rfl)
            have hown := hIk trivial
            have hz := hJ.size
            clear hd hIk ck t2
            rw [d0, d1]
            clear d0 d1
            obtain ⟨p1, p2, rfl⟩ := d4.slice
            refine wpList_append_own _ rfl (.tmp 22) (.tmp 30) 23 rfl w.heap.size 22 r0 (.slice none 0 0) 1 24 Tryz.undRows hr0 rz0 rz1 rz2 rfl (by decide) vv i us rfl hown ⟨g, 0, none⟩ 1 1 [.slice p1 row.length p2] rfl rfl (fun j u hj => ?_) (fun u hu => ?_) (by unfold maxLen; omega) (by omega) (by have := HI.out.b.size; omega) ?_
            · match j, hj with
              | 0, hj => simp at hj; subst hj; rw [show (⟨g, 0, none⟩ : Addr).add 0 = ⟨g, 0, none⟩ by simp [Addr.add]]; exact d3.cell 0
            · simp at hu; subst hu; rfl
            · intro v' w' ho hg _
              exact ⟨v', rfl, ⟨hg, fun h => absurd rfl h⟩, ⟨_, ho, d4.grown hg (fun k hk => (HI.out.row k hk).2)⟩, fun h => absurd h (by decide)⟩
          · clear hJ hd hIk ck t2
            go_wp2
            exact ⟨_, rfl, rdG_b (Below.refl _ _), rfl, fun h => absurd h (by decide)⟩
        case htail2 =>
          intro u A w1 hA hJ hd hf
          simp only [putAll, dstOf, List.getElem?_toArray, List.getElem?_cons_succ, List.getElem?_cons_zero, Option.bind_some, Option.bind, Act.put, List.setIfInBounds_toArray, List.set_cons_succ, List.set_cons_zero] at hA; subst hA
          obtain ⟨r, d1, d2⟩ := hd 10 (by omega)
          have d3 : u 11 = _ := hd 11 (by omega)
          obtain ⟨g, cap, e10⟩ := ownsRow_succ d1
          rw [e10] at d1 ⊢
          rw [d3]
          have tt := blk_kept HI.out.t HI.out.v hJ
          have k0 := tt.cell 2
          have k1 := fun i => tt.frozen i
          have HN2 := Lib.hid (HI.out.next hJ d1 (by rw [HRW.out]; exact d2.base0))
          clear hd hf hJ d1 d2 d3 e10 tt ck t2
          go_wp2
          go_roundw
          case rel => exact ⟨i + 1, by omega, by go_num, _, _, _, _, HN2.out⟩
          case measure => simp [intOf]; omega
      · obtain rfl : i = T.V.length := by omega
        obtain ⟨p1, p2, rfl⟩ := HI.out.x.slice
        obtain ⟨q1, q2, rfl⟩ := HI.out.y.slice
        have hvs : ∃ a c, vv = .slice a T.V.length c := by
          rcases HI.out.v.2 with ⟨e1, e2⟩ | ⟨g, cap, cur, e1, -⟩
          · exact ⟨none, 0, by rw [e1, e2]⟩
          · exact ⟨_, _, e1⟩
        obtain ⟨v1, v2, rfl⟩ := hvs
        have k0 := HI.out.t.cell 0
        have k1 := HI.out.t.cell 1
        have k2 := HI.out.t.cell 2
        have j0 := HI.out.z.cell 0
        have j1 := HI.out.z.cell 1
        have j2 := HI.out.z.cell 2
        have j3 := fun i => HI.out.z.frozen i
        clear hinv
        go_wp2
        have nb : ∀ {v : Value} {xs : List Int}, OwnI 0 wr v xs → OwnI 0 (((wr.setCell ⟨w.heap.size + 1, 0, none⟩ (.slice p1 T.X.length p2)).setCell ⟨w.heap.size + 1, 1, none⟩ (.slice q1 T.Y.length q2)).setCell ⟨w.heap.size + 1, 2, none⟩ (.slice v1 T.V.length v2)) v xs :=
          fun hw => own_set (own_set (own_set hw (own_far hw HI.out.z (by decide)) _) (own_far hw HI.out.z (by decide)) _) (own_far hw HI.out.z (by decide)) _
        exact bodyPost_ret (res_c rfl _ _ #[.slice p1 T.X.length p2, .slice q1 T.Y.length q2, .slice v1 T.V.length v2] 3 rfl (((HI.out.z.set_ 0 _).set_ 1 _).set_ 2 _) Tryz.rowTbl rfl) rfl
          ⟨_, _, _, rfl, ⟨nb HI.out.x, nb HI.out.y, us, ownsRow_base (own_set (own_set (own_set HI.out.v (own_far HI.out.v HI.out.z (by decide)) _) (own_far HI.out.v HI.out.z (by decide)) _) (own_far HI.out.v HI.out.z (by decide)) _) (Nat.zero_le _), fun j hj => nb (HI.out.r j hj)⟩,
            bset (bset (bset HI.out.b (by omega) _) (by omega) _) (by omega) _⟩

theorem own_setRow {w : World} {b1 : Nat} {e1 : TypeId} {s1 n1 : Nat} {v1 : Value} {x1 : List Value} (h1 : w.ownsRow b1 e1 s1 v1 n1 x1) {g : Nat} (hne : v1.ownBlock ≠ some g) (cs : Array Value) : (w.setRow g cs).ownsRow b1 e1 s1 v1 n1 x1 := by
  refine ⟨h1.1, ?_⟩
  rcases h1.2 with ⟨rfl, h⟩ | ⟨g', cap, cur, rfl, r1, r3, r4⟩
  · exact .inl ⟨rfl, h⟩
  · refine .inr ⟨g', cap, cur, rfl, r1, ?_, r4⟩
    rw [setRow_other _ _ _ _ (fun h => hne (by simp [Value.ownBlock, h]))]; exact r3
theorem TblOwn.setRow {w : World} {x y v : Value} {T : Tbl} (h : TblOwn w x y v T) {g : Nat} {t : TypeId} {cs : Array Value} (hg : Blk w g t cs) (h1 : 3 ≠ t) (h2 : 22 ≠ t) (u : Array Value) : TblOwn (w.setRow g u) x y v T := by
  obtain ⟨us, h3, h4⟩ := h.v
  exact ⟨own_setRow h.x (own_far h.x hg h1) _, own_setRow h.y (own_far h.y hg h1) _, us, own_setRow h3 (own_far h3 hg h2) _, fun j hj => own_setRow (h4 j hj) (own_far (h4 j hj) hg h1) _⟩
theorem blk_setRow {w : World} {g : Nat} {t : TypeId} {old cs : Array Value} (h : Blk w g t old) : Blk (w.setRow g cs) g t cs := setRow_heap w g old cs t (0, 0) h
end Go.Proofs.YtechkkgmdjgddaaGreat
