/- Texts joined: JAD. -/
import Derived.Test.YtlambeiafdpkgaaGreatJAC
import Derived.Test.YtlambeiafdpkgaaGreatJAA
import Derived.Laws.CopyRow
import Derived.OwnWalk
set_option linter.all false
namespace Go.Proofs.YtlambeiafdpkgaaGreat
open Go Go.RowKit Go.Proofs Go.Shelf
attribute [local go_sem] Oper.semAt_some
def Blk (W : World) (g : Nat) (t : TypeId) (cs : Array Value) : Prop := W.heap[g]? = some (.cells cs t (0, 0))
theorem Blk.lt {W : World} {g : Nat} {t : TypeId} {cs : Array Value} (h : Blk W g t cs) : g < W.heap.size := (Array.getElem?_eq_some_iff.1 h).1
theorem Blk.cell {W : World} {g : Nat} {t : TypeId} {cs : Array Value} (h : Blk W g t cs) (i : Nat) : W.cell? ⟨g, i, none⟩ = cs[i]? := by simp [World.cell?, show W.heap[g]? = _ from h]
theorem Blk.frozen {W : World} {g : Nat} {t : TypeId} {cs : Array Value} (h : Blk W g t cs) (i : Nat) : W.frozen? ⟨g, i, none⟩ = false := by simp [World.frozen?, show W.heap[g]? = _ from h]
theorem Blk.new (W : World) (t : TypeId) (cs : Array Value) : Blk (W.alloc (.cells cs t)) W.heap.size t cs := World.alloc_heap_new W _
theorem Blk.alloc {W : World} {g : Nat} {t : TypeId} {cs : Array Value} (h : Blk W g t cs) (o : Obj) : Blk (W.alloc o) g t cs := (Below.heap_alloc W o g h.lt).trans h
theorem Blk.below {W W' : World} {g : Nat} {t : TypeId} {cs : Array Value} (h : Blk W g t cs) (hb : Below W.heap.size W W') : Blk W' g t cs := (hb.block g h.lt).trans h
theorem Blk.set_ {W : World} {g : Nat} {t : TypeId} {cs : Array Value} (h : Blk W g t cs) (i : Nat) (u : Value) : Blk (W.setCell ⟨g, i, none⟩ u) g t (cs.setIfInBounds i u) := by
 obtain ⟨hlt, hk⟩ := Array.getElem?_eq_some_iff.1 h
 show (W.heap.modify g _)[g]? = _
 rw [Array.getElem?_eq_getElem (by rw [Array.size_modify]; exact hlt), Array.getElem_modify_self, hk]
 rfl
theorem Blk.far {W : World} {g : Nat} {t : TypeId} {cs : Array Value} (h : Blk W g t cs) {p : Addr} (hp : g ≠ p.block) (u : Value) : Blk (W.setCell p u) g t cs := (Below.heap_setCell W p u g hp).trans h
theorem blk_own {β : Type} (g : Nat) (t : TypeId) (f : β → Array Value) : Own (fun s W => Blk W g t (f s)) := fun s X Y row hs hg hrow => by
 refine (hg.block g (Blk.lt hs) (fun e => ?_)).trans hs
 obtain ⟨o, ho, hc⟩ := hrow g e.symm
 rw [show X.heap[g]? = _ from hs] at ho
 cases ho; cases hc
theorem kf_below {B : Nat} {W W' : World} (h : Below W.heap.size W W') : KeepsFrom B W W' := ⟨h.size, fun k _ _ hk _ => (h.block k (Array.getElem?_eq_some_iff.1 hk).1).trans hk⟩
theorem kc_alloc {S : Nat → Prop} (W : World) (o : Obj) : KeepC S W (W.alloc o) := KeepC.of_below (Below.alloc (Below.refl _ _) (Nat.le_refl _) _)
theorem kf_set {B : Nat} (W : World) (a : Addr) (u : Value) : KeepsFrom B W (W.setCell a u) := (KeepsOthers.setCell W a u).from B
theorem kc_set {S : Nat → Prop} (W : World) (a : Addr) (u : Value) (hs : S a.block) : KeepC S W (W.setCell a u) :=
 ⟨by simp, fun k c t f hk hn => (Below.heap_setCell W a u k (fun e => hn (e ▸ hs))).trans hk⟩
theorem corners_c (x y v : Value) (xl xh yl yh : Int) (w : World) :
  Calls Tryz.prog 105 #[.agg #[x, y, v], .agg #[.int .i64 xl, .int .i64 xh], .agg #[.int .i64 yl, .int .i64 yh]] w fun e w' =>
   e = .returned (.func (.func 155) #[] #[.pointer (some ⟨w.heap.size, 0, none⟩), .pointer (some ⟨w.heap.size + 1, 0, none⟩), .pointer (some ⟨w.heap.size + 1 + 1, 0, none⟩)]) ∧
   ((w.alloc (.cells #[x, y, v] 94)).alloc (.cells #[.int .i64 xl, .int .i64 xh] 28)).alloc (.cells #[.int .i64 yl, .int .i64 yh] 28) = w' := by
 go_enter Tryz.func105, Tryz.ntmps105
 go_wp2
 go_ret
 exact ⟨rfl, rfl⟩
theorem pt4 {W : World} {g : Nat} {t : TypeId} {a b c d : Int} (h : Blk W g t #[.int .i64 a, .int .i64 b, .int .i64 c, .int .i64 d]) :
  W.cell? ⟨g, 0, none⟩ = some (.int .i64 a) ∧ W.cell? ⟨g, 1, none⟩ = some (.int .i64 b) ∧ W.cell? ⟨g, 2, none⟩ = some (.int .i64 c) ∧ W.cell? ⟨g, 3, none⟩ = some (.int .i64 d) ∧ ∀ i, W.frozen? ⟨g, i, none⟩ = false :=
 ⟨h.cell 0, h.cell 1, h.cell 2, h.cell 3, h.frozen⟩
theorem Blk.far' {W : World} {g f i : Nat} {t : TypeId} {cs : Array Value} (h : Blk W g t cs) (hf : g ≠ f) (u : Value) : Blk (W.setCell ⟨f, i, none⟩ u) g t cs := h.far (p := ⟨f, i, none⟩) hf u
theorem kc_refl (S : Nat → Prop) (W : World) : KeepC S W W := KeepC.of_below (Below.refl _ _)
theorem kc_set' {S : Nat → Prop} (W : World) (g i : Nat) (u : Value) (hs : S g) : KeepC S W (W.setCell ⟨g, i, none⟩ u) := kc_set W _ u hs
theorem bset {B g i : Nat} {W W' : World} (h : Below B W W') (hg : B ≤ g) (u : Value) : Below B W (W'.setCell ⟨g, i, none⟩ u) := h.setCell (p := ⟨g, i, none⟩) hg u
theorem set4 {W : World} {g : Nat} {t : TypeId} {a b c d : Int} (h : Blk W g t #[.int .i64 a, .int .i64 b, .int .i64 c, .int .i64 d]) (p : Pt) :
  Blk ((((W.setCell ⟨g, 0, none⟩ (.int .i64 p.x)).setCell ⟨g, 1, none⟩ (.int .i64 p.y)).setCell ⟨g, 2, none⟩ (.int .i64 p.n)).setCell ⟨g, 3, none⟩ (.int .i64 p.d)) g t #[.int .i64 p.x, .int .i64 p.y, .int .i64 p.n, .int .i64 p.d] :=
 (((h.set_ 0 _).set_ 1 _).set_ 2 _).set_ 3 _
theorem Blk.far4 {W : World} {g f : Nat} {t : TypeId} {cs : Array Value} (h : Blk W g t cs) (hf : g ≠ f) (p : Pt) :
  Blk ((((W.setCell ⟨f, 0, none⟩ (.int .i64 p.x)).setCell ⟨f, 1, none⟩ (.int .i64 p.y)).setCell ⟨f, 2, none⟩ (.int .i64 p.n)).setCell ⟨f, 3, none⟩ (.int .i64 p.d)) g t cs :=
 (((h.far hf _).far hf _).far hf _).far hf _
theorem heap4 {W : World} {D f : Nat} {o : Option Obj} (h : W.heap[D]? = o) (hf : D ≠ f) (p : Pt) :
  ((((W.setCell ⟨f, 0, none⟩ (.int .i64 p.x)).setCell ⟨f, 1, none⟩ (.int .i64 p.y)).setCell ⟨f, 2, none⟩ (.int .i64 p.n)).setCell ⟨f, 3, none⟩ (.int .i64 p.d)).heap[D]? = o :=
 (Below.heap_setCell _ _ _ _ hf).trans ((Below.heap_setCell _ _ _ _ hf).trans ((Below.heap_setCell _ _ _ _ hf).trans ((Below.heap_setCell _ _ _ _ hf).trans h)))
theorem below4 {B : Nat} {W W' : World} {f : Nat} (h : Below B W W') (hf : B ≤ f) (p : Pt) :
  Below B W ((((W'.setCell ⟨f, 0, none⟩ (.int .i64 p.x)).setCell ⟨f, 1, none⟩ (.int .i64 p.y)).setCell ⟨f, 2, none⟩ (.int .i64 p.n)).setCell ⟨f, 3, none⟩ (.int .i64 p.d)) :=
 bset (bset (bset (bset h hf _) hf _) hf _) hf _
theorem Blk.put {W : World} {g D : Nat} {t : TypeId} {cs : Array Value} (h : Blk W g t cs) (hg : g ≠ D) (o : Obj) : Blk (W.drew.putObj D o) g t cs := by
 show (W.heap.setIfInBounds D o)[g]? = _
 rw [Array.getElem?_setIfInBounds_ne (Ne.symm hg)]
 exact h
theorem cornersL_ne (T : Tbl) (sx sy : List Int) (h1 : 0 < sx.length) (h2 : 0 < sy.length) : cornersL T sx sy ≠ [] := by
 intro h
 have e := congrArg List.length h
 rw [cornersL_len] at e
 have := Nat.mul_pos h1 h2
 simp only [List.length_nil] at e
 omega
def ptCells : Option Pt → Array Value
 | none => #[.int .i64 0, .int .i64 0, .int .i64 0, .int .i64 0]
 | some p => #[.int .i64 p.x, .int .i64 p.y, .int .i64 p.n, .int .i64 p.d]
def ExtrP (T : Tbl) (xl xh yl yh : Int) (w : World) (e : Ending) (w' : World) : Prop :=
 ∃ p q : Pt, e = .returned (.tuple #[.agg #[.int .i64 p.x, .int .i64 p.y, .int .i64 p.n, .int .i64 p.d], .agg #[.int .i64 q.x, .int .i64 q.y, .int .i64 q.n, .int .i64 q.d]])
  ∧ leastO (cornersL T (stopsL T.X xl xh) (stopsL T.Y yl yh)) = some p ∧ mostO (cornersL T (stopsL T.X xl xh) (stopsL T.Y yl yh)) = some q ∧ Below w.heap.size w w'
set_option maxRecDepth 100000 in
set_option maxHeartbeats 8000000 in
theorem extremes_c (x y v : Value) (T : Tbl) (xl xh yl yh : Int) (w : World) (hT : TblAt w x y v T)
  (ht : tblB T = true) (hvx : xl ≤ xh) (hvy : yl ≤ yh) (hlx : liesB T.X xl xh = true) (hly : liesB T.Y yl yh = true) :
  Calls Tryz.prog 54 #[.agg #[x, y, v], .agg #[.int .i64 xl, .int .i64 xh], .agg #[.int .i64 yl, .int .i64 yh]] w (ExtrP T xl xh yl yh w) := by
 refine (callsIn_wide (n := 9)).1 ?_
 refine callsIn_of_wp_marks Tryz.func54 rfl trivial ?_ rfl
 simp only [Tryz.ntmps54, List.size_toArray, List.length_cons, List.length_nil, Nat.reduceAdd, Nat.reduceSub, Array.replicate_succ, Array.replicate_zero, List.push_toArray, List.append_toArray, List.nil_append, List.cons_append]
 gi_wp2_with (refine ⟨trivial, ?_⟩; gi_at_call 105; refine (callsIn_wide.2 (corners_c _ _ _ _ _ _ _ _)).mono ?_; rintro e w1 ⟨rfl, rfl⟩)
 have hsz : (((((((((w.alloc (.cells #[x, y, v] 94)).alloc (.cells #[.int .i64 xl, .int .i64 xh] 28)).alloc (.cells #[.int .i64 yl, .int .i64 yh] 28)).alloc (.cells #[.int .i64 0, .int .i64 0, .int .i64 0, .int .i64 0] 137)).alloc (.cells #[.int .i64 0, .int .i64 0, .int .i64 0, .int .i64 0] 137)).alloc (.cells #[.bool false] 4)).alloc (.cells #[x, y, v] 94)).alloc (.cells #[.int .i64 xl, .int .i64 xh] 28)).alloc (.cells #[.int .i64 yl, .int .i64 yh] 28)).heap.size = w.heap.size + 9 := by simp
 generalize hWa : w.alloc (.cells #[x, y, v] 94) = Wa at hsz ⊢
 generalize hWb : Wa.alloc (.cells #[.int .i64 xl, .int .i64 xh] 28) = Wb at hsz ⊢
 generalize hWc : Wb.alloc (.cells #[.int .i64 yl, .int .i64 yh] 28) = Wc at hsz ⊢
 have sc : Wc.heap.size = w.heap.size + 1 + 1 + 1 := by rw [← hWc, ← hWb, ← hWa]; simp
 have bc : Below w.heap.size w Wc := by rw [← hWc, ← hWb, ← hWa]; exact bal (bal (bal (Below.refl _ _) _) _) _
 have q1 := Blk.new Wc 137 #[.int .i64 0, .int .i64 0, .int .i64 0, .int .i64 0]
 generalize hWd : Wc.alloc (.cells #[.int .i64 0, .int .i64 0, .int .i64 0, .int .i64 0] 137) = Wd at hsz q1 ⊢
 have sd : Wd.heap.size = Wc.heap.size + 1 := by rw [← hWd]; simp
 have bd : Below w.heap.size w Wd := by rw [← hWd]; exact bal bc _
 have q2 := Blk.new Wd 137 #[.int .i64 0, .int .i64 0, .int .i64 0, .int .i64 0]
 replace q1 := q1.alloc (.cells #[.int .i64 0, .int .i64 0, .int .i64 0, .int .i64 0] 137)
 generalize hWe : Wd.alloc (.cells #[.int .i64 0, .int .i64 0, .int .i64 0, .int .i64 0] 137) = We at hsz q1 q2 ⊢
 have se : We.heap.size = Wd.heap.size + 1 := by rw [← hWe]; simp
 have be : Below w.heap.size w We := by rw [← hWe]; exact bal bd _
 have q3 := Blk.new We 4 #[.bool false]
 replace q1 := q1.alloc (.cells #[.bool false] 4)
 replace q2 := q2.alloc (.cells #[.bool false] 4)
 generalize hWf : We.alloc (.cells #[.bool false] 4) = Wf at hsz q1 q2 q3 ⊢
 have sf : Wf.heap.size = We.heap.size + 1 := by rw [← hWf]; simp
 have bf : Below w.heap.size w Wf := by rw [← hWf]; exact bal be _
 have r1 := ((Blk.new Wf 94 #[x, y, v]).alloc (.cells #[.int .i64 xl, .int .i64 xh] 28)).alloc (.cells #[.int .i64 yl, .int .i64 yh] 28)
 have r2 := (Blk.new (Wf.alloc (.cells #[x, y, v] 94)) 28 #[.int .i64 xl, .int .i64 xh]).alloc (.cells #[.int .i64 yl, .int .i64 yh] 28)
 have r3 := Blk.new ((Wf.alloc (.cells #[x, y, v] 94)).alloc (.cells #[.int .i64 xl, .int .i64 xh] 28)) 28 #[.int .i64 yl, .int .i64 yh]
 replace q1 := ((q1.alloc (.cells #[x, y, v] 94)).alloc (.cells #[.int .i64 xl, .int .i64 xh] 28)).alloc (.cells #[.int .i64 yl, .int .i64 yh] 28)
 replace q2 := ((q2.alloc (.cells #[x, y, v] 94)).alloc (.cells #[.int .i64 xl, .int .i64 xh] 28)).alloc (.cells #[.int .i64 yl, .int .i64 yh] 28)
 replace q3 := ((q3.alloc (.cells #[x, y, v] 94)).alloc (.cells #[.int .i64 xl, .int .i64 xh] 28)).alloc (.cells #[.int .i64 yl, .int .i64 yh] 28)
 have hB0 : Below w.heap.size w (((Wf.alloc (.cells #[x, y, v] 94)).alloc (.cells #[.int .i64 xl, .int .i64 xh] 28)).alloc (.cells #[.int .i64 yl, .int .i64 yh] 28)) := bal (bal (bal bf _) _) _
 simp only [World.size_alloc] at r2 r3
 generalize hWg : ((Wf.alloc (.cells #[x, y, v] 94)).alloc (.cells #[.int .i64 xl, .int .i64 xh] 28)).alloc (.cells #[.int .i64 yl, .int .i64 yh] 28) = W0 at hsz q1 q2 q3 r1 r2 r3 hB0 ⊢
 rw [sf, se, sd, sc] at r1 r2 r3
 rw [se, sd, sc] at q3
 rw [sd, sc] at q2
 rw [sc] at q1
 clear hWa hWb hWc hWd hWe hWf hWg sc sd se sf bc bd be bf
 clear Wa Wb Wc Wd We Wf
 have hsp : ∀ k, (w.heap.size + 1 + 1 + 1 ≤ k ∧ k ≤ w.heap.size + 1 + 1 + 1 + 1 + 1) → w.heap.size ≤ k := fun k h => by omega
 refine wpIn_rangeFunc_ownH (α := Pt) rfl (by omega) (gf := 155) (lb := #[.pointer (some ⟨w.heap.size + 1 + 1 + 1 + 1 + 1 + 1, 0, none⟩), .pointer (some ⟨w.heap.size + 1 + 1 + 1 + 1 + 1 + 1 + 1, 0, none⟩), .pointer (some ⟨w.heap.size + 1 + 1 + 1 + 1 + 1 + 1 + 1 + 1, 0, none⟩)]) rfl trivial (enters_of Tryz.func155 (by kernel_rfl) rfl)
  (encs := encPt) (Kp := KeepC (fun k => w.heap.size + 1 + 1 + 1 ≤ k ∧ k ≤ w.heap.size + 1 + 1 + 1 + 1 + 1)) (S := fun ys => ys = cornersL T (stopsL T.X xl xh) (stopsL T.Y yl yh)) (Sp := fun _ => True) (N := (cornersL T (stopsL T.X xl xh) (stopsL T.Y yl yh)).length)
  (fun l J Jx W hW hJ _ hY h0 => corners1_in 8 (by omega) l _ _ _ w.heap.size (fun k => w.heap.size + 1 + 1 + 1 ≤ k ∧ k ≤ w.heap.size + 1 + 1 + 1 + 1 + 1) hsp x y v T xl xh yl yh J Jx ht hvx hvy hlx hly W
   (by have := hB0.size; have := hW.size; omega) (fun k hk => by have := hW.size; omega) hJ hY
   ((r1.below hW).cell 0) ((r1.below hW).cell 1) ((r1.below hW).cell 2) (by omega) ((r2.below hW).cell 0) ((r2.below hW).cell 1) (by omega) ((r3.below hW).cell 0) ((r3.below hW).cell 1) (by omega) w rfl hT (hB0.trans (hW.mono hB0.size)) h0)
  KeepC.trans (fun W l o o' _ ho hc _ => KeepC.put W l o o' ho hc) (Below.refl _ _) (fun _ => rfl)
  (fun pre W => (Blk W (w.heap.size + 1 + 1 + 1) 137 (ptCells (leastO pre)) ∧ Blk W (w.heap.size + 1 + 1 + 1 + 1) 137 (ptCells (mostO pre)) ∧ Blk W (w.heap.size + 1 + 1 + 1 + 1 + 1) 4 #[.bool (!pre.isEmpty)]) ∧ Below w.heap.size w W)
  (fun _ _ _ => False)
  (OwnFrom.and (OwnFrom.and (Own.from (blk_own _ _ _) _) (OwnFrom.and (Own.from (blk_own _ _ _) _) (Own.from (blk_own _ _ _) _))) (ownFrom_below (Nat.le_refl _) (by omega)))
  (fun _ _ _ _ _ hs _ _ => hs)
  ⟨⟨q1, q2, q3⟩, hB0⟩
  (fun p a' W => ∃ Bx, w.heap.size + 1 + 1 + 1 + 1 + 1 < Bx ∧ Blk W Bx 137 #[.int .i64 p.x, .int .i64 p.y, .int .i64 p.n, .int .i64 p.d] ∧ a' = { tmps := #[.agg #[x, y, v], .agg #[.int .i64 xl, .int .i64 xh], .agg #[.int .i64 yl, .int .i64 yh], .pointer (some ⟨w.heap.size, 0, none⟩), .pointer (some ⟨w.heap.size + 1, 0, none⟩), .pointer (some ⟨w.heap.size + 1 + 1, 0, none⟩), .pointer (some ⟨w.heap.size + 1 + 1 + 1, 0, none⟩), .pointer (some ⟨w.heap.size + 1 + 1 + 1 + 1, 0, none⟩), .pointer (some ⟨w.heap.size + 1 + 1 + 1 + 1 + 1, 0, none⟩), .pointer (some ⟨Bx, 0, none⟩), .agg #[x, y, v], .agg #[.int .i64 xl, .int .i64 xh], .agg #[.int .i64 yl, .int .i64 yh], .func (.func 155) #[] #[.pointer (some ⟨w.heap.size + 1 + 1 + 1 + 1 + 1 + 1, 0, none⟩), .pointer (some ⟨w.heap.size + 1 + 1 + 1 + 1 + 1 + 1 + 1, 0, none⟩), .pointer (some ⟨w.heap.size + 1 + 1 + 1 + 1 + 1 + 1 + 1 + 1, 0, none⟩)], .agg #[.int .i64 p.x, .int .i64 p.y, .int .i64 p.n, .int .i64 p.d], undef, undef, undef, undef, undef, undef, undef, undef, undef, undef, undef, undef, undef, undef, undef, undef, undef, undef, undef, undef, undef, undef, undef, undef], defers := [] })
  (fun p a' _ X Y row hs hg hr => by obtain ⟨Bx, h1, h2, h3⟩ := hs; exact ⟨Bx, h1, blk_own Bx 137 (fun (_ : Unit) => #[.int .i64 p.x, .int .i64 p.y, .int .i64 p.n, .int .i64 p.d]) () X Y row h2 hg (fun r e => (hr r e).2), h3⟩)
  ?assign ?body ?done ?stop
 case assign =>
  rintro l pre p W K ⟨⟨b1, b2, b3⟩, hB1⟩ hK
  simp only [encPt]
  gi_wp2
  exact hK _ _ ((KeepsOthers.alloc _ _).from _) (kc_alloc _ _) ⟨⟨b1.alloc _, b2.alloc _, b3.alloc _⟩, bal hB1 _⟩ ⟨W.heap.size, by have := b3.lt; omega, Blk.new W _ _, rfl⟩
 case body =>
  rintro l pre p a' W hl ⟨r, hr⟩ ⟨⟨b1, b2, b3⟩, hB1⟩ ⟨Bx, hBx, bX, rfl⟩ hlt
  have bX0 := bX
  have hsW := hB1.size
  rcases pt4 bX with ⟨hX0, hX1, hX2, hX3, -⟩
  rcases List.eq_nil_or_concat pre with rfl | ⟨pre', p', hpre⟩
  ·have hc3 : W.cell? ⟨w.heap.size + 1 + 1 + 1 + 1 + 1, 0, none⟩ = some (.bool false) := b3.cell 0
   have hf3 := b3.frozen 0
   rcases pt4 (a := 0) (b := 0) (c := 0) (d := 0) b1 with ⟨hl0, hl1, hl2, hl3, hlf⟩
   rcases pt4 (a := 0) (b := 0) (c := 0) (d := 0) b2 with ⟨hm0, hm1, hm2, hm3, hmf⟩
   gi_wp2_with (refine ⟨trivial, ?_⟩)
   exact ⟨(by repeat' (with_reducible first | exact KeepsFrom.refl _ _ | refine KeepsFrom.trans ?_ (kf_set _ _ _) | refine KeepsFrom.trans ?_ (kf_below (RowKit.Hid.out (by assumption))))), (by repeat' (with_reducible first | exact kc_refl _ _ | refine KeepC.trans ?_ (kc_set' _ _ _ _ ?_) | refine KeepC.trans ?_ (KeepC.of_below (RowKit.Hid.out (by assumption))) | (constructor <;> omega))), ⟨((set4 b1 p).far4 (by omega) p).far' (by omega) _, (set4 (b2.far4 (by omega) p) p).far' (by omega) _, ((b3.far4 (by omega) p).far4 (by omega) p).set_ 0 _⟩, (by repeat' (with_reducible first | assumption | refine bset ?_ ?_ _ | refine Below.trans ?_ (Below.mono (RowKit.Hid.out (by assumption)) ?_) | (simp; done) | omega | (simp; omega)))⟩
  ·have hne : pre ≠ [] := by simp [hpre]
   obtain ⟨q, hq, -⟩ := leastO_some pre hne
   obtain ⟨s, hs, -⟩ := mostO_some pre hne
   have hpb : (!pre.isEmpty) = true := by cases pre <;> simp at hne ⊢
   rw [hpb] at b3
   rw [hq] at b1
   rw [hs] at b2
   have hc3 : W.cell? ⟨w.heap.size + 1 + 1 + 1 + 1 + 1, 0, none⟩ = some (.bool true) := b3.cell 0
   have hf3 := b3.frozen 0
   rcases pt4 (a := q.x) (b := q.y) (c := q.n) (d := q.d) b1 with ⟨hl0, hl1, hl2, hl3, hlf⟩
   rcases pt4 (a := s.x) (b := s.y) (c := s.n) (d := s.d) b2 with ⟨hm0, hm1, hm2, hm3, hmf⟩
   have hI1 : leastO (pre ++ [p]) = if cmpV p.n p.d q.n q.d < 0 then some p else some q := by rw [leastO_snoc, hq]; rfl
   have hI2 : mostO (pre ++ [p]) = if 0 < cmpV p.n p.d s.n s.d then some p else some s := by rw [mostO_snoc, hs]; rfl
   have hI3 : (!(pre ++ [p]).isEmpty) = true := by cases pre <;> rfl
   have m1 := hI9 b1
   have m2 := hI9 b2
   have m3 := hI9 b3
   have mX := hI9 bX
   clear hpb hpre hne hq hs b1 b2 b3 bX bX0
   cases h1 : decide (cmpV p.n p.d q.n q.d < 0) <;> cases h2 : decide (0 < cmpV p.n p.d s.n s.d)
   all_goals
    have E1 : RowKit.Hid (leastO (pre ++ [p]) = if cmpV p.n p.d q.n q.d < 0 then some p else some q) := hI9 hI1
    have E2 := hI9 hI2
    have E3 := hI9 hI3
    have H1 := hI9 h1
    have H2 := hI9 h2
    clear hI1 hI2 hI3
    gi_wp2_with (refine ⟨trivial, ?_⟩; gi_at_call 106; refine (CallsIn.inRound l (callsIn_wide.2 (compare_c _ _ _ _ _ (Pt.hn _) (Pt.hd _) (Pt.hn _) (Pt.hd _)))).mono ?_; rintro e w1 ⟨rfl, hb⟩; first | (have n1 := hI9 ((m1.out).below hb); have n2 := hI9 ((m2.out).below hb); have n3 := hI9 ((m3.out).below hb); have nX := hI9 ((mX.out).below hb); clear m1 m2 m3 mX; have m1 := n1; have m2 := n2; have m3 := n3; have mX := nX; clear n1 n2 n3 nX; clear hX0 hX1 hX2 hX3 hm0 hm1 hm2 hm3 hmf hl0 hl1 hl2 hl3 hlf hc3 hf3; have hc3 := m3.out.cell 0; have hf3 := m3.out.frozen 0; rcases pt4 mX.out with ⟨hX0, hX1, hX2, hX3, -⟩; rcases pt4 m1.out with ⟨hl0, hl1, hl2, hl3, hlf⟩; rcases pt4 m2.out with ⟨hm0, hm1, hm2, hm3, hmf⟩; have hz := hb.size; (try simp at hz); have hK := hI9 hb; clear hb) | (have n1 := hI9 ((set4 m1.out p).below hb); have n2 := hI9 ((m2.out.far4 (by omega) p).below hb); have n3 := hI9 ((m3.out.far4 (by omega) p).below hb); have nX := hI9 ((mX.out.far4 (by omega) p).below hb); clear m1 m2 m3 mX; have m1 := n1; have m2 := n2; have m3 := n3; have mX := nX; clear n1 n2 n3 nX; clear hX0 hX1 hX2 hX3 hm0 hm1 hm2 hm3 hmf hl0 hl1 hl2 hl3 hlf hc3 hf3; have hc3 := m3.out.cell 0; have hf3 := m3.out.frozen 0; rcases pt4 mX.out with ⟨hX0, hX1, hX2, hX3, -⟩; rcases pt4 m1.out with ⟨hl0, hl1, hl2, hl3, hlf⟩; rcases pt4 m2.out with ⟨hm0, hm1, hm2, hm3, hmf⟩; have hz := hb.size; (try simp at hz); have hK := hI9 hb; clear hb))
   ·refine ⟨(by repeat' (with_reducible first | exact KeepsFrom.refl _ _ | refine KeepsFrom.trans ?_ (kf_set _ _ _) | refine KeepsFrom.trans ?_ (kf_below (RowKit.Hid.out (by assumption))))), (by repeat' (with_reducible first | exact kc_refl _ _ | refine KeepC.trans ?_ (kc_set' _ _ _ _ ?_) | refine KeepC.trans ?_ (KeepC.of_below (RowKit.Hid.out (by assumption))) | (constructor <;> omega))), ⟨?_, ?_, ?_⟩, (by repeat' (with_reducible first | assumption | refine bset ?_ ?_ _ | refine Below.trans ?_ (Below.mono (RowKit.Hid.out (by assumption)) ?_) | (simp; done) | omega | (simp; omega)))⟩
    ·rw [E1.out, if_neg (of_decide_eq_false H1.out)]; exact m1.out.far' (by omega) _
    ·rw [E2.out, if_neg (of_decide_eq_false H2.out)]; exact m2.out.far' (by omega) _
    ·rw [E3.out]; exact m3.out.set_ 0 _
   ·refine ⟨(by repeat' (with_reducible first | exact KeepsFrom.refl _ _ | refine KeepsFrom.trans ?_ (kf_set _ _ _) | refine KeepsFrom.trans ?_ (kf_below (RowKit.Hid.out (by assumption))))), (by repeat' (with_reducible first | exact kc_refl _ _ | refine KeepC.trans ?_ (kc_set' _ _ _ _ ?_) | refine KeepC.trans ?_ (KeepC.of_below (RowKit.Hid.out (by assumption))) | (constructor <;> omega))), ⟨?_, ?_, ?_⟩, (by repeat' (with_reducible first | assumption | refine bset ?_ ?_ _ | refine Below.trans ?_ (Below.mono (RowKit.Hid.out (by assumption)) ?_) | (simp; done) | omega | (simp; omega)))⟩
    ·rw [E1.out, if_neg (of_decide_eq_false H1.out)]; exact (m1.out.far4 (by omega) p).far' (by omega) _
    ·rw [E2.out, if_pos (of_decide_eq_true H2.out)]; exact (set4 m2.out p).far' (by omega) _
    ·rw [E3.out]; exact (m3.out.far4 (by omega) p).set_ 0 _
   ·refine ⟨(by repeat' (with_reducible first | exact KeepsFrom.refl _ _ | refine KeepsFrom.trans ?_ (kf_set _ _ _) | refine KeepsFrom.trans ?_ (kf_below (RowKit.Hid.out (by assumption))))), (by repeat' (with_reducible first | exact kc_refl _ _ | refine KeepC.trans ?_ (kc_set' _ _ _ _ ?_) | refine KeepC.trans ?_ (KeepC.of_below (RowKit.Hid.out (by assumption))) | (constructor <;> omega))), ⟨?_, ?_, ?_⟩, (by repeat' (with_reducible first | assumption | refine bset ?_ ?_ _ | refine Below.trans ?_ (Below.mono (RowKit.Hid.out (by assumption)) ?_) | (simp; done) | omega | (simp; omega)))⟩
    ·rw [E1.out, if_pos (of_decide_eq_true H1.out)]; exact m1.out.far' (by omega) _
    ·rw [E2.out, if_neg (of_decide_eq_false H2.out)]; exact m2.out.far' (by omega) _
    ·rw [E3.out]; exact m3.out.set_ 0 _
   ·refine ⟨(by repeat' (with_reducible first | exact KeepsFrom.refl _ _ | refine KeepsFrom.trans ?_ (kf_set _ _ _) | refine KeepsFrom.trans ?_ (kf_below (RowKit.Hid.out (by assumption))))), (by repeat' (with_reducible first | exact kc_refl _ _ | refine KeepC.trans ?_ (kc_set' _ _ _ _ ?_) | refine KeepC.trans ?_ (KeepC.of_below (RowKit.Hid.out (by assumption))) | (constructor <;> omega))), ⟨?_, ?_, ?_⟩, (by repeat' (with_reducible first | assumption | refine bset ?_ ?_ _ | refine Below.trans ?_ (Below.mono (RowKit.Hid.out (by assumption)) ?_) | (simp; done) | omega | (simp; omega)))⟩
    ·rw [E1.out, if_pos (of_decide_eq_true H1.out)]; exact (m1.out.far4 (by omega) p).far' (by omega) _
    ·rw [E2.out, if_pos (of_decide_eq_true H2.out)]; exact (set4 m2.out p).far' (by omega) _
    ·rw [E3.out]; exact (m3.out.far4 (by omega) p).set_ 0 _
 case done =>
  rintro D ys W hD rfl ⟨⟨b1, b2, b3⟩, hB1⟩ hK
  obtain ⟨q, hq, -⟩ := leastO_some _ (cornersL_ne T (stopsL T.X xl xh) (stopsL T.Y yl yh) (stopsL_pos _ _ _) (stopsL_pos _ _ _))
  obtain ⟨s, hs, -⟩ := mostO_some _ (cornersL_ne T (stopsL T.X xl xh) (stopsL T.Y yl yh) (stopsL_pos _ _ _) (stopsL_pos _ _ _))
  rw [hq] at b1
  rw [hs] at b2
  rcases pt4 (a := q.x) (b := q.y) (c := q.n) (d := q.d) b1 with ⟨hl0, hl1, hl2, hl3, hlf⟩
  rcases pt4 (a := s.x) (b := s.y) (c := s.n) (d := s.d) b2 with ⟨hm0, hm1, hm2, hm3, hmf⟩
  gi_wp2
  gi_region
  all_goals (try gi_wp2)
  have hsW := hB1.size
  have hDD : w.heap.size + 9 ≤ D := by omega
  have z1 := (set4 b1 q).far4 (f := w.heap.size + 1 + 1 + 1 + 1) (by omega) s
  have z2 := set4 (b2.far4 (f := w.heap.size + 1 + 1 + 1) (by omega) q) s
  have zD := heap4 (D := D) (f := w.heap.size + 1 + 1 + 1 + 1) (heap4 (D := D) (f := w.heap.size + 1 + 1 + 1) hK (by omega) q) (by omega) s
  have zB : Below w.heap.size w _ := below4 (f := w.heap.size + 1 + 1 + 1 + 1) (below4 (f := w.heap.size + 1 + 1 + 1) hB1 (by omega) q) (by omega) s
  generalize ((((((((W.setCell ⟨w.heap.size + 1 + 1 + 1, 0, none⟩ (.int .i64 q.x)).setCell ⟨w.heap.size + 1 + 1 + 1, 1, none⟩ (.int .i64 q.y)).setCell ⟨w.heap.size + 1 + 1 + 1, 2, none⟩ (.int .i64 q.n)).setCell ⟨w.heap.size + 1 + 1 + 1, 3, none⟩ (.int .i64 q.d)).setCell ⟨w.heap.size + 1 + 1 + 1 + 1, 0, none⟩ (.int .i64 s.x)).setCell ⟨w.heap.size + 1 + 1 + 1 + 1, 1, none⟩ (.int .i64 s.y)).setCell ⟨w.heap.size + 1 + 1 + 1 + 1, 2, none⟩ (.int .i64 s.n)).setCell ⟨w.heap.size + 1 + 1 + 1 + 1, 3, none⟩ (.int .i64 s.d)) = Z at *
  refine ⟨by simp, .inl ⟨_, _, rfl, run_takeDeferred (show Z.drew.heap[D]? = _ from zD), ?_⟩⟩
  have y1 : Blk (Z.drew.putObj D (.deferred none)) (w.heap.size + 1 + 1 + 1) 137 _ := Blk.put z1 (by omega) _
  have y2 : Blk (Z.drew.putObj D (.deferred none)) (w.heap.size + 1 + 1 + 1 + 1) 137 _ := Blk.put z2 (by omega) _
  have yB : Below w.heap.size w (Z.drew.putObj D (.deferred none)) := (Below.drew zB).trans (belowK_b (w := w) (Nat.le_refl _) Z.drew D _ _ (by omega) zD rfl rfl)
  generalize Z.drew.putObj D (.deferred none) = Y at *
  rcases pt4 y1 with ⟨k0, k1, k2, k3, -⟩
  rcases pt4 y2 with ⟨j0, j1, j2, j3, -⟩
  refine ⟨.tuple #[.agg #[.int .i64 q.x, .int .i64 q.y, .int .i64 q.n, .int .i64 q.d], .agg #[.int .i64 s.x, .int .i64 s.y, .int .i64 s.n, .int .i64 s.d]], ?_, q, s, rfl, hq, hs, yB⟩
  simp (maxDischargeDepth := 9) [results, Tryz.results54, go_sem, k0, k1, k2, k3, j0, j1, j2, j3]
 case stop =>
  rintro D c pre W _ _ h _
  exact h.elim
end Go.Proofs.YtlambeiafdpkgaaGreat

namespace Go.Proofs.YtlambeiafdpkgaaGreat
open Go Go.RowKit Go.Proofs
abbrev Tab := Nat → Nat → Int
def stpT (t : Tab) (a b : Nat) (x : Int) : Tab := fun i j => if i = a ∧ j = b then (if t a b < 0 ∨ x < t a b then x else t a b) else t i j
def flS (t : Tab) (y a b : Nat) : Tab := if 0 ≤ t a y ∧ 0 ≤ t y b then stpT t a b (t a y + t y b) else t
def flB (y a : Nat) : Nat → Tab → Tab
 | 0, t => t
 | b + 1, t => flS (flB y a b t) y a b
def flA (n y : Nat) : Nat → Tab → Tab
 | 0, t => t
 | a + 1, t => flB y a n (flA n y a t)
def flO (n : Nat) : Nat → Tab → Tab
 | 0, t => t
 | y + 1, t => flA n y n (flO n y t)
def TabIn (n : Nat) (B : Int) (t : Tab) : Prop := (∀ i, i < n → ∀ j, j < n → -1 ≤ t i j ∧ t i j ≤ B) ∧ ∀ i, i < n → t i i = 0
def TabRd (n : Nat) (B : Int) (y : Nat) (t0 t : Tab) : Prop := TabIn n (B + B) t ∧ ∀ i, i < n → t i y = t0 i y ∧ t y i = t0 y i
theorem TabRd.step {n y : Nat} {B : Int} {t0 t : Tab} (h0 : TabIn n B t0) (hB : 0 ≤ B) (hy : y < n) (h : TabRd n B y t0 t) {a b : Nat} (ha : a < n) (hb : b < n) : TabRd n B y t0 (flS t y a b) ∧ (0 ≤ t a y ∧ 0 ≤ t y b → 0 ≤ t a y + t y b ∧ t a y + t y b ≤ B + B) := by
 obtain ⟨⟨h1, h2⟩, h3⟩ := h
 have e1 := (h3 a ha).1
 have e2 := (h3 b hb).2
 have b1 := h0.1 a ha y hy
 have b2 := h0.1 y hy b hb
 have hyy := h2 y hy
 refine ⟨?_, fun _ => by omega⟩
 unfold flS
 by_cases hc : 0 ≤ t a y ∧ 0 ≤ t y b
 case neg => rw [if_neg hc]; exact ⟨⟨h1, h2⟩, h3⟩
 rw [if_pos hc]
 have hz : ∀ i j, ¬ (i = a ∧ j = b) → stpT t a b (t a y + t y b) i j = t i j := fun i j q => if_neg q
 have hs : stpT t a b (t a y + t y b) a b = if t a b < 0 ∨ t a y + t y b < t a b then t a y + t y b else t a b := if_pos ⟨rfl, rfl⟩
 have ha0 := h2 a ha
 refine ⟨⟨fun i hi j hj => ?_, fun i hi => ?_⟩, fun i hi => ⟨?_, ?_⟩⟩
 ·by_cases q : i = a ∧ j = b
  ·rw [q.1, q.2, hs]
   have := h1 a ha b hb
   split <;> omega
  ·rw [hz i j q]; exact h1 i hi j hj
 ·by_cases q : i = a ∧ i = b
  ·rw [q.1, show stpT t a b (t a y + t y b) a a = stpT t a b (t a y + t y b) a b by rw [← q.2, q.1], hs]
   have : t a b = 0 := by rw [← q.2, q.1]; exact ha0
   rw [this, if_neg (by omega)]
  ·rw [hz i i q]; exact h2 i hi
 ·by_cases q : i = a ∧ y = b
  ·obtain ⟨rfl, rfl⟩ := q
   rw [hs, if_neg (by omega)]
   exact e1
  ·rw [hz i y q]; exact (h3 i hi).1
 ·by_cases q : y = a ∧ i = b
  ·obtain ⟨rfl, rfl⟩ := q
   rw [hs, if_neg (by omega)]
   exact e2
  ·rw [hz y i q]; exact (h3 i hi).2
theorem TabRd.rowB {n y : Nat} {B : Int} {t0 t : Tab} (h0 : TabIn n B t0) (hB : 0 ≤ B) (hy : y < n) (h : TabRd n B y t0 t) {a : Nat} (ha : a < n) : ∀ b, b ≤ n → TabRd n B y t0 (flB y a b t)
 | 0, _ => h
 | b + 1, hb => (TabRd.step h0 hB hy (TabRd.rowB h0 hB hy h ha b (by omega)) ha (by omega)).1
theorem TabRd.rowA {n y : Nat} {B : Int} {t0 : Tab} (h0 : TabIn n B t0) (hB : 0 ≤ B) (hy : y < n) : ∀ a, a ≤ n → TabRd n B y t0 (flA n y a t0)
 | 0, _ => ⟨⟨fun i hi j hj => by have := h0.1 i hi j hj; show -1 ≤ t0 i j ∧ t0 i j ≤ B + B; omega, h0.2⟩, fun _ _ => ⟨rfl, rfl⟩⟩
 | a + 1, ha => TabRd.rowB h0 hB hy (TabRd.rowA h0 hB hy a (by omega)) (by omega) n (Nat.le_refl _)
theorem TabIn.flO {n : Nat} {B : Int} {t : Tab} (h : TabIn n B t) (hB : 0 ≤ B) : ∀ y, y ≤ n → TabIn n (B * 2 ^ y) (flO n y t)
 | 0, _ => by
  show TabIn n (B * 2 ^ 0) t
  simpa using h
 | y + 1, hy => by
  have ih := TabIn.flO h hB y (by omega)
  have hB' : 0 ≤ B * 2 ^ y := Int.mul_nonneg hB (Int.pow_nonneg (by omega))
  have := (TabRd.rowA (y := y) ih hB' (by omega) n (Nat.le_refl _)).1
  rw [show B * 2 ^ (y + 1) = B * 2 ^ y + B * 2 ^ y by rw [Int.pow_succ, ← Int.mul_assoc]; omega]
  exact this
structure Sq (w : World) (T : TypeId) (lo hi g : Nat) (r : Nat → Nat) (n : Nat) (t : Tab) : Prop where
 gl : lo ≤ g ∧ g < hi ∧ hi ≤ w.heap.size
 rl : ∀ i, i < n → lo ≤ r i ∧ r i < hi ∧ r i ≠ g
 d : ∀ i, i < n → ∀ j, j < n → r i = r j → i = j
 o : ∀ i, i < n → ∃ c, n ≤ c ∧ c ≤ 9223372036854775807 ∧ w.cell? ⟨g, i, none⟩ = some (.slice (some ⟨r i, 0, none⟩) n c)
 b : ∀ i, i < n → ∃ cs, Blk w (r i) T cs ∧ ∀ j, j < n → cs[j]? = some (.int .i64 (t i j))
theorem cell_heap {w w' : World} {g : Nat} (h : w'.heap[g]? = w.heap[g]?) (i : Nat) : w'.cell? ⟨g, i, none⟩ = w.cell? ⟨g, i, none⟩ := by
 simp only [World.cell?, h]
theorem Sq.frame {w w' : World} {T : TypeId} {lo hi g n : Nat} {r : Nat → Nat} {t : Tab} (h : Sq w T lo hi g r n t) (hs : w.heap.size ≤ w'.heap.size) (hb : ∀ b, lo ≤ b → b < hi → w'.heap[b]? = w.heap[b]?) : Sq w' T lo hi g r n t :=
 ⟨⟨h.gl.1, h.gl.2.1, Nat.le_trans h.gl.2.2 hs⟩, h.rl, h.d, fun i hi => (h.o i hi).imp fun c q => ⟨q.1, q.2.1, (cell_heap (hb g h.gl.1 h.gl.2.1) i).trans q.2.2⟩, fun i hi => (h.b i hi).imp fun cs q => ⟨(hb (r i) (h.rl i hi).1 (h.rl i hi).2.1).trans q.1, q.2⟩⟩
theorem Sq.below {w w' : World} {T : TypeId} {lo hi g n : Nat} {r : Nat → Nat} {t : Tab} (h : Sq w T lo hi g r n t) (hb : Below w.heap.size w w') : Sq w' T lo hi g r n t :=
 h.frame hb.size fun b _ h2 => hb.block b (Nat.lt_of_lt_of_le h2 h.gl.2.2)
theorem Sq.alloc {w : World} {T : TypeId} {lo hi g n : Nat} {r : Nat → Nat} {t : Tab} (h : Sq w T lo hi g r n t) (o : Obj) : Sq (w.alloc o) T lo hi g r n t := h.below (bal (Below.refl _ _) o)
theorem Sq.far {w : World} {T : TypeId} {lo hi g n : Nat} {r : Nat → Nat} {t : Tab} (h : Sq w T lo hi g r n t) {k i : Nat} (hk : k < lo ∨ hi ≤ k) (u : Value) : Sq (w.setCell ⟨k, i, none⟩ u) T lo hi g r n t :=
 h.frame (by simp) fun b h1 h2 => Below.heap_setCell w ⟨k, i, none⟩ u b (by show b ≠ k; omega)
theorem Sq.set_ {w : World} {T : TypeId} {lo hi g n : Nat} {r : Nat → Nat} {t : Tab} (h : Sq w T lo hi g r n t) {a b : Nat} (ha : a < n) (x : Int) : Sq (w.setCell ⟨r a, b, none⟩ (.int .i64 x)) T lo hi g r n (fun i j => if i = a ∧ j = b then x else t i j) := by
 refine ⟨⟨h.gl.1, h.gl.2.1, by simpa using h.gl.2.2⟩, h.rl, h.d, fun i hi => ?_, fun i hi => ?_⟩
 ·obtain ⟨c, q1, q2, q3⟩ := h.o i hi
  exact ⟨c, q1, q2, (cell_heap (Below.heap_setCell w ⟨r a, b, none⟩ _ g (by show g ≠ r a; exact Ne.symm (h.rl a ha).2.2)) i).trans q3⟩
 ·obtain ⟨cs, q1, q2⟩ := h.b i hi
  by_cases e : i = a
  ·subst e
   refine ⟨_, q1.set_ b (.int .i64 x), fun j hj => ?_⟩
   rw [Array.getElem?_setIfInBounds]
   by_cases e : b = j
   ·subst e
    have := (Array.getElem?_eq_some_iff.1 (q2 b hj)).1
    rw [if_pos rfl, if_pos this, if_pos ⟨rfl, rfl⟩]
   ·rw [if_neg e, q2 j hj, if_neg (fun q => e q.2.symm)]
  ·refine ⟨cs, q1.far' (i := b) (f := r a) (fun q => e (h.d i hi a ha q)) (.int .i64 x), fun j hj => ?_⟩
   rw [q2 j hj, if_neg (fun q => e q.1)]
theorem Sq.cell {w : World} {T : TypeId} {lo hi g n : Nat} {r : Nat → Nat} {t : Tab} (h : Sq w T lo hi g r n t) {a b : Nat} (ha : a < n) (hb : b < n) : w.cell? ⟨r a, b, none⟩ = some (.int .i64 (t a b)) := by
 obtain ⟨cs, q1, q2⟩ := h.b a ha
 rw [q1.cell b]
 exact q2 b hb
theorem Sq.fr {w : World} {T : TypeId} {lo hi g n : Nat} {r : Nat → Nat} {t : Tab} (h : Sq w T lo hi g r n t) {a : Nat} (ha : a < n) (b : Nat) : w.frozen? ⟨r a, b, none⟩ = false := by
 obtain ⟨cs, q1, q2⟩ := h.b a ha
 exact q1.frozen b
end Go.Proofs.YtlambeiafdpkgaaGreat

namespace Go.Proofs.YtlambeiafdpkgaaGreat
open Go Go.RowKit Go.Proofs
set_option maxRecDepth 100000
set_option maxHeartbeats 8000000
end Go.Proofs.YtlambeiafdpkgaaGreat
