/- Texts joined: JAC. -/
import Derived.Test.YtbgkbdhdkpjcdaaGreatWeA
import Derived.Test.YtbgkbdhdkpjcdaaGreatJAB
import Derived.Test.YtbgkbdhdkpjcdaaGreatBas
set_option linter.all false
namespace Go.Proofs.YtbgkbdhdkpjcdaaGreat
open Go Go.RowKit Go.Proofs
set_option maxRecDepth 100000
set_option maxHeartbeats 4000000

def cuL (al ah bl bh : Int) : Int := if max al bl ≤ min ah bh then max al bl else bl
def cuH (al ah bl bh : Int) : Int := if max al bl ≤ min ah bh then min ah bh else bh
def cuF (al ah bl bh : Int) : Bool := !decide (max al bl ≤ min ah bh)

def cutR (w0 : Nat) (g o : Nat) (al ah bl bh ml mh me : Int) : Nat → Value → World → Prop
  | 0, v, _ => v = .pointer (some ⟨g, o, none⟩)
  | 1, v, _ => v = .pointer (some ⟨g, o, none⟩)
  | 2, v, _ => v = .agg #[.int .i64 al, .int .i64 ah]
  | 3, v, _ => v = .agg #[.int .i64 bl, .int .i64 bh]
  | 4, v, _ => v = .tuple #[.agg #[.int .i64 ml, .int .i64 mh], .int .i64 me]
  | 5, v, _ => v = .tuple #[.agg #[.int .i64 ml, .int .i64 mh], .int .i64 me]
  | 6, v, _ => v = .agg #[.int .i64 ml, .int .i64 mh]
  | 7, v, _ => v = .int .i64 me
  | 8, v, w => NewBlk w0 23 #[.int .i64 0, .int .i64 0] v w
  | _, _, _ => True
theorem cutR_below {w0 : Nat} {g o : Nat} {al ah bl bh ml mh me : Int} (k : Nat) (v : Value) (w w' : World) (hb : Below w.heap.size w w') (h : cutR w0 g o al ah bl bh ml mh me k v w) : cutR w0 g o al ah bl bh ml mh me k v w' := by
  unfold cutR at *
  split at h <;> first | exact h | exact NewBlk.below hb h

theorem cut_c (g o : Nat) (al ah bl bh : Int) (w : World) (ha : vspan al ah = true) (hb : vspan bl bh = true) (h0 : w.cell? ⟨g, o, none⟩ = some (.int .i64 al)) (h1 : w.cell? ⟨g, o + 1, none⟩ = some (.int .i64 ah))
    (f0 : w.frozen? ⟨g, o, none⟩ = false) (f1 : w.frozen? ⟨g, o + 1, none⟩ = false) :
   Calls Tryz.prog 165 #[.pointer (some ⟨g, o, none⟩), .agg #[.int .i64 bl, .int .i64 bh]] w fun e w' => e = .returned (.bool (cuF al ah bl bh)) ∧
     ∃ wm, Below w.heap.size w wm ∧ w' = (wm.setCell ⟨g, o, none⟩ (.int .i64 (cuL al ah bl bh))).setCell ⟨g, o + 1, none⟩ (.int .i64 (cuH al ah bl bh)) := by
  have hg : g < w.heap.size := blk_lt h0
  have HG := Lib.hid (And.intro (fun w1 (h : Below w.heap.size w w1) => (h.cell (p := ⟨g, o, none⟩) hg).trans h0) (And.intro (fun w1 (h : Below w.heap.size w w1) => (h.cell (p := ⟨g, o + 1, none⟩) hg).trans h1)
    (And.intro (fun w1 (h : Below w.heap.size w w1) => (h.frozen (p := ⟨g, o, none⟩) hg).trans f0) (fun w1 (h : Below w.heap.size w w1) => (h.frozen (p := ⟨g, o + 1, none⟩) hg).trans f1))))
  have hm := fun w1 => Meet_c al ah bl bh w1 ha hb
  unfold cuL cuH cuF
  clear h0 h1 f0 f1 ha hb
  unfold meL meH meE at hm
  by_cases h : max al bl ≤ min ah bh
  · rw [if_pos h, if_pos h, if_pos h] at hm
    rw [if_pos h, if_pos h, show (!decide (max al bl ≤ min ah bh)) = false by simp [h]]
    generalize max al bl = ml at *
    generalize min ah bh = mh at *
    have HM := Lib.hid hm
    clear hm h
    go_enter Tryz.func165, Tryz.ntmps165
    go_wp2_with (fail)
    have bHX : Blk (w.alloc (.cells #[.int .i64 bl, .int .i64 bh] 23)) (w.heap.size) 23 #[.int .i64 bl, .int .i64 bh] := (by repeat (first | (refine Blk.newAt _ _ _ ?_; first | rfl | (simp; done)) | refine Blk.alloc ?_ _))
    have bHB : Below w.heap.size w (w.alloc (.cells #[.int .i64 bl, .int .i64 bh] 23)) := (by repeat' (first | exact Below.refl _ _ | assumption | refine Below.drew ?_ | refine bdn ?_ _ | refine bal ?_ _ | refine Below.setCell ?_ (by first | (simp; done) | omega | (simp; omega)) _))
    generalize (w.alloc (.cells #[.int .i64 bl, .int .i64 bh] 23)) = W at *
    have zW := bHX.lt
    have HX := Lib.hid bHX
    have HB := Lib.hid bHB
    clear bHX bHB
    refine wp_region_specL 9 [7] (cutR W.heap.size g o al ah bl bh ml mh 0) (fun i => decide (i = 8)) (by kernel_rfl) (by kernel_rfl) (by decide) cutR_below ?hop1 ?htail1
    case hop1 =>
      simp only [List.take_succ_cons, List.take_zero, allOps]
      refine ⟨?_, ?_, ?_, ?_, ?_, ?_, ?_, ?_, ?_, trivial⟩
      all_goals intro u A w1 hA hb hd
      all_goals simp only [putAll, dstOf, List.getElem?_toArray, List.getElem?_cons_succ, List.getElem?_cons_zero, Option.bind_some, Option.bind, Act.put, List.setIfInBounds_toArray, List.set_cons_succ, List.set_cons_zero] at hA; subst hA
      all_goals have HB1 := Lib.hid hb
      · refine OpOk.now rfl ?_
        clear hb hd
        go_wp2
        exact ⟨_, rfl, Below.refl _ _, rfl, fun h => absurd h (by decide)⟩
      · refine OpOk.now rfl ?_
        have d0 : u 0 = _ := hd 0 (by omega) (by kernel_rfl)
        clear hb hd
        rw [d0]
        clear d0
        go_wp2
        exact ⟨_, rfl, Below.refl _ _, rfl, fun h => absurd h (by decide)⟩
      · refine OpOk.now rfl ?_
        have d1 : u 1 = _ := hd 1 (by omega) (by kernel_rfl)
        clear hb hd
        rw [d1]
        clear d1
        have c0 := HG.out.1 _ (bthen HB.out HB1.out)
        have c1 := HG.out.2.1 _ (bthen HB.out HB1.out)
        go_wp2
        exact ⟨_, rfl, Below.refl _ _, rfl, fun h => absurd h (by decide)⟩
      · refine OpOk.now rfl ?_
        clear hb hd
        have c0 := (HX.out.below HB1.out).cell 0
        have c1 := (HX.out.below HB1.out).cell 1
        go_wp2
        exact ⟨_, rfl, Below.refl _ _, rfl, fun h => absurd h (by decide)⟩
      · refine OpOk.now rfl ?_
        have d2 : u 2 = _ := hd 2 (by omega) (by kernel_rfl)
        have d3 : u 3 = _ := hd 3 (by omega) (by kernel_rfl)
        clear hb hd
        rw [d2, d3]
        clear d2 d3
        go_wp2_with (go_at_call 191; (with_reducible refine (HM.out _).mono ?_); rintro e w2 ⟨rfl, hb2⟩)
        exact ⟨_, rfl, hb2, rfl, fun h => absurd h (by decide)⟩
      · refine OpOk.now rfl ?_
        have d4 : u 4 = _ := hd 4 (by omega) (by kernel_rfl)
        clear hb hd
        rw [d4]
        clear d4
        go_wp2
        exact ⟨_, rfl, Below.refl _ _, rfl, fun h => absurd h (by decide)⟩
      · refine OpOk.now rfl ?_
        have d5 : u 5 = _ := hd 5 (by omega) (by kernel_rfl)
        clear hb hd
        rw [d5]
        clear d5
        go_wp2
        exact ⟨_, rfl, Below.refl _ _, rfl, fun h => absurd h (by decide)⟩
      · have d5 : u 5 = _ := hd 5 (by omega) (by kernel_rfl)
        clear hb hd
        rw [d5]
        clear d5
        refine OpOk.late rfl ?_
        exact ⟨_, yields_extract rfl _ _ rfl _ rfl _ rfl, rfl⟩
      · refine OpOk.now rfl ?_
        have zz := hb.size
        clear hb hd
        go_wp2
        exact ⟨_, rfl, bal (Below.refl _ _) _, ⟨_, rfl, by omega, Blk.new _ _ _⟩, fun _ => ⟨_, rfl, Nat.le_refl _, by simp⟩⟩
    case htail1 =>
      intro u A w1 hA hb hd hf
      simp only [putAll, dstOf, List.getElem?_toArray, List.getElem?_cons_succ, List.getElem?_cons_zero, Option.bind_some, Option.bind, Act.put, List.setIfInBounds_toArray, List.set_cons_succ, List.set_cons_zero] at hA; subst hA
      have e0 : u 0 = _ := hd 0 (by omega)
      have e1 : u 1 = _ := hd 1 (by omega)
      have e2 : u 2 = _ := hd 2 (by omega)
      have e3 : u 3 = _ := hd 3 (by omega)
      have e4 : u 4 = _ := hd 4 (by omega)
      have e5 : u 5 = _ := hd 5 (by omega)
      have e6 : u 6 = _ := hd 6 (by omega)
      have e7 : u 7 = _ := hd 7 (by omega)
      obtain ⟨g8, e8, z8, b8⟩ := hd 8 (by omega)
      first | rw [e0, e1, e2, e3, e4, e5, e6, e7, e8] | simp only [e0, e1, e2, e3, e4, e5, e6, e7, e8]
      clear e0 e1 e2 e3 e4 e5 e6 e7 e8
      clear hd hf
      have nHX := Lib.hid (HX.out.below hb)
      have nHB := Lib.hid (bthen HB.out hb)
      have zz := hb.size
      have HZ := Lib.hid b8
      have x0 := b8.cell 0
      have x1 := b8.cell 1
      have x2 := fun i => b8.frozen i
      clear hb b8 HX HB
      go_wp2
      dsimp only [NoPanic]
      have HZ2 := Lib.hid ((HZ.out.set_ 0 (.int .i64 ml)).set_ 1 (.int .i64 mh))
      have HX2 := Lib.hid ((nHX.out.far' (f := g8) (by omega) (i := 0) (.int .i64 ml)).far' (f := g8) (by omega) (i := 1) (.int .i64 mh))
      have HB := Lib.hid (bset (bset nHB.out (g := g8) (by omega) (i := 0) (.int .i64 ml)) (g := g8) (by omega) (i := 1) (.int .i64 mh))
      clear x0 x1 x2 HZ nHX nHB
      generalize (w1.setCell ⟨g8, 0, none⟩ (.int .i64 ml)).setCell ⟨g8, 1, none⟩ (.int .i64 mh) = W3 at *
      have x0 := HX2.out.cell 0
      have x1 := HX2.out.cell 1
      have z0 := HZ2.out.cell 0
      have z1 := HZ2.out.cell 1
      have c0 := HG.out.1 _ HB.out
      have c1 := HG.out.2.1 _ HB.out
      have f0 := HG.out.2.2.1 _ HB.out
      have f1 := HG.out.2.2.2 _ HB.out
      simp at x0 x1 z0 z1
      go_wp2
      go_ret
      exact ⟨rfl, W3, HB.out, rfl⟩
  · rw [if_neg h, if_neg h, if_neg h] at hm
    rw [if_neg h, if_neg h, show (!decide (max al bl ≤ min ah bh)) = true by simp [h]]
    clear h
    have HM := Lib.hid hm
    clear hm
    go_enter Tryz.func165, Tryz.ntmps165
    go_wp2_with (fail)
    have bHX : Blk (w.alloc (.cells #[.int .i64 bl, .int .i64 bh] 23)) (w.heap.size) 23 #[.int .i64 bl, .int .i64 bh] := (by repeat (first | (refine Blk.newAt _ _ _ ?_; first | rfl | (simp; done)) | refine Blk.alloc ?_ _))
    have bHB : Below w.heap.size w (w.alloc (.cells #[.int .i64 bl, .int .i64 bh] 23)) := (by repeat' (first | exact Below.refl _ _ | assumption | refine Below.drew ?_ | refine bdn ?_ _ | refine bal ?_ _ | refine Below.setCell ?_ (by first | (simp; done) | omega | (simp; omega)) _))
    generalize (w.alloc (.cells #[.int .i64 bl, .int .i64 bh] 23)) = W at *
    have zW := bHX.lt
    have HX := Lib.hid bHX
    have HB := Lib.hid bHB
    clear bHX bHB
    refine wp_region_specL 9 [7] (cutR W.heap.size g o al ah bl bh (0 : Int) (0 : Int) 3) (fun i => decide (i = 8)) (by kernel_rfl) (by kernel_rfl) (by decide) cutR_below ?hop2 ?htail2
    case hop2 =>
      simp only [List.take_succ_cons, List.take_zero, allOps]
      refine ⟨?_, ?_, ?_, ?_, ?_, ?_, ?_, ?_, ?_, trivial⟩
      all_goals intro u A w1 hA hb hd
      all_goals simp only [putAll, dstOf, List.getElem?_toArray, List.getElem?_cons_succ, List.getElem?_cons_zero, Option.bind_some, Option.bind, Act.put, List.setIfInBounds_toArray, List.set_cons_succ, List.set_cons_zero] at hA; subst hA
      all_goals have HB1 := Lib.hid hb
      · refine OpOk.now rfl ?_
        clear hb hd
        go_wp2
        exact ⟨_, rfl, Below.refl _ _, rfl, fun h => absurd h (by decide)⟩
      · refine OpOk.now rfl ?_
        have d0 : u 0 = _ := hd 0 (by omega) (by kernel_rfl)
        clear hb hd
        rw [d0]
        clear d0
        go_wp2
        exact ⟨_, rfl, Below.refl _ _, rfl, fun h => absurd h (by decide)⟩
      · refine OpOk.now rfl ?_
        have d1 : u 1 = _ := hd 1 (by omega) (by kernel_rfl)
        clear hb hd
        rw [d1]
        clear d1
        have c0 := HG.out.1 _ (bthen HB.out HB1.out)
        have c1 := HG.out.2.1 _ (bthen HB.out HB1.out)
        go_wp2
        exact ⟨_, rfl, Below.refl _ _, rfl, fun h => absurd h (by decide)⟩
      · refine OpOk.now rfl ?_
        clear hb hd
        have c0 := (HX.out.below HB1.out).cell 0
        have c1 := (HX.out.below HB1.out).cell 1
        go_wp2
        exact ⟨_, rfl, Below.refl _ _, rfl, fun h => absurd h (by decide)⟩
      · refine OpOk.now rfl ?_
        have d2 : u 2 = _ := hd 2 (by omega) (by kernel_rfl)
        have d3 : u 3 = _ := hd 3 (by omega) (by kernel_rfl)
        clear hb hd
        rw [d2, d3]
        clear d2 d3
        go_wp2_with (go_at_call 191; (with_reducible refine (HM.out _).mono ?_); rintro e w2 ⟨rfl, hb2⟩)
        exact ⟨_, rfl, hb2, rfl, fun h => absurd h (by decide)⟩
      · refine OpOk.now rfl ?_
        have d4 : u 4 = _ := hd 4 (by omega) (by kernel_rfl)
        clear hb hd
        rw [d4]
        clear d4
        go_wp2
        exact ⟨_, rfl, Below.refl _ _, rfl, fun h => absurd h (by decide)⟩
      · refine OpOk.now rfl ?_
        have d5 : u 5 = _ := hd 5 (by omega) (by kernel_rfl)
        clear hb hd
        rw [d5]
        clear d5
        go_wp2
        exact ⟨_, rfl, Below.refl _ _, rfl, fun h => absurd h (by decide)⟩
      · have d5 : u 5 = _ := hd 5 (by omega) (by kernel_rfl)
        clear hb hd
        rw [d5]
        clear d5
        refine OpOk.late rfl ?_
        exact ⟨_, yields_extract rfl _ _ rfl _ rfl _ rfl, rfl⟩
      · refine OpOk.now rfl ?_
        have zz := hb.size
        clear hb hd
        go_wp2
        exact ⟨_, rfl, bal (Below.refl _ _) _, ⟨_, rfl, by omega, Blk.new _ _ _⟩, fun _ => ⟨_, rfl, Nat.le_refl _, by simp⟩⟩
    case htail2 =>
      intro u A w1 hA hb hd hf
      simp only [putAll, dstOf, List.getElem?_toArray, List.getElem?_cons_succ, List.getElem?_cons_zero, Option.bind_some, Option.bind, Act.put, List.setIfInBounds_toArray, List.set_cons_succ, List.set_cons_zero] at hA; subst hA
      have e0 : u 0 = _ := hd 0 (by omega)
      have e1 : u 1 = _ := hd 1 (by omega)
      have e2 : u 2 = _ := hd 2 (by omega)
      have e3 : u 3 = _ := hd 3 (by omega)
      have e4 : u 4 = _ := hd 4 (by omega)
      have e5 : u 5 = _ := hd 5 (by omega)
      have e6 : u 6 = _ := hd 6 (by omega)
      have e7 : u 7 = _ := hd 7 (by omega)
      obtain ⟨g8, e8, z8, b8⟩ := hd 8 (by omega)
      first | rw [e0, e1, e2, e3, e4, e5, e6, e7, e8] | simp only [e0, e1, e2, e3, e4, e5, e6, e7, e8]
      clear e0 e1 e2 e3 e4 e5 e6 e7 e8
      clear hd hf
      have nHX := Lib.hid (HX.out.below hb)
      have nHB := Lib.hid (bthen HB.out hb)
      have zz := hb.size
      have HZ := Lib.hid b8
      have x0 := b8.cell 0
      have x1 := b8.cell 1
      have x2 := fun i => b8.frozen i
      clear hb b8 HX HB
      go_wp2
      dsimp only [NoPanic]
      have HZ2 := Lib.hid ((HZ.out.set_ 0 (.int .i64 (0 : Int))).set_ 1 (.int .i64 (0 : Int)))
      have HX2 := Lib.hid ((nHX.out.far' (f := g8) (by omega) (i := 0) (.int .i64 (0 : Int))).far' (f := g8) (by omega) (i := 1) (.int .i64 (0 : Int)))
      have HB := Lib.hid (bset (bset nHB.out (g := g8) (by omega) (i := 0) (.int .i64 (0 : Int))) (g := g8) (by omega) (i := 1) (.int .i64 (0 : Int)))
      clear x0 x1 x2 HZ nHX nHB
      generalize (w1.setCell ⟨g8, 0, none⟩ (.int .i64 (0 : Int))).setCell ⟨g8, 1, none⟩ (.int .i64 (0 : Int)) = W3 at *
      have x0 := HX2.out.cell 0
      have x1 := HX2.out.cell 1
      have z0 := HZ2.out.cell 0
      have z1 := HZ2.out.cell 1
      have c0 := HG.out.1 _ HB.out
      have c1 := HG.out.2.1 _ HB.out
      have f0 := HG.out.2.2.1 _ HB.out
      have f1 := HG.out.2.2.2 _ HB.out
      simp at x0 x1 z0 z1
      go_wp2
      go_ret
      exact ⟨rfl, W3, HB.out, rfl⟩
end Go.Proofs.YtbgkbdhdkpjcdaaGreat

namespace Go.Proofs.YtbgkbdhdkpjcdaaGreat
open Go Go.RowKit Go.Proofs

section
variable {P : Program} {ops : Array Oper}
theorem any_of_specsH (G : Nat → World → World → Prop) (J : World → Prop) (I : Nat → World → Prop) (hGs : ∀ i a b, G i a b → a.heap.size ≤ b.heap.size) (hJ : ∀ i a b, G i a b → J a → J b) (hI : ∀ k j a b, k ≠ j → k ∉ depsOf ops j → G j a b → I k a → I k b) {Q : Exit → Act → World → Prop} {R : Nat → Value → World → Prop} {fresh : Nat → Bool} {n : Nat} {a : Act} {w : World} {tail : List Oper}
    (hB : specB ops n = true) (hR : ∀ k j v a b, k ≠ j → G j a b → R k v a → R k v b)
    (hop : ∀ i oi, i < n → ops[i]? = some oi → ∀ (u : Nat → Value) (w1 : World), J w1 → I i w1 → (∀ k ∈ depsOf ops i, k < n → R k (u k) w1) → wpList P ops (EndOpG G Q R fresh ops i (putAll ops a u n) w1) [oi] (putAll ops a u n) w1)
    (htl : ∀ j, tail[j]? = ops[n + j]?) (htn : tail.length = ops.size - n)
    (htail : ∀ (u : Nat → Value) (w1 : World), J w1 → (∀ k, k < n → R k (u k) w1) → (∀ i j, i < n → j < n → i ≠ j → fresh i = true → fresh j = true → u i ≠ u j) → wpList P ops Q tail (putAll ops a u n) w1) :
    ∀ (m : Nat) (listed : Array Bool) (u : Nat → Value) (w1 : World), HeadInv .any ops n listed → ((List.range n).filter fun i => !listed.getD i false).length = m →
      SpecInvG I ops R fresh n listed u w1 → J w1 → wpAny P .any ops Q (m + (ops.size - n)) listed (putAll ops a u n) w1 := by
  simp only [specB, Bool.and_eq_true, decide_eq_true_eq] at hB
  obtain ⟨⟨⟨⟨⟨hn, hdist⟩, hforw⟩, hs⟩, hc⟩, hseq⟩ := hB
  intro m
  induction m with
  | zero =>
    intro listed u w1 inv hm sinv hb
    have all : ∀ i, i < n → listed.getD i false = true := by
      intro i hi
      have h0 := List.eq_nil_of_length_eq_zero hm
      rw [List.filter_eq_nil_iff] at h0
      have := h0 i (List.mem_range.2 hi)
      simpa using this
    have e := headDone_eq inv.size (by omega) all inv.tail
    subst e
    have := wpAny_of_seq (md := .any) (Q' := Q) tail n (headDone ops.size n) (putAll ops a u n) w1 htl (by rw [htn]; exact hseq)
      (htail u w1 hb (fun k hk => sinv.r k hk (all k hk)) (fun i j hi hj hij => sinv.d i j hi hj hij (all i hi) (all j hj)))
    rw [htn] at this
    rw [Nat.zero_add]
    exact this
  | succ m ih =>
    intro listed u w1 inv hm sinv hb
    -- some operation of the head has not come up
    obtain ⟨i0, hi0⟩ : ∃ i0, i0 ∈ (List.range n).filter fun i => !listed.getD i false := by
      cases hl : (List.range n).filter fun i => !listed.getD i false with
      | nil => rw [hl] at hm; simp at hm
      | cons x xs => exact ⟨x, by simp⟩
    obtain ⟨hi0n, hi0l⟩ := List.mem_filter.1 hi0
    have hi0n := List.mem_range.1 hi0n
    have hun : listed.getD i0 true = false := getD_in (by rw [inv.size]; omega) (by simpa using hi0l)
    have key : ∀ i ∈ Region.ready .any ops listed, i < n := fun i hi => Nat.lt_of_not_le fun h => tail_waits hs hc hn inv _ i0 rfl hi0n hun i h hi
    rw [show m + 1 + (ops.size - n) = (m + (ops.size - n)) + 1 by omega]
    refine ⟨fun h0 => ?_, fun i hi => ?_⟩
    · exfalso
      have low : ∀ i, i < n → listed.getD i false = false → False := by
        intro i
        induction i using Nat.strongRecOn with
        | _ i ih =>
          intro hin hl
          have hoi : ops[i]? = some ops[i] := Array.getElem?_eq_getElem (by omega)
          by_cases hall : ∀ e ∈ (ops[i]'(by omega)).after, Region.binds .any e = true → listed.getD e.on false = true
          · have : i ∈ Region.ready .any ops listed := mem_ready.2 ⟨getD_in (by rw [inv.size]; omega) hl, ops[i], hoi, hall⟩
            rw [h0] at this; cases this
          · have hex : ∃ e ∈ (ops[i]'(by omega)).after, Region.binds .any e = true ∧ listed.getD e.on false = false := by
              refine Classical.byContradiction fun hne => hall fun e he hbe => ?_
              cases hx : listed.getD e.on false with
              | true => rfl
              | false => exact absurd ⟨e, he, hbe, hx⟩ hne
            obtain ⟨e, he, hbe, hx⟩ := hex
            have hlt := forwB_lt hforw hin hoi (List.mem_map.2 ⟨e, List.mem_filter.2 ⟨by simpa using he, hbe⟩, rfl⟩)
            exact ih e.on hlt (by omega) hx
      exact low i0 hi0n (by simpa using hi0l)
    · have hin := key i hi
      obtain ⟨hil, oi, hoi, hall⟩ := mem_ready.1 hi
      refine wpOp_of_endG hoi (hop i oi hin hoi u w1 hb (sinv.o i hin (getD_both hil)) fun k hk hkn => ?_) fun v w' hb' hv hf => ?_
      · have : ∃ e ∈ oi.after.toList, Region.binds .any e = true ∧ e.on = k := by
          unfold depsOf at hk; rw [hoi] at hk
          simp only [List.mem_map, List.mem_filter] at hk
          obtain ⟨e, ⟨he, hbe⟩, rfl⟩ := hk
          exact ⟨e, he, hbe, rfl⟩
        obtain ⟨e, he, hbe, rfl⟩ := this
        exact sinv.r _ hkn (hall e (by simpa using he) hbe)
      · rw [← putAll_upd n hin hdist]
        have hl' : ∀ k, k ≠ i → (listed.setIfInBounds i true).getD k false = listed.getD k false := fun k hk => getD_set_ne false (Ne.symm hk)
        refine ih (listed.setIfInBounds i true) (upd u i v) w' (inv.set hi hin) ?_ ⟨?_, ?_, ?_, ?_⟩ (hJ i _ _ hb' hb)
        · have := cnt_set (n := n) (p := fun k => !listed.getD k false) (q := fun k => !(listed.setIfInBounds i true).getD k false) hin (by simpa using getD_both hil) (by rw [getD_set_self (by rw [inv.size]; omega)]; rfl) (fun k hk => by rw [hl' k hk])
          omega
        · intro k hk hkl
          by_cases e : k = i
          · subst e; rw [getD_set_self (by rw [inv.size]; omega)] at hkl; cases hkl
          · rw [hl' k e] at hkl; exact hI k i _ _ e (fun hc => by
              have : ∃ e ∈ oi.after.toList, Region.binds .any e = true ∧ e.on = k := by
                unfold depsOf at hc; rw [hoi] at hc
                simp only [List.mem_map, List.mem_filter] at hc
                obtain ⟨e2, ⟨he, hbe⟩, hk2⟩ := hc
                exact ⟨e2, he, hbe, hk2⟩
              obtain ⟨e3, he', hbe', hk3⟩ := this
              have h3 := hall e3 (by simpa using he') hbe'
              rw [hk3] at h3
              rw [hkl] at h3; cases h3) hb' (sinv.o k hk hkl)
        · intro k hk hkl
          by_cases e : k = i
          · subst e; rw [upd_same]; exact hv
          · rw [upd_ne e]; rw [hl' k e] at hkl; exact hR _ i _ _ _ e hb' (sinv.r k hk hkl)
        · intro k hk hkl hfk
          by_cases e : k = i
          · subst e; rw [upd_same]; obtain ⟨g, g1, g2, g3⟩ := hf hfk; exact ⟨g, g1, g3⟩
          · rw [upd_ne e]; rw [hl' k e] at hkl; obtain ⟨g, g1, g2⟩ := sinv.f k hk hkl hfk; exact ⟨g, g1, Nat.lt_of_lt_of_le g2 (hGs i _ _ hb')⟩
        · intro j k hj hk hjk hjl hkl hfj hfk
          by_cases e : j = i
          · subst e
            have e2 : k ≠ j := fun h => hjk h.symm
            rw [upd_same, upd_ne e2]; rw [hl' k e2] at hkl
            obtain ⟨g, g1, g2, g3⟩ := hf hfj
            obtain ⟨g', g1', g2'⟩ := sinv.f k hk hkl hfk
            rw [g1, g1']; intro h; injection h with h; injection h with h; injection h with h; omega
          · by_cases e2 : k = i
            · subst e2
              rw [upd_same, upd_ne e]; rw [hl' j e] at hjl
              obtain ⟨g, g1, g2, g3⟩ := hf hfk
              obtain ⟨g', g1', g2'⟩ := sinv.f j hj hjl hfj
              rw [g1, g1']; intro h; injection h with h; injection h with h; injection h with h; omega
            · rw [upd_ne e, upd_ne e2]; rw [hl' j e] at hjl; rw [hl' k e2] at hkl
              exact sinv.d j k hj hk hjk hjl hkl hfj hfk
/-- A region that draws: n operations, each by its specification, then a tail in a forced order. -/
theorem wp_region_specsH {id : Nat} {Q : Exit → Act → World → Prop} {a : Act} {w : World} {l : List Oper} (G : Nat → World → World → Prop) (J : World → Prop) (I : Nat → World → Prop) (hGs : ∀ i a b, G i a b → a.heap.size ≤ b.heap.size) (hJ : ∀ i a b, G i a b → J a → J b) (hI : ∀ k j a b, k ≠ j → k ∉ depsOf l.toArray j → G j a b → I k a → I k b) (hJ0 : J w.drew) (hI0 : ∀ i, I i w.drew) (n : Nat) (R : Nat → Value → World → Prop) (fresh : Nat → Bool)
    (hm : P.follows .mixedOrders = true) (hB : specB l.toArray n = true) (hR : ∀ k j v a b, k ≠ j → G j a b → R k v a → R k v b)
    (hop : ∀ i oi, i < n → l.toArray[i]? = some oi → ∀ (u : Nat → Value) (w1 : World), J w1 → I i w1 → (∀ k ∈ depsOf l.toArray i, k < n → R k (u k) w1) → wpList P l.toArray (EndOpG G Q R fresh l.toArray i (putAll l.toArray a u n) w1) [oi] (putAll l.toArray a u n) w1)
    (htail : ∀ (u : Nat → Value) (w1 : World), J w1 → (∀ k, k < n → R k (u k) w1) → (∀ i j, i < n → j < n → i ≠ j → fresh i = true → fresh j = true → u i ≠ u j) → wpList P l.toArray Q (l.drop n) (putAll l.toArray a u n) w1) :
    (Code.region id l.toArray true).wp P Q a w := by
  have hn : n < l.toArray.size := by simp only [specB, Bool.and_eq_true, decide_eq_true_eq] at hB; exact hB.1.1.1.1.1
  have hn' : n < l.length := by simpa using hn
  refine wp_region_any hm ?_
  have inv0 : HeadInv .any l.toArray n (Array.replicate l.toArray.size false) :=
    ⟨by simp, fun j oj _ hl => (by rw [getD_replicate_false] at hl; cases hl), fun t _ ht => getD_in (by simpa using ht) (getD_replicate_false _ _)⟩
  have hcnt : ((List.range n).filter fun i => !(Array.replicate l.toArray.size false).getD i false).length = n := by
    rw [List.filter_eq_self.2 (fun i _ => by rw [getD_replicate_false]; rfl), List.length_range]
  have := any_of_specsH G J I hGs hJ hI (P := P) (Q := Q) (R := R) (fresh := fresh) (n := n) (a := a) (w := w) (tail := l.drop n) hB hR hop (fun j => by simp [List.getElem?_drop]) (by simp) htail n
    (Array.replicate l.toArray.size false) (slotOf l.toArray a) w.drew inv0 hcnt ⟨fun k _ _ => hI0 k, fun k _ hl => (by rw [getD_replicate_false] at hl; cases hl), fun k _ hl => (by rw [getD_replicate_false] at hl; cases hl), fun j k _ _ _ hl => (by rw [getD_replicate_false] at hl; cases hl)⟩ hJ0
  rw [putAll_slot, show n + (l.toArray.size - n) = l.toArray.size by omega] at this
  exact this

/-- The same, the operations as a conjunction, the frame behind a name. -/
theorem wp_region_specH {id : Nat} {Q : Exit → Act → World → Prop} {a : Act} {w : World} {l : List Oper} (G : Nat → World → World → Prop) (J : World → Prop) (I : Nat → World → Prop) (hGs : ∀ i a b, G i a b → a.heap.size ≤ b.heap.size) (hJ : ∀ i a b, G i a b → J a → J b) (hI : ∀ k j a b, k ≠ j → k ∉ depsOf l.toArray j → G j a b → I k a → I k b) (hJ0 : J w.drew) (hI0 : ∀ i, I i w.drew) (n : Nat) (R : Nat → Value → World → Prop) (fresh : Nat → Bool)
    (hm : P.follows .mixedOrders = true) (hB : specB l.toArray n = true) (hR : ∀ k j v a b, k ≠ j → G j a b → R k v a → R k v b)
    (hop : allOps (fun i oi => ∀ (u : Nat → Value) (A : Act) (w1 : World), A = putAll l.toArray a u n → J w1 → I i w1 → (∀ k, k < n → (depsOf l.toArray i).contains k = true → R k (u k) w1) → wpList P l.toArray (EndOpG G Q R fresh l.toArray i A w1) [oi] A w1) 0 (l.take n))
    (htail : ∀ (u : Nat → Value) (A : Act) (w1 : World), A = putAll l.toArray a u n → J w1 → (∀ k, k < n → R k (u k) w1) → (∀ i j, i < n → j < n → i ≠ j → fresh i = true → fresh j = true → u i ≠ u j) → wpList P l.toArray Q (l.drop n) A w1) :
    (Code.region id l.toArray true).wp P Q a w :=
  wp_region_specsH G J I hGs hJ hI hJ0 hI0 n R fresh hm hB hR (fun i oi hi ho u w1 hb hi0 hd => by
    have := allOps_get _ _ hop i oi (by simpa [List.getElem?_take, hi] using ho) u (putAll l.toArray a u n) w1 rfl hb (by rw [Nat.zero_add]; exact hi0) (fun k hk hc => hd k (by simpa using hc) hk)
    rw [Nat.zero_add] at this
    exact this) (fun u w1 => htail u _ w1 rfl)
end
end Go.Proofs.YtbgkbdhdkpjcdaaGreat
