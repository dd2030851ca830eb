/- Texts joined: KAJ. -/
import Derived.Test.YtlabfpjlckdmfaaGreatKZA
import Derived.Test.YtlabfpjlckdmfaaGreatKAI
set_option linter.all false
namespace Go.Proofs.YtlabfpjlckdmfaaGreat
open Go Go.RowKit Go.Proofs
section
variable {P : Program} {ops : Array Oper}
def EndOpR (Q : Exit → Act → World → Prop) (R : Nat → Value → World → Prop) (rel : Nat → Nat → Value → Value → World → Prop) (fresh : Nat → Bool) (n : Nat) (u : Nat → Value) (ops : Array Oper) (i : Nat) (A : Act) (w : World) : Exit → Act → World → Prop
 | .normal, a', w' => ∃ v, a' = A.put (dstOf ops i) v ∧ Below w.heap.size w w' ∧ R i v w' ∧ (∀ k, k < n → (depsOf ops i).contains k = true → rel k i (u k) v w') ∧ (fresh i = true → ∃ g, v = .pointer (some ⟨g, 0, none⟩) ∧ w.heap.size ≤ g ∧ g < w'.heap.size)
 | .outgrown, _, _ => LetsOut Q
 | _, _, _ => False
theorem lets_endR {Q : Exit → Act → World → Prop} {R : Nat → Value → World → Prop} {rel : Nat → Nat → Value → Value → World → Prop} {fresh : Nat → Bool} {n : Nat} {u : Nat → Value} {i : Nat} {A : Act} {w : World} (h : LetsOut (EndOpR Q R rel fresh n u ops i A w)) : LetsOut Q := by
 obtain ⟨a, w', h⟩ := h; exact h
theorem wpOp_of_endR {Q : Exit → Act → World → Prop} {R : Nat → Value → World → Prop} {rel : Nat → Nat → Value → Value → World → Prop} {fresh : Nat → Bool} {n : Nat} {u : Nat → Value} {i : Nat} {oi : Oper} {A : Act} {w : World} {K : Act → World → Prop} (hi : ops[i]? = some oi)
  (h : wpList P ops (EndOpR Q R rel fresh n u ops i A w) [oi] A w)
  (hK : ∀ v w', Below w.heap.size w w' → R i v w' → (∀ k, k < n → (depsOf ops i).contains k = true → rel k i (u k) v w') → (fresh i = true → ∃ g, v = .pointer (some ⟨g, 0, none⟩) ∧ w.heap.size ≤ g ∧ g < w'.heap.size) → K (A.put (dstOf ops i) v) w') : wpOp P ops Q i K A w := by
 have hd : dstOf ops i = oi.dst := by simp [dstOf, hi]
 have hK' : ∀ a' w', EndOpR Q R rel fresh n u ops i A w .normal a' w' → K a' w' := by
  rintro a' w' ⟨v, rfl, h1, h2, h4, h3⟩; exact hK v w' h1 h2 h4 h3
 unfold wpOp
 simp only [hi]
 unfold wpList at h
 split at h
 ·rename_i hw
  simp only [hw, if_true]
  rcases h with h | ⟨h1, h2⟩
  ·left
   unfold Oper.wp at *
   generalize (execOp A.eval oi).run P w = r at *
   cases r with
   | ok n w' =>
    cases n <;> simp only [Oper.upon, wpList] at h ⊢ <;>
     first
      | exact hK' _ _ h
      | exact Calls.mono h (fun e w'' he => by cases e <;> first | exact hK' _ _ he | exact he.elim | exact lets_endR he)
      | exact Rows.mono h (fun _ _ he => hK' _ _ he)
   | halt x w' => cases x <;> simp only [Oper.upon] at h ⊢ <;> exact h.elim
  ·exact Or.inr ⟨h1, lets_endR h2⟩
 ·rename_i hw
  simp only [hw]
  exact hK' _ _ h
structure SpecInvR (ops : Array Oper) (R : Nat → Value → World → Prop) (rel : Nat → Nat → Value → Value → World → Prop) (fresh : Nat → Bool) (n : Nat) (listed : Array Bool) (u : Nat → Value) (w : World) : Prop where
 r : ∀ k, k < n → listed.getD k false = true → R k (u k) w
 f : ∀ k, k < n → listed.getD k false = true → fresh k = true → ∃ g, u k = .pointer (some ⟨g, 0, none⟩) ∧ g < w.heap.size
 d : ∀ j k, j < n → k < n → j ≠ k → listed.getD j false = true → listed.getD k false = true → fresh j = true → fresh k = true → u j ≠ u k
 l : ∀ i k, i < n → k < n → (depsOf ops i).contains k = true → listed.getD i false = true → listed.getD k false = true ∧ rel k i (u k) (u i) w
theorem any_of_specsR {Q : Exit → Act → World → Prop} {R : Nat → Value → World → Prop} {rel : Nat → Nat → Value → Value → World → Prop} {fresh : Nat → Bool} {n : Nat} {a : Act} {w : World} {tail : List Oper}
  (hB : specB ops n = true) (hR : ∀ k v w w', Below w.heap.size w w' → R k v w → R k v w') (hRel : ∀ k i x y w w', Below w.heap.size w w' → rel k i x y w → rel k i x y w')
  (hop : ∀ i oi, i < n → ops[i]? = some oi → ∀ (u : Nat → Value) (w1 : World), Below w.heap.size w w1 → (∀ k ∈ depsOf ops i, k < n → R k (u k) w1) → wpList P ops (EndOpR Q R rel fresh n u ops i (putAll ops a u n) w1) [oi] (putAll ops a u n) w1)
  (htl : ∀ j, tail[j]? = ops[n + j]?) (htn : tail.length = ops.size - n)
  (htail : ∀ (u : Nat → Value) (w1 : World), Below w.heap.size w w1 → (∀ k, k < n → R k (u k) w1) → (∀ i j, i < n → j < n → i ≠ j → fresh i = true → fresh j = true → u i ≠ u j) → (∀ i k, i < n → k < n → (depsOf ops i).contains k = true → rel k i (u k) (u i) w1) → wpList P ops Q tail (putAll ops a u n) w1) :
  ∀ (m : Nat) (listed : Array Bool) (u : Nat → Value) (w1 : World), HeadInv .any ops n listed → ((List.range n).filter fun i => !listed.getD i false).length = m →
   SpecInvR ops R rel fresh n listed u w1 → Below w.heap.size w w1 → wpAny P .any ops Q (m + (ops.size - n)) listed (putAll ops a u n) w1 := by
 simp only [specB, Bool.and_eq_true, decide_eq_true_eq] at hB
 obtain ⟨⟨⟨⟨⟨hn, hdist⟩, hforw⟩, hs⟩, hc⟩, hseq⟩ := hB
 intro m
 induction m with
 | zero =>
  intro listed u w1 inv hm sinv hb
  have all : ∀ i, i < n → listed.getD i false = true := by
   intro i hi
   have h0 := List.eq_nil_of_length_eq_zero hm
   rw [List.filter_eq_nil_iff] at h0
   have := h0 i (List.mem_range.2 hi)
   simpa using this
  have e := headDone_eq inv.size (by omega) all inv.tail
  subst e
  have := wpAny_of_seq (md := .any) (Q' := Q) tail n (headDone ops.size n) (putAll ops a u n) w1 htl (by rw [htn]; exact hseq)
   (htail u w1 hb (fun k hk => sinv.r k hk (all k hk)) (fun i j hi hj hij => sinv.d i j hi hj hij (all i hi) (all j hj)) (fun i k hi hk hc => (sinv.l i k hi hk hc (all i hi)).2))
  rw [htn] at this
  rw [Nat.zero_add]
  exact this
 | succ m ih =>
  intro listed u w1 inv hm sinv hb
  obtain ⟨i0, hi0⟩ : ∃ i0, i0 ∈ (List.range n).filter fun i => !listed.getD i false := by
   cases hl : (List.range n).filter fun i => !listed.getD i false with
   | nil => rw [hl] at hm; simp at hm
   | cons x xs => exact ⟨x, by simp⟩
  obtain ⟨hi0n, hi0l⟩ := List.mem_filter.1 hi0
  have hi0n := List.mem_range.1 hi0n
  have hun : listed.getD i0 true = false := getD_in (by rw [inv.size]; omega) (by simpa using hi0l)
  have key : ∀ i ∈ Region.ready .any ops listed, i < n := fun i hi => Nat.lt_of_not_le fun h => tail_waits hs hc hn inv _ i0 rfl hi0n hun i h hi
  rw [show m + 1 + (ops.size - n) = (m + (ops.size - n)) + 1 by omega]
  refine ⟨fun h0 => ?_, fun i hi => ?_⟩
  ·exfalso
   have low : ∀ i, i < n → listed.getD i false = false → False := by
    intro i
    induction i using Nat.strongRecOn with
    | _ i ih =>
     intro hin hl
     have hoi : ops[i]? = some ops[i] := Array.getElem?_eq_getElem (by omega)
     by_cases hall : ∀ e ∈ (ops[i]'(by omega)).after, Region.binds .any e = true → listed.getD e.on false = true
     ·have : i ∈ Region.ready .any ops listed := mem_ready.2 ⟨getD_in (by rw [inv.size]; omega) hl, ops[i], hoi, hall⟩
      rw [h0] at this; cases this
     ·have hex : ∃ e ∈ (ops[i]'(by omega)).after, Region.binds .any e = true ∧ listed.getD e.on false = false := by
       refine Classical.byContradiction fun hne => hall fun e he hbe => ?_
       cases hx : listed.getD e.on false with
       | true => rfl
       | false => exact absurd ⟨e, he, hbe, hx⟩ hne
      obtain ⟨e, he, hbe, hx⟩ := hex
      have hlt := forwB_lt hforw hin hoi (List.mem_map.2 ⟨e, List.mem_filter.2 ⟨by simpa using he, hbe⟩, rfl⟩)
      exact ih e.on hlt (by omega) hx
   exact low i0 hi0n (by simpa using hi0l)
  ·have hin := key i hi
   obtain ⟨hil, oi, hoi, hall⟩ := mem_ready.1 hi
   refine wpOp_of_endR hoi (hop i oi hin hoi u w1 hb fun k hk hkn => ?_) fun v w' hb' hv hrl hf => ?_
   ·have : ∃ e ∈ oi.after.toList, Region.binds .any e = true ∧ e.on = k := by
     unfold depsOf at hk; rw [hoi] at hk
     simp only [List.mem_map, List.mem_filter] at hk
     obtain ⟨e, ⟨he, hbe⟩, rfl⟩ := hk
     exact ⟨e, he, hbe, rfl⟩
    obtain ⟨e, he, hbe, rfl⟩ := this
    exact sinv.r _ hkn (hall e (by simpa using he) hbe)
   ·rw [← putAll_upd n hin hdist]
    have hl' : ∀ k, k ≠ i → (listed.setIfInBounds i true).getD k false = listed.getD k false := fun k hk => getD_set_ne false (Ne.symm hk)
    refine ih (listed.setIfInBounds i true) (upd u i v) w' (inv.set hi hin) ?_ ⟨?_, ?_, ?_, ?_⟩ (bthen hb hb')
    ·have := cnt_set (n := n) (p := fun k => !listed.getD k false) (q := fun k => !(listed.setIfInBounds i true).getD k false) hin (by simpa using getD_both hil) (by rw [getD_set_self (by rw [inv.size]; omega)]; rfl) (fun k hk => by rw [hl' k hk])
     omega
    ·intro k hk hkl
     by_cases e : k = i
     ·subst e; rw [upd_same]; exact hv
     ·rw [upd_ne e]; rw [hl' k e] at hkl; exact hR _ _ _ _ hb' (sinv.r k hk hkl)
    ·intro k hk hkl hfk
     by_cases e : k = i
     ·subst e; rw [upd_same]; obtain ⟨g, g1, g2, g3⟩ := hf hfk; exact ⟨g, g1, g3⟩
     ·rw [upd_ne e]; rw [hl' k e] at hkl; obtain ⟨g, g1, g2⟩ := sinv.f k hk hkl hfk; exact ⟨g, g1, Nat.lt_of_lt_of_le g2 hb'.size⟩
    ·intro j k hj hk hjk hjl hkl hfj hfk
     by_cases e : j = i
     ·subst e
      have e2 : k ≠ j := fun h => hjk h.symm
      rw [upd_same, upd_ne e2]; rw [hl' k e2] at hkl
      obtain ⟨g, g1, g2, g3⟩ := hf hfj
      obtain ⟨g', g1', g2'⟩ := sinv.f k hk hkl hfk
      rw [g1, g1']; intro h; injection h with h; injection h with h; injection h with h; omega
     ·by_cases e2 : k = i
      ·subst e2
       rw [upd_same, upd_ne e]; rw [hl' j e] at hjl
       obtain ⟨g, g1, g2, g3⟩ := hf hfk
       obtain ⟨g', g1', g2'⟩ := sinv.f j hj hjl hfj
       rw [g1, g1']; intro h; injection h with h; injection h with h; injection h with h; omega
      ·rw [upd_ne e, upd_ne e2]; rw [hl' j e] at hjl; rw [hl' k e2] at hkl
       exact sinv.d j k hj hk hjk hjl hkl hfj hfk
    ·intro j k hj hk hc hjl
     by_cases e : j = i
     ·subst e
      have e2 : k ≠ j := by
       have hkm : k ∈ depsOf ops j := by simpa using hc
       unfold depsOf at hkm; rw [hoi] at hkm
       have := forwB_lt hforw hj hoi hkm
       omega
      have hkl : listed.getD k false = true := by
       have hkm : k ∈ depsOf ops j := by simpa using hc
       unfold depsOf at hkm; rw [hoi] at hkm
       simp only [List.mem_map, List.mem_filter] at hkm
       obtain ⟨e, ⟨he, hbe⟩, rfl⟩ := hkm
       exact hall e (by simpa using he) hbe
      rw [upd_same, upd_ne e2, hl' k e2]
      exact ⟨hkl, hrl k hk hc⟩
     ·rw [hl' j e] at hjl
      obtain ⟨q1, q2⟩ := sinv.l j k hj hk hc hjl
      have e2 : k ≠ i := fun h => by
       subst h
       have := getD_both hil
       simp [q1] at this
      rw [upd_ne e, upd_ne e2, hl' k e2]
      exact ⟨q1, hRel _ _ _ _ _ _ hb' q2⟩
theorem wp_region_specsR {id : Nat} {Q : Exit → Act → World → Prop} {a : Act} {w : World} {l : List Oper} (n : Nat) (R : Nat → Value → World → Prop) (rel : Nat → Nat → Value → Value → World → Prop) (fresh : Nat → Bool)
  (hm : P.follows .mixedOrders = true) (hB : specB l.toArray n = true) (hR : ∀ k v w w', Below w.heap.size w w' → R k v w → R k v w') (hRel : ∀ k i x y w w', Below w.heap.size w w' → rel k i x y w → rel k i x y w')
  (hop : ∀ i oi, i < n → l.toArray[i]? = some oi → ∀ (u : Nat → Value) (w1 : World), Below w.heap.size w w1 → (∀ k ∈ depsOf l.toArray i, k < n → R k (u k) w1) → wpList P l.toArray (EndOpR Q R rel fresh n u l.toArray i (putAll l.toArray a u n) w1) [oi] (putAll l.toArray a u n) w1)
  (htail : ∀ (u : Nat → Value) (w1 : World), Below w.heap.size w w1 → (∀ k, k < n → R k (u k) w1) → (∀ i j, i < n → j < n → i ≠ j → fresh i = true → fresh j = true → u i ≠ u j) → (∀ i k, i < n → k < n → (depsOf l.toArray i).contains k = true → rel k i (u k) (u i) w1) → wpList P l.toArray Q (l.drop n) (putAll l.toArray a u n) w1) :
  (Code.region id l.toArray true).wp P Q a w := by
 have hn : n < l.toArray.size := by simp only [specB, Bool.and_eq_true, decide_eq_true_eq] at hB; exact hB.1.1.1.1.1
 have hn' : n < l.length := by simpa using hn
 refine wp_region_any hm ?_
 have inv0 : HeadInv .any l.toArray n (Array.replicate l.toArray.size false) :=
  ⟨by simp, fun j oj _ hl => (by rw [getD_replicate_false] at hl; cases hl), fun t _ ht => getD_in (by simpa using ht) (getD_replicate_false _ _)⟩
 have hcnt : ((List.range n).filter fun i => !(Array.replicate l.toArray.size false).getD i false).length = n := by
  rw [List.filter_eq_self.2 (fun i _ => by rw [getD_replicate_false]; rfl), List.length_range]
 have := any_of_specsR (P := P) (Q := Q) (R := R) (rel := rel) (fresh := fresh) (n := n) (a := a) (w := w) (tail := l.drop n) hB hR hRel hop (fun j => by simp [List.getElem?_drop]) (by simp) htail n
  (Array.replicate l.toArray.size false) (slotOf l.toArray a) w.drew inv0 hcnt ⟨fun k _ hl => (by rw [getD_replicate_false] at hl; cases hl), fun k _ hl => (by rw [getD_replicate_false] at hl; cases hl), fun j k _ _ _ hl => (by rw [getD_replicate_false] at hl; cases hl), fun j k _ _ _ hl => (by rw [getD_replicate_false] at hl; cases hl)⟩ ((Below.refl _ _).drew)
 rw [putAll_slot, show n + (l.toArray.size - n) = l.toArray.size by omega] at this
 exact this
theorem wp_region_specR {id : Nat} {Q : Exit → Act → World → Prop} {a : Act} {w : World} {l : List Oper} (n : Nat) (R : Nat → Value → World → Prop) (rel : Nat → Nat → Value → Value → World → Prop) (fresh : Nat → Bool)
  (hm : P.follows .mixedOrders = true) (hB : specB l.toArray n = true) (hR : ∀ k v w w', Below w.heap.size w w' → R k v w → R k v w') (hRel : ∀ k i x y w w', Below w.heap.size w w' → rel k i x y w → rel k i x y w')
  (hop : allOps (fun i oi => ∀ (u : Nat → Value) (A : Act) (w1 : World), A = putAll l.toArray a u n → Below w.heap.size w w1 → (∀ k, k < n → (depsOf l.toArray i).contains k = true → R k (u k) w1) → wpList P l.toArray (EndOpR Q R rel fresh n u l.toArray i A w1) [oi] A w1) 0 (l.take n))
  (htail : ∀ (u : Nat → Value) (A : Act) (w1 : World), A = putAll l.toArray a u n → Below w.heap.size w w1 → (∀ k, k < n → R k (u k) w1) → (∀ i j, i < n → j < n → i ≠ j → fresh i = true → fresh j = true → u i ≠ u j) → (∀ i k, i < n → k < n → (depsOf l.toArray i).contains k = true → rel k i (u k) (u i) w1) → wpList P l.toArray Q (l.drop n) A w1) :
  (Code.region id l.toArray true).wp P Q a w :=
 wp_region_specsR n R rel fresh hm hB hR hRel (fun i oi hi ho u w1 hb hd => by
  have := allOps_get _ _ hop i oi (by simpa [List.getElem?_take, hi] using ho) u (putAll l.toArray a u n) w1 rfl hb (fun k hk hc => hd k (by simpa using hc) hk)
  rw [Nat.zero_add] at this
  exact this) (fun u w1 => htail u _ w1 rfl)
end
end Go.Proofs.YtlabfpjlckdmfaaGreat

namespace Go.Proofs.YtlabfpjlckdmfaaGreat
open Go Go.RowKit Go.Proofs
set_option maxRecDepth 100000
set_option maxHeartbeats 4000000
theorem Tryz.entP : ∀ args w, (callFunc 68 args).run Tryz.prog w = .ok (.enter 68 args) w := enters_of Tryz.func68 (by kernel_rfl) rfl
theorem Tryz.entT : ∀ args w, (callFunc 70 args).run Tryz.prog w = .ok (.enter 70 args) w := enters_of Tryz.func70 (by kernel_rfl) rfl
theorem Tryz.entF : ∀ args w, (callFunc 71 args).run Tryz.prog w = .ok (.enter 71 args) w := enters_of Tryz.func71 (by kernel_rfl) rfl
theorem Tryz.entS : ∀ args w, (callFunc 73 args).run Tryz.prog w = .ok (.enter 73 args) w := enters_of Tryz.func73 (by kernel_rfl) rfl
theorem Tryz.entB : ∀ args w, (callFunc 75 args).run Tryz.prog w = .ok (.enter 75 args) w := enters_of Tryz.func75 (by kernel_rfl) rfl
theorem Tryz.entO : ∀ args w, (callFunc 90 args).run Tryz.prog w = .ok (.enter 90 args) w := enters_of Tryz.func90 (by kernel_rfl) rfl
theorem place_c (gm : Nat) (n pl : Int) (w : World) (h : w.cell? ⟨gm, 0, none⟩ = some (.int .i64 pl)) (h1 : 1 ≤ pl) (h2 : pl ≤ 8) :
  Calls Tryz.prog 68 #[.int .i64 n, .pointer (some ⟨gm, 0, none⟩)] w fun e w' => e = .returned (.bool (inB n 0 (pl - 1))) ∧ w = w' := by
 go_enter Tryz.func68, Tryz.ntmps68
 go_wp2_with (first | (go_at_call 69; (with_reducible refine (wwithin_c _ _ _ _).mono ?_); rintro e w1 ⟨rfl, rfl⟩))
 go_ret
 exact ⟨rfl, rfl⟩
theorem time_c (n : Int) (w : World) :
  Calls Tryz.prog 70 #[.int .i64 n] w fun e w' => e = .returned (.bool (inB n 0 2000)) ∧ w = w' := by
 go_enter Tryz.func70, Tryz.ntmps70
 go_wp2_with (first | (go_at_call 69; (with_reducible refine (wwithin_c _ _ _ _).mono ?_); rintro e w1 ⟨rfl, rfl⟩))
 go_ret
 exact ⟨rfl, rfl⟩
theorem beyond_c (n : Int) (w : World) :
  Calls Tryz.prog 75 #[.int .i64 n] w fun e w' => e = .returned (.bool (!inB n 0 20000)) ∧ w = w' := by
 go_enter Tryz.func75, Tryz.ntmps75
 go_wp2_with (first | (go_at_call 69; (with_reducible refine (wwithin_c _ _ _ _).mono ?_); rintro e w1 ⟨rfl, rfl⟩))
 go_ret
 exact ⟨rfl, rfl⟩
def fcBad (pl d0 d1 d2 d3 : Int) (x : Sk) : Bool := !inB d0 0 (pl - 1) || (!inB d1 0 2000 || (!inB d2 0 2000 || (decide (d2 ≤ d1) || (!inB d3 0 2000 || !x.inr))))
theorem fcast_c (c1 c2 gc : Nat) (pl d0 d1 d2 d3 : Int) (x : Sk) (w : World) (h0 : w.cell? ⟨c1, 0, none⟩ = some (.func (.func 68) #[] #[.pointer (some ⟨gc, 0, none⟩)])) (h1 : w.cell? ⟨c2, 0, none⟩ = some (.func (.func 70) #[] #[]))
  (h2 : w.cell? ⟨gc, 0, none⟩ = some (.int .i64 pl)) (hp1 : 1 ≤ pl) (hp2 : pl ≤ 8) :
  Calls Tryz.prog 71 #[.agg #[.int .i64 d0, .int .i64 d1, .int .i64 d2, .int .i64 d3, .int .i64 x.a0, .int .i64 x.a1, .int .i64 x.a2, .int .i64 x.a3, .int .i64 x.a4, .int .i64 x.a5, .bool x.i, .bool x.s], .pointer (some ⟨c1, 0, none⟩), .pointer (some ⟨c2, 0, none⟩)] w
  fun e w' => e = .returned (.bool (fcBad pl d0 d1 d2 d3 x)) ∧ Below w.heap.size w w' := by
 have HC := hI9 (And.intro (fun w1 (h : Below w.heap.size w w1) => (h.cell (p := ⟨c1, 0, none⟩) (blk_lt h0)).trans h0) (And.intro (fun w1 (h : Below w.heap.size w w1) => (h.cell (p := ⟨c2, 0, none⟩) (blk_lt h1)).trans h1) (fun w1 (h : Below w.heap.size w w1) => (h.cell (p := ⟨gc, 0, none⟩) (blk_lt h2)).trans h2)))
 have eP := Tryz.entP
 have eT := Tryz.entT
 clear h0 h1 h2
 unfold fcBad
 cases b0 : inB d0 0 (pl - 1)
 ·skip
  have k0 := HC.out.1 (w.alloc (.cells #[.int .i64 d0, .int .i64 d1, .int .i64 d2, .int .i64 d3, .int .i64 x.a0, .int .i64 x.a1, .int .i64 x.a2, .int .i64 x.a3, .int .i64 x.a4, .int .i64 x.a5, .bool x.i, .bool x.s] 98)) (bal (Below.refl _ _) _)
  have k1 := HC.out.2.1 (w.alloc (.cells #[.int .i64 d0, .int .i64 d1, .int .i64 d2, .int .i64 d3, .int .i64 x.a0, .int .i64 x.a1, .int .i64 x.a2, .int .i64 x.a3, .int .i64 x.a4, .int .i64 x.a5, .bool x.i, .bool x.s] 98)) (bal (Below.refl _ _) _)
  have k2 := HC.out.2.2 (w.alloc (.cells #[.int .i64 d0, .int .i64 d1, .int .i64 d2, .int .i64 d3, .int .i64 x.a0, .int .i64 x.a1, .int .i64 x.a2, .int .i64 x.a3, .int .i64 x.a4, .int .i64 x.a5, .bool x.i, .bool x.s] 98)) (bal (Below.refl _ _) _)
  go_enter Tryz.func71, Tryz.ntmps71
  go_wp2_with (first | (go_at_fn 68; refine (place_c gc _ pl _ k2 hp1 hp2).mono ?_; rintro e w' ⟨rfl, rfl⟩) | (go_at_fn 70; refine (time_c _ _).mono ?_; rintro e w' ⟨rfl, rfl⟩) | (go_at_call 72; (with_reducible refine (sky_c x _).mono ?_); rintro e w1 ⟨rfl, hb1⟩; have hB1 := bthen (show Below w.heap.size w _ from (by repeat' (first | exact Below.refl _ _ | assumption | refine Below.drew ?_ | refine bdn ?_ _ | refine bal ?_ _ | refine Below.setCell ?_ (by first | (simp; done) | omega | (simp; omega)) _))) hb1; have hz1 := hb1.size; (try simp at hz1); obtain ⟨hc1, hf1⟩ := bcell hb1; first | (have hE1 := bthen2 hE (by repeat' (first | exact Below.refl _ _ | refine Below.drew ?_ | refine bdn ?_ _ | refine bal ?_ _ | refine Below.setCell ?_ (by first | (simp; done) | omega | (simp; omega)) _)) hb1; clear hE; have hE := hE1; clear hE1; obtain ⟨hd1, hg1⟩ := bcell hE) | (have hE := hb1)))
  go_ret
  exact ⟨ret_bool (by simp [b0]), (by repeat' (first | exact Below.refl _ _ | assumption | refine Below.drew ?_ | refine bdn ?_ _ | refine bal ?_ _ | refine Below.setCell ?_ (by first | (simp; done) | omega | (simp; omega)) _))⟩
 ·skip
  cases b1 : inB d1 0 2000
  ·skip
   have k0 := HC.out.1 (w.alloc (.cells #[.int .i64 d0, .int .i64 d1, .int .i64 d2, .int .i64 d3, .int .i64 x.a0, .int .i64 x.a1, .int .i64 x.a2, .int .i64 x.a3, .int .i64 x.a4, .int .i64 x.a5, .bool x.i, .bool x.s] 98)) (bal (Below.refl _ _) _)
   have k1 := HC.out.2.1 (w.alloc (.cells #[.int .i64 d0, .int .i64 d1, .int .i64 d2, .int .i64 d3, .int .i64 x.a0, .int .i64 x.a1, .int .i64 x.a2, .int .i64 x.a3, .int .i64 x.a4, .int .i64 x.a5, .bool x.i, .bool x.s] 98)) (bal (Below.refl _ _) _)
   have k2 := HC.out.2.2 (w.alloc (.cells #[.int .i64 d0, .int .i64 d1, .int .i64 d2, .int .i64 d3, .int .i64 x.a0, .int .i64 x.a1, .int .i64 x.a2, .int .i64 x.a3, .int .i64 x.a4, .int .i64 x.a5, .bool x.i, .bool x.s] 98)) (bal (Below.refl _ _) _)
   go_enter Tryz.func71, Tryz.ntmps71
   go_wp2_with (first | (go_at_fn 68; refine (place_c gc _ pl _ k2 hp1 hp2).mono ?_; rintro e w' ⟨rfl, rfl⟩) | (go_at_fn 70; refine (time_c _ _).mono ?_; rintro e w' ⟨rfl, rfl⟩) | (go_at_call 72; (with_reducible refine (sky_c x _).mono ?_); rintro e w1 ⟨rfl, hb1⟩; have hB1 := bthen (show Below w.heap.size w _ from (by repeat' (first | exact Below.refl _ _ | assumption | refine Below.drew ?_ | refine bdn ?_ _ | refine bal ?_ _ | refine Below.setCell ?_ (by first | (simp; done) | omega | (simp; omega)) _))) hb1; have hz1 := hb1.size; (try simp at hz1); obtain ⟨hc1, hf1⟩ := bcell hb1; first | (have hE1 := bthen2 hE (by repeat' (first | exact Below.refl _ _ | refine Below.drew ?_ | refine bdn ?_ _ | refine bal ?_ _ | refine Below.setCell ?_ (by first | (simp; done) | omega | (simp; omega)) _)) hb1; clear hE; have hE := hE1; clear hE1; obtain ⟨hd1, hg1⟩ := bcell hE) | (have hE := hb1)))
   go_ret
   exact ⟨ret_bool (by simp [b0, b1]), (by repeat' (first | exact Below.refl _ _ | assumption | refine Below.drew ?_ | refine bdn ?_ _ | refine bal ?_ _ | refine Below.setCell ?_ (by first | (simp; done) | omega | (simp; omega)) _))⟩
  ·skip
   cases b2 : inB d2 0 2000
   ·skip
    have k0 := HC.out.1 (w.alloc (.cells #[.int .i64 d0, .int .i64 d1, .int .i64 d2, .int .i64 d3, .int .i64 x.a0, .int .i64 x.a1, .int .i64 x.a2, .int .i64 x.a3, .int .i64 x.a4, .int .i64 x.a5, .bool x.i, .bool x.s] 98)) (bal (Below.refl _ _) _)
    have k1 := HC.out.2.1 (w.alloc (.cells #[.int .i64 d0, .int .i64 d1, .int .i64 d2, .int .i64 d3, .int .i64 x.a0, .int .i64 x.a1, .int .i64 x.a2, .int .i64 x.a3, .int .i64 x.a4, .int .i64 x.a5, .bool x.i, .bool x.s] 98)) (bal (Below.refl _ _) _)
    have k2 := HC.out.2.2 (w.alloc (.cells #[.int .i64 d0, .int .i64 d1, .int .i64 d2, .int .i64 d3, .int .i64 x.a0, .int .i64 x.a1, .int .i64 x.a2, .int .i64 x.a3, .int .i64 x.a4, .int .i64 x.a5, .bool x.i, .bool x.s] 98)) (bal (Below.refl _ _) _)
    go_enter Tryz.func71, Tryz.ntmps71
    go_wp2_with (first | (go_at_fn 68; refine (place_c gc _ pl _ k2 hp1 hp2).mono ?_; rintro e w' ⟨rfl, rfl⟩) | (go_at_fn 70; refine (time_c _ _).mono ?_; rintro e w' ⟨rfl, rfl⟩) | (go_at_call 72; (with_reducible refine (sky_c x _).mono ?_); rintro e w1 ⟨rfl, hb1⟩; have hB1 := bthen (show Below w.heap.size w _ from (by repeat' (first | exact Below.refl _ _ | assumption | refine Below.drew ?_ | refine bdn ?_ _ | refine bal ?_ _ | refine Below.setCell ?_ (by first | (simp; done) | omega | (simp; omega)) _))) hb1; have hz1 := hb1.size; (try simp at hz1); obtain ⟨hc1, hf1⟩ := bcell hb1; first | (have hE1 := bthen2 hE (by repeat' (first | exact Below.refl _ _ | refine Below.drew ?_ | refine bdn ?_ _ | refine bal ?_ _ | refine Below.setCell ?_ (by first | (simp; done) | omega | (simp; omega)) _)) hb1; clear hE; have hE := hE1; clear hE1; obtain ⟨hd1, hg1⟩ := bcell hE) | (have hE := hb1)))
    go_ret
    exact ⟨ret_bool (by simp [b0, b1, b2]), (by repeat' (first | exact Below.refl _ _ | assumption | refine Below.drew ?_ | refine bdn ?_ _ | refine bal ?_ _ | refine Below.setCell ?_ (by first | (simp; done) | omega | (simp; omega)) _))⟩
   ·skip
    by_cases b3 : d2 ≤ d1
    ·have b3d : decide (d2 ≤ d1) = true := decide_eq_true b3
     have k0 := HC.out.1 (w.alloc (.cells #[.int .i64 d0, .int .i64 d1, .int .i64 d2, .int .i64 d3, .int .i64 x.a0, .int .i64 x.a1, .int .i64 x.a2, .int .i64 x.a3, .int .i64 x.a4, .int .i64 x.a5, .bool x.i, .bool x.s] 98)) (bal (Below.refl _ _) _)
     have k1 := HC.out.2.1 (w.alloc (.cells #[.int .i64 d0, .int .i64 d1, .int .i64 d2, .int .i64 d3, .int .i64 x.a0, .int .i64 x.a1, .int .i64 x.a2, .int .i64 x.a3, .int .i64 x.a4, .int .i64 x.a5, .bool x.i, .bool x.s] 98)) (bal (Below.refl _ _) _)
     have k2 := HC.out.2.2 (w.alloc (.cells #[.int .i64 d0, .int .i64 d1, .int .i64 d2, .int .i64 d3, .int .i64 x.a0, .int .i64 x.a1, .int .i64 x.a2, .int .i64 x.a3, .int .i64 x.a4, .int .i64 x.a5, .bool x.i, .bool x.s] 98)) (bal (Below.refl _ _) _)
     go_enter Tryz.func71, Tryz.ntmps71
     go_wp2_with (first | (go_at_fn 68; refine (place_c gc _ pl _ k2 hp1 hp2).mono ?_; rintro e w' ⟨rfl, rfl⟩) | (go_at_fn 70; refine (time_c _ _).mono ?_; rintro e w' ⟨rfl, rfl⟩) | (go_at_call 72; (with_reducible refine (sky_c x _).mono ?_); rintro e w1 ⟨rfl, hb1⟩; have hB1 := bthen (show Below w.heap.size w _ from (by repeat' (first | exact Below.refl _ _ | assumption | refine Below.drew ?_ | refine bdn ?_ _ | refine bal ?_ _ | refine Below.setCell ?_ (by first | (simp; done) | omega | (simp; omega)) _))) hb1; have hz1 := hb1.size; (try simp at hz1); obtain ⟨hc1, hf1⟩ := bcell hb1; first | (have hE1 := bthen2 hE (by repeat' (first | exact Below.refl _ _ | refine Below.drew ?_ | refine bdn ?_ _ | refine bal ?_ _ | refine Below.setCell ?_ (by first | (simp; done) | omega | (simp; omega)) _)) hb1; clear hE; have hE := hE1; clear hE1; obtain ⟨hd1, hg1⟩ := bcell hE) | (have hE := hb1)))
     go_ret
     exact ⟨ret_bool (by simp [b0, b1, b2, b3d]), (by repeat' (first | exact Below.refl _ _ | assumption | refine Below.drew ?_ | refine bdn ?_ _ | refine bal ?_ _ | refine Below.setCell ?_ (by first | (simp; done) | omega | (simp; omega)) _))⟩
    ·have b3d : decide (d2 ≤ d1) = false := decide_eq_false b3
     have b3n : d1 < d2 := by omega
     cases b4 : inB d3 0 2000
     ·skip
      have k0 := HC.out.1 (w.alloc (.cells #[.int .i64 d0, .int .i64 d1, .int .i64 d2, .int .i64 d3, .int .i64 x.a0, .int .i64 x.a1, .int .i64 x.a2, .int .i64 x.a3, .int .i64 x.a4, .int .i64 x.a5, .bool x.i, .bool x.s] 98)) (bal (Below.refl _ _) _)
      have k1 := HC.out.2.1 (w.alloc (.cells #[.int .i64 d0, .int .i64 d1, .int .i64 d2, .int .i64 d3, .int .i64 x.a0, .int .i64 x.a1, .int .i64 x.a2, .int .i64 x.a3, .int .i64 x.a4, .int .i64 x.a5, .bool x.i, .bool x.s] 98)) (bal (Below.refl _ _) _)
      have k2 := HC.out.2.2 (w.alloc (.cells #[.int .i64 d0, .int .i64 d1, .int .i64 d2, .int .i64 d3, .int .i64 x.a0, .int .i64 x.a1, .int .i64 x.a2, .int .i64 x.a3, .int .i64 x.a4, .int .i64 x.a5, .bool x.i, .bool x.s] 98)) (bal (Below.refl _ _) _)
      go_enter Tryz.func71, Tryz.ntmps71
      go_wp2_with (first | (go_at_fn 68; refine (place_c gc _ pl _ k2 hp1 hp2).mono ?_; rintro e w' ⟨rfl, rfl⟩) | (go_at_fn 70; refine (time_c _ _).mono ?_; rintro e w' ⟨rfl, rfl⟩) | (go_at_call 72; (with_reducible refine (sky_c x _).mono ?_); rintro e w1 ⟨rfl, hb1⟩; have hB1 := bthen (show Below w.heap.size w _ from (by repeat' (first | exact Below.refl _ _ | assumption | refine Below.drew ?_ | refine bdn ?_ _ | refine bal ?_ _ | refine Below.setCell ?_ (by first | (simp; done) | omega | (simp; omega)) _))) hb1; have hz1 := hb1.size; (try simp at hz1); obtain ⟨hc1, hf1⟩ := bcell hb1; first | (have hE1 := bthen2 hE (by repeat' (first | exact Below.refl _ _ | refine Below.drew ?_ | refine bdn ?_ _ | refine bal ?_ _ | refine Below.setCell ?_ (by first | (simp; done) | omega | (simp; omega)) _)) hb1; clear hE; have hE := hE1; clear hE1; obtain ⟨hd1, hg1⟩ := bcell hE) | (have hE := hb1)))
      go_ret
      exact ⟨ret_bool (by simp [b0, b1, b2, b3d, b4]), (by repeat' (first | exact Below.refl _ _ | assumption | refine Below.drew ?_ | refine bdn ?_ _ | refine bal ?_ _ | refine Below.setCell ?_ (by first | (simp; done) | omega | (simp; omega)) _))⟩
     ·skip
      cases b5 : x.inr
      ·skip
       have k0 := HC.out.1 (w.alloc (.cells #[.int .i64 d0, .int .i64 d1, .int .i64 d2, .int .i64 d3, .int .i64 x.a0, .int .i64 x.a1, .int .i64 x.a2, .int .i64 x.a3, .int .i64 x.a4, .int .i64 x.a5, .bool x.i, .bool x.s] 98)) (bal (Below.refl _ _) _)
       have k1 := HC.out.2.1 (w.alloc (.cells #[.int .i64 d0, .int .i64 d1, .int .i64 d2, .int .i64 d3, .int .i64 x.a0, .int .i64 x.a1, .int .i64 x.a2, .int .i64 x.a3, .int .i64 x.a4, .int .i64 x.a5, .bool x.i, .bool x.s] 98)) (bal (Below.refl _ _) _)
       have k2 := HC.out.2.2 (w.alloc (.cells #[.int .i64 d0, .int .i64 d1, .int .i64 d2, .int .i64 d3, .int .i64 x.a0, .int .i64 x.a1, .int .i64 x.a2, .int .i64 x.a3, .int .i64 x.a4, .int .i64 x.a5, .bool x.i, .bool x.s] 98)) (bal (Below.refl _ _) _)
       go_enter Tryz.func71, Tryz.ntmps71
       go_wp2_with (first | (go_at_fn 68; refine (place_c gc _ pl _ k2 hp1 hp2).mono ?_; rintro e w' ⟨rfl, rfl⟩) | (go_at_fn 70; refine (time_c _ _).mono ?_; rintro e w' ⟨rfl, rfl⟩) | (go_at_call 72; (with_reducible refine (sky_c x _).mono ?_); rintro e w1 ⟨rfl, hb1⟩; have hB1 := bthen (show Below w.heap.size w _ from (by repeat' (first | exact Below.refl _ _ | assumption | refine Below.drew ?_ | refine bdn ?_ _ | refine bal ?_ _ | refine Below.setCell ?_ (by first | (simp; done) | omega | (simp; omega)) _))) hb1; have hz1 := hb1.size; (try simp at hz1); obtain ⟨hc1, hf1⟩ := bcell hb1; first | (have hE1 := bthen2 hE (by repeat' (first | exact Below.refl _ _ | refine Below.drew ?_ | refine bdn ?_ _ | refine bal ?_ _ | refine Below.setCell ?_ (by first | (simp; done) | omega | (simp; omega)) _)) hb1; clear hE; have hE := hE1; clear hE1; obtain ⟨hd1, hg1⟩ := bcell hE) | (have hE := hb1)))
       go_ret
       exact ⟨ret_bool (by simp [b0, b1, b2, b3d, b4, b5]), (by repeat' (first | exact Below.refl _ _ | assumption | refine Below.drew ?_ | refine bdn ?_ _ | refine bal ?_ _ | refine Below.setCell ?_ (by first | (simp; done) | omega | (simp; omega)) _))⟩
      ·skip
       have k0 := HC.out.1 (w.alloc (.cells #[.int .i64 d0, .int .i64 d1, .int .i64 d2, .int .i64 d3, .int .i64 x.a0, .int .i64 x.a1, .int .i64 x.a2, .int .i64 x.a3, .int .i64 x.a4, .int .i64 x.a5, .bool x.i, .bool x.s] 98)) (bal (Below.refl _ _) _)
       have k1 := HC.out.2.1 (w.alloc (.cells #[.int .i64 d0, .int .i64 d1, .int .i64 d2, .int .i64 d3, .int .i64 x.a0, .int .i64 x.a1, .int .i64 x.a2, .int .i64 x.a3, .int .i64 x.a4, .int .i64 x.a5, .bool x.i, .bool x.s] 98)) (bal (Below.refl _ _) _)
       have k2 := HC.out.2.2 (w.alloc (.cells #[.int .i64 d0, .int .i64 d1, .int .i64 d2, .int .i64 d3, .int .i64 x.a0, .int .i64 x.a1, .int .i64 x.a2, .int .i64 x.a3, .int .i64 x.a4, .int .i64 x.a5, .bool x.i, .bool x.s] 98)) (bal (Below.refl _ _) _)
       go_enter Tryz.func71, Tryz.ntmps71
       go_wp2_with (first | (go_at_fn 68; refine (place_c gc _ pl _ k2 hp1 hp2).mono ?_; rintro e w' ⟨rfl, rfl⟩) | (go_at_fn 70; refine (time_c _ _).mono ?_; rintro e w' ⟨rfl, rfl⟩) | (go_at_call 72; (with_reducible refine (sky_c x _).mono ?_); rintro e w1 ⟨rfl, hb1⟩; have hB1 := bthen (show Below w.heap.size w _ from (by repeat' (first | exact Below.refl _ _ | assumption | refine Below.drew ?_ | refine bdn ?_ _ | refine bal ?_ _ | refine Below.setCell ?_ (by first | (simp; done) | omega | (simp; omega)) _))) hb1; have hz1 := hb1.size; (try simp at hz1); obtain ⟨hc1, hf1⟩ := bcell hb1; first | (have hE1 := bthen2 hE (by repeat' (first | exact Below.refl _ _ | refine Below.drew ?_ | refine bdn ?_ _ | refine bal ?_ _ | refine Below.setCell ?_ (by first | (simp; done) | omega | (simp; omega)) _)) hb1; clear hE; have hE := hE1; clear hE1; obtain ⟨hd1, hg1⟩ := bcell hE) | (have hE := hb1)))
       go_ret
       exact ⟨ret_bool (by simp [b0, b1, b2, b3d, b4, b5]), (by repeat' (first | exact Below.refl _ _ | assumption | refine Below.drew ?_ | refine bdn ?_ _ | refine bal ?_ _ | refine Below.setCell ?_ (by first | (simp; done) | omega | (simp; omega)) _))⟩
end Go.Proofs.YtlabfpjlckdmfaaGreat
