/- Texts joined: JAI. -/
import Derived.Test.YtlabfpjlckdmfaaGreatBas
import Derived.Test.YtlabfpjlckdmfaaGreatJAH
import Derived.Test.YtlabfpjlckdmfaaGreatProg
import Derived.Shelf.Sort.Plain
import Derived.Shelf.Slices.In.SortNone
import Derived.Test.YtlabfpjlckdmfaaGreatJAG
set_option linter.all false
namespace Go.Proofs.YtlabfpjlckdmfaaGreat
open Go Go.RowKit Go.Proofs
section
variable {P : Program} {ops : Array Oper}
def EndOpR (Q : Exit → Act → World → Prop) (R : Nat → Value → World → Prop) (rel : Nat → Nat → Value → Value → World → Prop) (fresh : Nat → Bool) (n : Nat) (u : Nat → Value) (ops : Array Oper) (i : Nat) (A : Act) (w : World) : Exit → Act → World → Prop
 | .normal, a', w' => ∃ v, a' = A.put (dstOf ops i) v ∧ Below w.heap.size w w' ∧ R i v w' ∧ (∀ k, k < n → (depsOf ops i).contains k = true → rel k i (u k) v w') ∧ (fresh i = true → ∃ g, v = .pointer (some ⟨g, 0, none⟩) ∧ w.heap.size ≤ g ∧ g < w'.heap.size)
 | .outgrown, _, _ => LetsOut Q
 | _, _, _ => False
theorem lets_endR {Q : Exit → Act → World → Prop} {R : Nat → Value → World → Prop} {rel : Nat → Nat → Value → Value → World → Prop} {fresh : Nat → Bool} {n : Nat} {u : Nat → Value} {i : Nat} {A : Act} {w : World} (h : LetsOut (EndOpR Q R rel fresh n u ops i A w)) : LetsOut Q := by
 obtain ⟨a, w', h⟩ := h; exact h
theorem wpOp_of_endR {Q : Exit → Act → World → Prop} {R : Nat → Value → World → Prop} {rel : Nat → Nat → Value → Value → World → Prop} {fresh : Nat → Bool} {n : Nat} {u : Nat → Value} {i : Nat} {oi : Oper} {A : Act} {w : World} {K : Act → World → Prop} (hi : ops[i]? = some oi)
  (h : wpList P ops (EndOpR Q R rel fresh n u ops i A w) [oi] A w)
  (hK : ∀ v w', Below w.heap.size w w' → R i v w' → (∀ k, k < n → (depsOf ops i).contains k = true → rel k i (u k) v w') → (fresh i = true → ∃ g, v = .pointer (some ⟨g, 0, none⟩) ∧ w.heap.size ≤ g ∧ g < w'.heap.size) → K (A.put (dstOf ops i) v) w') : wpOp P ops Q i K A w := by
 have hd : dstOf ops i = oi.dst := by simp [dstOf, hi]
 have hK' : ∀ a' w', EndOpR Q R rel fresh n u ops i A w .normal a' w' → K a' w' := by
  rintro a' w' ⟨v, rfl, h1, h2, h4, h3⟩; exact hK v w' h1 h2 h4 h3
 unfold wpOp
 simp only [hi]
 unfold wpList at h
 split at h
 ·rename_i hw
  simp only [hw, if_true]
  rcases h with h | ⟨h1, h2⟩
  ·left
   unfold Oper.wp at *
   generalize (execOp A.eval oi).run P w = r at *
   cases r with
   | ok n w' =>
    cases n <;> simp only [Oper.upon, wpList] at h ⊢ <;>
     first
      | exact hK' _ _ h
      | exact Calls.mono h (fun e w'' he => by cases e <;> first | exact hK' _ _ he | exact he.elim | exact lets_endR he)
      | exact Rows.mono h (fun _ _ he => hK' _ _ he)
   | halt x w' => cases x <;> simp only [Oper.upon] at h ⊢ <;> exact h.elim
  ·exact Or.inr ⟨h1, lets_endR h2⟩
 ·rename_i hw
  simp only [hw]
  exact hK' _ _ h
structure SpecInvR (ops : Array Oper) (R : Nat → Value → World → Prop) (rel : Nat → Nat → Value → Value → World → Prop) (fresh : Nat → Bool) (n : Nat) (listed : Array Bool) (u : Nat → Value) (w : World) : Prop where
 r : ∀ k, k < n → listed.getD k false = true → R k (u k) w
 f : ∀ k, k < n → listed.getD k false = true → fresh k = true → ∃ g, u k = .pointer (some ⟨g, 0, none⟩) ∧ g < w.heap.size
 d : ∀ j k, j < n → k < n → j ≠ k → listed.getD j false = true → listed.getD k false = true → fresh j = true → fresh k = true → u j ≠ u k
 l : ∀ i k, i < n → k < n → (depsOf ops i).contains k = true → listed.getD i false = true → listed.getD k false = true ∧ rel k i (u k) (u i) w
theorem any_of_specsR {Q : Exit → Act → World → Prop} {R : Nat → Value → World → Prop} {rel : Nat → Nat → Value → Value → World → Prop} {fresh : Nat → Bool} {n : Nat} {a : Act} {w : World} {tail : List Oper}
  (hB : specB ops n = true) (hR : ∀ k v w w', Below w.heap.size w w' → R k v w → R k v w') (hRel : ∀ k i x y w w', Below w.heap.size w w' → rel k i x y w → rel k i x y w')
  (hop : ∀ i oi, i < n → ops[i]? = some oi → ∀ (u : Nat → Value) (w1 : World), Below w.heap.size w w1 → (∀ k ∈ depsOf ops i, k < n → R k (u k) w1) → wpList P ops (EndOpR Q R rel fresh n u ops i (putAll ops a u n) w1) [oi] (putAll ops a u n) w1)
  (htl : ∀ j, tail[j]? = ops[n + j]?) (htn : tail.length = ops.size - n)
  (htail : ∀ (u : Nat → Value) (w1 : World), Below w.heap.size w w1 → (∀ k, k < n → R k (u k) w1) → (∀ i j, i < n → j < n → i ≠ j → fresh i = true → fresh j = true → u i ≠ u j) → (∀ i k, i < n → k < n → (depsOf ops i).contains k = true → rel k i (u k) (u i) w1) → wpList P ops Q tail (putAll ops a u n) w1) :
  ∀ (m : Nat) (listed : Array Bool) (u : Nat → Value) (w1 : World), HeadInv .any ops n listed → ((List.range n).filter fun i => !listed.getD i false).length = m →
   SpecInvR ops R rel fresh n listed u w1 → Below w.heap.size w w1 → wpAny P .any ops Q (m + (ops.size - n)) listed (putAll ops a u n) w1 := by
 simp only [specB, Bool.and_eq_true, decide_eq_true_eq] at hB
 obtain ⟨⟨⟨⟨⟨hn, hdist⟩, hforw⟩, hs⟩, hc⟩, hseq⟩ := hB
 intro m
 induction m with
 | zero =>
  intro listed u w1 inv hm sinv hb
  have all : ∀ i, i < n → listed.getD i false = true := by
   intro i hi
   have h0 := List.eq_nil_of_length_eq_zero hm
   rw [List.filter_eq_nil_iff] at h0
   have := h0 i (List.mem_range.2 hi)
   simpa using this
  have e := headDone_eq inv.size (by omega) all inv.tail
  subst e
  have := wpAny_of_seq (md := .any) (Q' := Q) tail n (headDone ops.size n) (putAll ops a u n) w1 htl (by rw [htn]; exact hseq)
   (htail u w1 hb (fun k hk => sinv.r k hk (all k hk)) (fun i j hi hj hij => sinv.d i j hi hj hij (all i hi) (all j hj)) (fun i k hi hk hc => (sinv.l i k hi hk hc (all i hi)).2))
  rw [htn] at this
  rw [Nat.zero_add]
  exact this
 | succ m ih =>
  intro listed u w1 inv hm sinv hb
  obtain ⟨i0, hi0⟩ : ∃ i0, i0 ∈ (List.range n).filter fun i => !listed.getD i false := by
   cases hl : (List.range n).filter fun i => !listed.getD i false with
   | nil => rw [hl] at hm; simp at hm
   | cons x xs => exact ⟨x, by simp⟩
  obtain ⟨hi0n, hi0l⟩ := List.mem_filter.1 hi0
  have hi0n := List.mem_range.1 hi0n
  have hun : listed.getD i0 true = false := getD_in (by rw [inv.size]; omega) (by simpa using hi0l)
  have key : ∀ i ∈ Region.ready .any ops listed, i < n := fun i hi => Nat.lt_of_not_le fun h => tail_waits hs hc hn inv _ i0 rfl hi0n hun i h hi
  rw [show m + 1 + (ops.size - n) = (m + (ops.size - n)) + 1 by omega]
  refine ⟨fun h0 => ?_, fun i hi => ?_⟩
  ·exfalso
   have low : ∀ i, i < n → listed.getD i false = false → False := by
    intro i
    induction i using Nat.strongRecOn with
    | _ i ih =>
     intro hin hl
     have hoi : ops[i]? = some ops[i] := Array.getElem?_eq_getElem (by omega)
     by_cases hall : ∀ e ∈ (ops[i]'(by omega)).after, Region.binds .any e = true → listed.getD e.on false = true
     ·have : i ∈ Region.ready .any ops listed := mem_ready.2 ⟨getD_in (by rw [inv.size]; omega) hl, ops[i], hoi, hall⟩
      rw [h0] at this; cases this
     ·have hex : ∃ e ∈ (ops[i]'(by omega)).after, Region.binds .any e = true ∧ listed.getD e.on false = false := by
       refine Classical.byContradiction fun hne => hall fun e he hbe => ?_
       cases hx : listed.getD e.on false with
       | true => rfl
       | false => exact absurd ⟨e, he, hbe, hx⟩ hne
      obtain ⟨e, he, hbe, hx⟩ := hex
      have hlt := forwB_lt hforw hin hoi (List.mem_map.2 ⟨e, List.mem_filter.2 ⟨by simpa using he, hbe⟩, rfl⟩)
      exact ih e.on hlt (by omega) hx
   exact low i0 hi0n (by simpa using hi0l)
  ·have hin := key i hi
   obtain ⟨hil, oi, hoi, hall⟩ := mem_ready.1 hi
   refine wpOp_of_endR hoi (hop i oi hin hoi u w1 hb fun k hk hkn => ?_) fun v w' hb' hv hrl hf => ?_
   ·have : ∃ e ∈ oi.after.toList, Region.binds .any e = true ∧ e.on = k := by
     unfold depsOf at hk; rw [hoi] at hk
     simp only [List.mem_map, List.mem_filter] at hk
     obtain ⟨e, ⟨he, hbe⟩, rfl⟩ := hk
     exact ⟨e, he, hbe, rfl⟩
    obtain ⟨e, he, hbe, rfl⟩ := this
    exact sinv.r _ hkn (hall e (by simpa using he) hbe)
   ·rw [← putAll_upd n hin hdist]
    have hl' : ∀ k, k ≠ i → (listed.setIfInBounds i true).getD k false = listed.getD k false := fun k hk => getD_set_ne false (Ne.symm hk)
    refine ih (listed.setIfInBounds i true) (upd u i v) w' (inv.set hi hin) ?_ ⟨?_, ?_, ?_, ?_⟩ (bthen hb hb')
    ·have := cnt_set (n := n) (p := fun k => !listed.getD k false) (q := fun k => !(listed.setIfInBounds i true).getD k false) hin (by simpa using getD_both hil) (by rw [getD_set_self (by rw [inv.size]; omega)]; rfl) (fun k hk => by rw [hl' k hk])
     omega
    ·intro k hk hkl
     by_cases e : k = i
     ·subst e; rw [upd_same]; exact hv
     ·rw [upd_ne e]; rw [hl' k e] at hkl; exact hR _ _ _ _ hb' (sinv.r k hk hkl)
    ·intro k hk hkl hfk
     by_cases e : k = i
     ·subst e; rw [upd_same]; obtain ⟨g, g1, g2, g3⟩ := hf hfk; exact ⟨g, g1, g3⟩
     ·rw [upd_ne e]; rw [hl' k e] at hkl; obtain ⟨g, g1, g2⟩ := sinv.f k hk hkl hfk; exact ⟨g, g1, Nat.lt_of_lt_of_le g2 hb'.size⟩
    ·intro j k hj hk hjk hjl hkl hfj hfk
     by_cases e : j = i
     ·subst e
      have e2 : k ≠ j := fun h => hjk h.symm
      rw [upd_same, upd_ne e2]; rw [hl' k e2] at hkl
      obtain ⟨g, g1, g2, g3⟩ := hf hfj
      obtain ⟨g', g1', g2'⟩ := sinv.f k hk hkl hfk
      rw [g1, g1']; intro h; injection h with h; injection h with h; injection h with h; omega
     ·by_cases e2 : k = i
      ·subst e2
       rw [upd_same, upd_ne e]; rw [hl' j e] at hjl
       obtain ⟨g, g1, g2, g3⟩ := hf hfk
       obtain ⟨g', g1', g2'⟩ := sinv.f j hj hjl hfj
       rw [g1, g1']; intro h; injection h with h; injection h with h; injection h with h; omega
      ·rw [upd_ne e, upd_ne e2]; rw [hl' j e] at hjl; rw [hl' k e2] at hkl
       exact sinv.d j k hj hk hjk hjl hkl hfj hfk
    ·intro j k hj hk hc hjl
     by_cases e : j = i
     ·subst e
      have e2 : k ≠ j := by
       have hkm : k ∈ depsOf ops j := by simpa using hc
       unfold depsOf at hkm; rw [hoi] at hkm
       have := forwB_lt hforw hj hoi hkm
       omega
      have hkl : listed.getD k false = true := by
       have hkm : k ∈ depsOf ops j := by simpa using hc
       unfold depsOf at hkm; rw [hoi] at hkm
       simp only [List.mem_map, List.mem_filter] at hkm
       obtain ⟨e, ⟨he, hbe⟩, rfl⟩ := hkm
       exact hall e (by simpa using he) hbe
      rw [upd_same, upd_ne e2, hl' k e2]
      exact ⟨hkl, hrl k hk hc⟩
     ·rw [hl' j e] at hjl
      obtain ⟨q1, q2⟩ := sinv.l j k hj hk hc hjl
      have e2 : k ≠ i := fun h => by
       subst h
       have := getD_both hil
       simp [q1] at this
      rw [upd_ne e, upd_ne e2, hl' k e2]
      exact ⟨q1, hRel _ _ _ _ _ _ hb' q2⟩
theorem wp_region_specsR {id : Nat} {Q : Exit → Act → World → Prop} {a : Act} {w : World} {l : List Oper} (n : Nat) (R : Nat → Value → World → Prop) (rel : Nat → Nat → Value → Value → World → Prop) (fresh : Nat → Bool)
  (hm : P.follows .mixedOrders = true) (hB : specB l.toArray n = true) (hR : ∀ k v w w', Below w.heap.size w w' → R k v w → R k v w') (hRel : ∀ k i x y w w', Below w.heap.size w w' → rel k i x y w → rel k i x y w')
  (hop : ∀ i oi, i < n → l.toArray[i]? = some oi → ∀ (u : Nat → Value) (w1 : World), Below w.heap.size w w1 → (∀ k ∈ depsOf l.toArray i, k < n → R k (u k) w1) → wpList P l.toArray (EndOpR Q R rel fresh n u l.toArray i (putAll l.toArray a u n) w1) [oi] (putAll l.toArray a u n) w1)
  (htail : ∀ (u : Nat → Value) (w1 : World), Below w.heap.size w w1 → (∀ k, k < n → R k (u k) w1) → (∀ i j, i < n → j < n → i ≠ j → fresh i = true → fresh j = true → u i ≠ u j) → (∀ i k, i < n → k < n → (depsOf l.toArray i).contains k = true → rel k i (u k) (u i) w1) → wpList P l.toArray Q (l.drop n) (putAll l.toArray a u n) w1) :
  (Code.region id l.toArray true).wp P Q a w := by
 have hn : n < l.toArray.size := by simp only [specB, Bool.and_eq_true, decide_eq_true_eq] at hB; exact hB.1.1.1.1.1
 have hn' : n < l.length := by simpa using hn
 refine wp_region_any hm ?_
 have inv0 : HeadInv .any l.toArray n (Array.replicate l.toArray.size false) :=
  ⟨by simp, fun j oj _ hl => (by rw [getD_replicate_false] at hl; cases hl), fun t _ ht => getD_in (by simpa using ht) (getD_replicate_false _ _)⟩
 have hcnt : ((List.range n).filter fun i => !(Array.replicate l.toArray.size false).getD i false).length = n := by
  rw [List.filter_eq_self.2 (fun i _ => by rw [getD_replicate_false]; rfl), List.length_range]
 have := any_of_specsR (P := P) (Q := Q) (R := R) (rel := rel) (fresh := fresh) (n := n) (a := a) (w := w) (tail := l.drop n) hB hR hRel hop (fun j => by simp [List.getElem?_drop]) (by simp) htail n
  (Array.replicate l.toArray.size false) (slotOf l.toArray a) w.drew inv0 hcnt ⟨fun k _ hl => (by rw [getD_replicate_false] at hl; cases hl), fun k _ hl => (by rw [getD_replicate_false] at hl; cases hl), fun j k _ _ _ hl => (by rw [getD_replicate_false] at hl; cases hl), fun j k _ _ _ hl => (by rw [getD_replicate_false] at hl; cases hl)⟩ ((Below.refl _ _).drew)
 rw [putAll_slot, show n + (l.toArray.size - n) = l.toArray.size by omega] at this
 exact this
theorem wp_region_specR {id : Nat} {Q : Exit → Act → World → Prop} {a : Act} {w : World} {l : List Oper} (n : Nat) (R : Nat → Value → World → Prop) (rel : Nat → Nat → Value → Value → World → Prop) (fresh : Nat → Bool)
  (hm : P.follows .mixedOrders = true) (hB : specB l.toArray n = true) (hR : ∀ k v w w', Below w.heap.size w w' → R k v w → R k v w') (hRel : ∀ k i x y w w', Below w.heap.size w w' → rel k i x y w → rel k i x y w')
  (hop : allOps (fun i oi => ∀ (u : Nat → Value) (A : Act) (w1 : World), A = putAll l.toArray a u n → Below w.heap.size w w1 → (∀ k, k < n → (depsOf l.toArray i).contains k = true → R k (u k) w1) → wpList P l.toArray (EndOpR Q R rel fresh n u l.toArray i A w1) [oi] A w1) 0 (l.take n))
  (htail : ∀ (u : Nat → Value) (A : Act) (w1 : World), A = putAll l.toArray a u n → Below w.heap.size w w1 → (∀ k, k < n → R k (u k) w1) → (∀ i j, i < n → j < n → i ≠ j → fresh i = true → fresh j = true → u i ≠ u j) → (∀ i k, i < n → k < n → (depsOf l.toArray i).contains k = true → rel k i (u k) (u i) w1) → wpList P l.toArray Q (l.drop n) A w1) :
  (Code.region id l.toArray true).wp P Q a w :=
 wp_region_specsR n R rel fresh hm hB hR hRel (fun i oi hi ho u w1 hb hd => by
  have := allOps_get _ _ hop i oi (by simpa [List.getElem?_take, hi] using ho) u (putAll l.toArray a u n) w1 rfl hb (fun k hk hc => hd k (by simpa using hc) hk)
  rw [Nat.zero_add] at this
  exact this) (fun u w1 => htail u _ w1 rfl)
end
end Go.Proofs.YtlabfpjlckdmfaaGreat

namespace Go.Proofs.YtlabfpjlckdmfaaGreat
open Go Go.RowKit Go.Proofs
set_option maxRecDepth 100000
def FcsAt (w : World) (A : Option Addr) (n : Nat) (D : Nat → Nat → Int) (B : Nat → Nat → Bool) : Prop :=
 0 < n → ∃ b off, A = some ⟨b, off, none⟩ ∧ b < w.heap.size ∧ ∀ k, k < n → w.cell? ⟨b, off + k * 12, none⟩ = some (.int .i64 (D k 0)) ∧ w.cell? ⟨b, off + k * 12 + 1, none⟩ = some (.int .i64 (D k 1)) ∧ w.cell? ⟨b, off + k * 12 + 2, none⟩ = some (.int .i64 (D k 2)) ∧ w.cell? ⟨b, off + k * 12 + 3, none⟩ = some (.int .i64 (D k 3)) ∧ w.cell? ⟨b, off + k * 12 + 4, none⟩ = some (.int .i64 (D k 4)) ∧ w.cell? ⟨b, off + k * 12 + 5, none⟩ = some (.int .i64 (D k 5)) ∧ w.cell? ⟨b, off + k * 12 + 6, none⟩ = some (.int .i64 (D k 6)) ∧ w.cell? ⟨b, off + k * 12 + 7, none⟩ = some (.int .i64 (D k 7)) ∧ w.cell? ⟨b, off + k * 12 + 8, none⟩ = some (.int .i64 (D k 8)) ∧ w.cell? ⟨b, off + k * 12 + 9, none⟩ = some (.int .i64 (D k 9)) ∧ w.cell? ⟨b, off + k * 12 + 10, none⟩ = some (.bool (B k 10)) ∧ w.cell? ⟨b, off + k * 12 + 11, none⟩ = some (.bool (B k 11))
set_option maxHeartbeats 400000 in
theorem ixFc_c (A : Option Addr) (n c : Nat) (D : Nat → Nat → Int) (B : Nat → Nat → Bool) (g : Nat) (lb : Array Value) (p : Nat → Bool) (w : World) (hn : n ≤ 9223372036854775807)
  (eg : ∀ args w, (callFunc g args).run Tryz.prog w = .ok (.enter g args) w)
  (hA : FcsAt w A n D B) (hp : PredB Tryz.prog g lb n (fun i => .agg #[.int .i64 (D i 0), .int .i64 (D i 1), .int .i64 (D i 2), .int .i64 (D i 3), .int .i64 (D i 4), .int .i64 (D i 5), .int .i64 (D i 6), .int .i64 (D i 7), .int .i64 (D i 8), .int .i64 (D i 9), .bool (B i 10), .bool (B i 11)]) p w) :
  Calls Tryz.prog 92 #[.slice A n c, .func (.func g) #[] lb] w fun e w' => e = .returned (.int .i64 (firstIx p n)) ∧ Below w.heap.size w w' := by
 go_enter Tryz.func92, Tryz.ntmps92
 go_wp2
 go_loopw [5, 8] (fun _ s8 wr => ∃ k : Nat, k ≤ n ∧ s8 = .int .i64 k ∧ Hid (Below w.heap.size w wr) ∧ Hid (∀ j, j < k → p j = false)) (fun _ i _ => n - (intOf i).toNat)
 case atStart => exact ⟨0, by omega, rfl, Below.refl _ _, fun j hj => absurd hj (by omega)⟩
 case round =>
  obtain ⟨k, hk, rfl, hB, hF⟩ := hrel
  by_cases hlt : k < n
  ·obtain ⟨b, off, rfl, hb, hc⟩ := hA (by omega)
   have h0 := (hB.out.cell (p := ⟨b, off + k * 12, none⟩) hb).trans (hc k hlt).1
   have h1 := (hB.out.cell (p := ⟨b, off + k * 12 + 1, none⟩) hb).trans (hc k hlt).2.1
   have h2 := (hB.out.cell (p := ⟨b, off + k * 12 + 2, none⟩) hb).trans (hc k hlt).2.2.1
   have h3 := (hB.out.cell (p := ⟨b, off + k * 12 + 3, none⟩) hb).trans (hc k hlt).2.2.2.1
   have h4 := (hB.out.cell (p := ⟨b, off + k * 12 + 4, none⟩) hb).trans (hc k hlt).2.2.2.2.1
   have h5 := (hB.out.cell (p := ⟨b, off + k * 12 + 5, none⟩) hb).trans (hc k hlt).2.2.2.2.2.1
   have h6 := (hB.out.cell (p := ⟨b, off + k * 12 + 6, none⟩) hb).trans (hc k hlt).2.2.2.2.2.2.1
   have h7 := (hB.out.cell (p := ⟨b, off + k * 12 + 7, none⟩) hb).trans (hc k hlt).2.2.2.2.2.2.2.1
   have h8 := (hB.out.cell (p := ⟨b, off + k * 12 + 8, none⟩) hb).trans (hc k hlt).2.2.2.2.2.2.2.2.1
   have h9 := (hB.out.cell (p := ⟨b, off + k * 12 + 9, none⟩) hb).trans (hc k hlt).2.2.2.2.2.2.2.2.2.1
   have h10 := (hB.out.cell (p := ⟨b, off + k * 12 + 10, none⟩) hb).trans (hc k hlt).2.2.2.2.2.2.2.2.2.2.1
   have h11 := (hB.out.cell (p := ⟨b, off + k * 12 + 11, none⟩) hb).trans (hc k hlt).2.2.2.2.2.2.2.2.2.2.2
   have hcall := hp wr k hlt hB.out
   clear hc hA hp
   cases hq : p k with
   | true =>
    rw [hq] at hcall
    have HQ := hI9 hq
    clear hq
    go_wp2_with (go_at_fn g; refine hcall.mono ?_; rintro e w1 ⟨rfl, hb1⟩)
    go_ret
    exact ⟨ret_int (firstIx_hit p n k hlt HQ.out hF.out).symm, hB.out.trans (hb1.mono hB.out.size)⟩
   | false =>
    rw [hq] at hcall
    have HQ := hI9 hq
    clear hq
    go_wp2_with (go_at_fn g; refine hcall.mono ?_; rintro e w1 ⟨rfl, hb1⟩)
    go_roundw
    case rel => exact ⟨k + 1, by omega, by go_num, hB.out.trans (hb1.mono hB.out.size), fun j hj => by
     by_cases e : j = k
     ·subst e; exact HQ.out
     ·exact hF.out j (by omega)⟩
    case measure => simp [intOf]; omega
  ·obtain rfl : k = n := by omega
   clear hA hp
   go_wp2
   go_ret
   exact ⟨ret_int (firstIx_miss p k hF.out).symm, hB.out⟩
theorem cfFc_c (A : Option Addr) (n c : Nat) (D : Nat → Nat → Int) (B : Nat → Nat → Bool) (g : Nat) (lb : Array Value) (p : Nat → Bool) (w : World) (hn : n ≤ 9223372036854775807)
  (eg : ∀ args w, (callFunc g args).run Tryz.prog w = .ok (.enter g args) w)
  (hA : FcsAt w A n D B) (hp : PredB Tryz.prog g lb n (fun i => .agg #[.int .i64 (D i 0), .int .i64 (D i 1), .int .i64 (D i 2), .int .i64 (D i 3), .int .i64 (D i 4), .int .i64 (D i 5), .int .i64 (D i 6), .int .i64 (D i 7), .int .i64 (D i 8), .int .i64 (D i 9), .bool (B i 10), .bool (B i 11)]) p w) :
  Calls Tryz.prog 77 #[.slice A n c, .func (.func g) #[] lb] w fun e w' => e = .returned (.bool ((List.range n).any p)) ∧ Below w.heap.size w w' := by
 rw [← firstIx_nonneg p n]
 go_enter Tryz.func77, Tryz.ntmps77
 go_wp2_with (go_at_call 92; refine (ixFc_c _ _ _ _ _ _ _ _ _ hn eg hA hp).mono ?_; rintro e w1 ⟨rfl, hb1⟩)
 go_ret
 exact ⟨rfl, hb1⟩
def SisAt (w : World) (A : Option Addr) (n : Nat) (E : Nat → Nat → Int) (C : Nat → Nat → Bool) : Prop :=
 0 < n → ∃ b off, A = some ⟨b, off, none⟩ ∧ b < w.heap.size ∧ ∀ k, k < n → w.cell? ⟨b, off + k * 7, none⟩ = some (.int .i64 (E k 0)) ∧ w.cell? ⟨b, off + k * 7 + 1, none⟩ = some (.int .i64 (E k 1)) ∧ w.cell? ⟨b, off + k * 7 + 2, none⟩ = some (.int .i64 (E k 2)) ∧ w.cell? ⟨b, off + k * 7 + 3, none⟩ = some (.int .i64 (E k 3)) ∧ w.cell? ⟨b, off + k * 7 + 4, none⟩ = some (.int .i64 (E k 4)) ∧ w.cell? ⟨b, off + k * 7 + 5, none⟩ = some (.bool (C k 5)) ∧ w.cell? ⟨b, off + k * 7 + 6, none⟩ = some (.bool (C k 6))
set_option maxHeartbeats 400000 in
theorem ixSi_c (A : Option Addr) (n c : Nat) (E : Nat → Nat → Int) (C : Nat → Nat → Bool) (g : Nat) (lb : Array Value) (p : Nat → Bool) (w : World) (hn : n ≤ 9223372036854775807)
  (eg : ∀ args w, (callFunc g args).run Tryz.prog w = .ok (.enter g args) w)
  (hA : SisAt w A n E C) (hp : PredB Tryz.prog g lb n (fun i => .agg #[.int .i64 (E i 0), .int .i64 (E i 1), .int .i64 (E i 2), .int .i64 (E i 3), .int .i64 (E i 4), .bool (C i 5), .bool (C i 6)]) p w) :
  Calls Tryz.prog 93 #[.slice A n c, .func (.func g) #[] lb] w fun e w' => e = .returned (.int .i64 (firstIx p n)) ∧ Below w.heap.size w w' := by
 go_enter Tryz.func93, Tryz.ntmps93
 go_wp2
 go_loopw [5, 8] (fun _ s8 wr => ∃ k : Nat, k ≤ n ∧ s8 = .int .i64 k ∧ Hid (Below w.heap.size w wr) ∧ Hid (∀ j, j < k → p j = false)) (fun _ i _ => n - (intOf i).toNat)
 case atStart => exact ⟨0, by omega, rfl, Below.refl _ _, fun j hj => absurd hj (by omega)⟩
 case round =>
  obtain ⟨k, hk, rfl, hB, hF⟩ := hrel
  by_cases hlt : k < n
  ·obtain ⟨b, off, rfl, hb, hc⟩ := hA (by omega)
   have h0 := (hB.out.cell (p := ⟨b, off + k * 7, none⟩) hb).trans (hc k hlt).1
   have h1 := (hB.out.cell (p := ⟨b, off + k * 7 + 1, none⟩) hb).trans (hc k hlt).2.1
   have h2 := (hB.out.cell (p := ⟨b, off + k * 7 + 2, none⟩) hb).trans (hc k hlt).2.2.1
   have h3 := (hB.out.cell (p := ⟨b, off + k * 7 + 3, none⟩) hb).trans (hc k hlt).2.2.2.1
   have h4 := (hB.out.cell (p := ⟨b, off + k * 7 + 4, none⟩) hb).trans (hc k hlt).2.2.2.2.1
   have h5 := (hB.out.cell (p := ⟨b, off + k * 7 + 5, none⟩) hb).trans (hc k hlt).2.2.2.2.2.1
   have h6 := (hB.out.cell (p := ⟨b, off + k * 7 + 6, none⟩) hb).trans (hc k hlt).2.2.2.2.2.2
   have hcall := hp wr k hlt hB.out
   clear hc hA hp
   cases hq : p k with
   | true =>
    rw [hq] at hcall
    have HQ := hI9 hq
    clear hq
    go_wp2_with (go_at_fn g; refine hcall.mono ?_; rintro e w1 ⟨rfl, hb1⟩)
    go_ret
    exact ⟨ret_int (firstIx_hit p n k hlt HQ.out hF.out).symm, hB.out.trans (hb1.mono hB.out.size)⟩
   | false =>
    rw [hq] at hcall
    have HQ := hI9 hq
    clear hq
    go_wp2_with (go_at_fn g; refine hcall.mono ?_; rintro e w1 ⟨rfl, hb1⟩)
    go_roundw
    case rel => exact ⟨k + 1, by omega, by go_num, hB.out.trans (hb1.mono hB.out.size), fun j hj => by
     by_cases e : j = k
     ·subst e; exact HQ.out
     ·exact hF.out j (by omega)⟩
    case measure => simp [intOf]; omega
  ·obtain rfl : k = n := by omega
   clear hA hp
   go_wp2
   go_ret
   exact ⟨ret_int (firstIx_miss p k hF.out).symm, hB.out⟩
theorem cfSi_c (A : Option Addr) (n c : Nat) (E : Nat → Nat → Int) (C : Nat → Nat → Bool) (g : Nat) (lb : Array Value) (p : Nat → Bool) (w : World) (hn : n ≤ 9223372036854775807)
  (eg : ∀ args w, (callFunc g args).run Tryz.prog w = .ok (.enter g args) w)
  (hA : SisAt w A n E C) (hp : PredB Tryz.prog g lb n (fun i => .agg #[.int .i64 (E i 0), .int .i64 (E i 1), .int .i64 (E i 2), .int .i64 (E i 3), .int .i64 (E i 4), .bool (C i 5), .bool (C i 6)]) p w) :
  Calls Tryz.prog 78 #[.slice A n c, .func (.func g) #[] lb] w fun e w' => e = .returned (.bool ((List.range n).any p)) ∧ Below w.heap.size w w' := by
 rw [← firstIx_nonneg p n]
 go_enter Tryz.func78, Tryz.ntmps78
 go_wp2_with (go_at_call 93; refine (ixSi_c _ _ _ _ _ _ _ _ _ hn eg hA hp).mono ?_; rintro e w1 ⟨rfl, hb1⟩)
 go_ret
 exact ⟨rfl, hb1⟩
theorem FcsAt.of {w : World} {A : Option Addr} {n : Nat} {D : Nat → Nat → Int} {B : Nat → Nat → Bool} (h : RecsAt w A n 12 (fcV D B)) : FcsAt w A n D B := by
 intro hn
 obtain ⟨b, off, hA, hb, hc⟩ := h hn
 exact ⟨b, off, hA, hb, fun k hk => ⟨hc k hk 0 (by omega), hc k hk 1 (by omega), hc k hk 2 (by omega), hc k hk 3 (by omega), hc k hk 4 (by omega), hc k hk 5 (by omega), hc k hk 6 (by omega), hc k hk 7 (by omega), hc k hk 8 (by omega), hc k hk 9 (by omega), hc k hk 10 (by omega), hc k hk 11 (by omega)⟩⟩
theorem SisAt.of {w : World} {A : Option Addr} {n : Nat} {E : Nat → Nat → Int} {C : Nat → Nat → Bool} (h : RecsAt w A n 7 (siV E C)) : SisAt w A n E C := by
 intro hn
 obtain ⟨b, off, hA, hb, hc⟩ := h hn
 exact ⟨b, off, hA, hb, fun k hk => ⟨hc k hk 0 (by omega), hc k hk 1 (by omega), hc k hk 2 (by omega), hc k hk 3 (by omega), hc k hk 4 (by omega), hc k hk 5 (by omega), hc k hk 6 (by omega)⟩⟩
end Go.Proofs.YtlabfpjlckdmfaaGreat

namespace Go.Proofs.YtlabfpjlckdmfaaGreat
open Go Go.Shelf Go.RowKit Go.Proofs
def Tryz.laysSort_ren : Go.Shelf.Ren := ⟨fun | 189 => 111 | 125 => 123 | 257 => 122 | 128 => 144 | 129 => 145 | 294 => 135 | 295 => 136 | 296 => 137 | 297 => 138 | 298 => 139 | 299 => 140 | 216 => 141 | 300 => 142 | 301 => 143 | 328 => 149 | 329 => 150 | 330 => 151 | 331 => 152 | 332 => 153 | 215 => 88 | 343 => 156 | n => n, fun | 28 => 35 | 3 => 3 | 46 => 157 | 0 => 0 | 51 => 167 | 53 => 170 | 4 => 4 | 183 => 196 | 182 => 195 | 131 => 103 | 5 => 5 | 9 => 9 | 218 => 205 | 222 => 209 | 228 => 212 | 229 => 213 | n => n, fun | n => n⟩
theorem Tryz.laysSort : Go.Proofs.Lays.n189 Tryz.prog Tryz.laysSort_ren := {
 mixed := by kernel_rfl
 f125 := Tryz.func123.trans (congrArg some (by kernel_rfl))
 f128 := Tryz.func144.trans (congrArg some (by kernel_rfl))
 f129 := Tryz.func145.trans (congrArg some (by kernel_rfl))
 f189 := Tryz.func111.trans (congrArg some (by kernel_rfl))
 f215 := Tryz.func88.trans (congrArg some (by kernel_rfl))
 f216 := Tryz.func141.trans (congrArg some (by kernel_rfl))
 f257 := Tryz.func122.trans (congrArg some (by kernel_rfl))
 f294 := Tryz.func135.trans (congrArg some (by kernel_rfl))
 f295 := Tryz.func136.trans (congrArg some (by kernel_rfl))
 f296 := Tryz.func137.trans (congrArg some (by kernel_rfl))
 f297 := Tryz.func138.trans (congrArg some (by kernel_rfl))
 f298 := Tryz.func139.trans (congrArg some (by kernel_rfl))
 f299 := Tryz.func140.trans (congrArg some (by kernel_rfl))
 f300 := Tryz.func142.trans (congrArg some (by kernel_rfl))
 f301 := Tryz.func143.trans (congrArg some (by kernel_rfl))
 f328 := Tryz.func149.trans (congrArg some (by kernel_rfl))
 f329 := Tryz.func150.trans (congrArg some (by kernel_rfl))
 f330 := Tryz.func151.trans (congrArg some (by kernel_rfl))
 f331 := Tryz.func152.trans (congrArg some (by kernel_rfl))
 f332 := Tryz.func153.trans (congrArg some (by kernel_rfl))
 f343 := Tryz.func156.trans (congrArg some (by kernel_rfl))
 t0 := Tryz.underlying0
 a0 := Tryz.isAgg0
 z0 := Tryz.sizeOf0
 v0 := Tryz.zeroValue0
 t3 := Tryz.underlying3
 a3 := Tryz.isAgg3
 z3 := Tryz.sizeOf3
 v3 := Tryz.zeroValue3
 t4 := Tryz.underlying4
 a4 := Tryz.isAgg4
 z4 := Tryz.sizeOf4
 v4 := Tryz.zeroValue4
 t5 := Tryz.underlying5
 a5 := Tryz.isAgg5
 z5 := Tryz.sizeOf5
 v5 := Tryz.zeroValue5
 t9 := Tryz.underlying9
 a9 := Tryz.isAgg9
 z9 := Tryz.sizeOf9
 v9 := Tryz.zeroValue9
 t28 := Tryz.underlying35
 a28 := Tryz.isAgg35
 z28 := Tryz.sizeOf35
 v28 := Tryz.zeroValue35
 t46 := Tryz.underlying157
 a46 := Tryz.isAgg157
 z46 := Tryz.sizeOf157
 v46 := Tryz.zeroValue157
 t51 := Tryz.underlying167
 a51 := Tryz.isAgg167
 z51 := Tryz.sizeOf167
 v51 := Tryz.zeroValue167
 t53 := Tryz.underlying170
 a53 := Tryz.isAgg170
 z53 := Tryz.sizeOf170
 v53 := Tryz.zeroValue170
 t131 := Tryz.underlying103
 a131 := Tryz.isAgg103
 z131 := Tryz.sizeOf103
 v131 := Tryz.zeroValue103
 t182 := Tryz.underlying195
 a182 := Tryz.isAgg195
 z182 := Tryz.sizeOf195
 v182 := Tryz.zeroValue195
 t183 := Tryz.underlying196
 a183 := Tryz.isAgg196
 z183 := Tryz.sizeOf196
 v183 := Tryz.zeroValue196
 t218 := Tryz.underlying205
 a218 := Tryz.isAgg205
 z218 := Tryz.sizeOf205
 v218 := Tryz.zeroValue205
 t222 := Tryz.underlying209
 a222 := Tryz.isAgg209
 z222 := Tryz.sizeOf209
 v222 := Tryz.zeroValue209
 t228 := Tryz.underlying212
 a228 := Tryz.isAgg212
 z228 := Tryz.sizeOf212
 v228 := Tryz.zeroValue212
 t229 := Tryz.underlying213
 a229 := Tryz.isAgg213
 z229 := Tryz.sizeOf213
 v229 := Tryz.zeroValue213 }
theorem sortI_c (blk off cap : Nat) (zs : List Int) (w : World) (hH : Sort.Holds (Value.int .i64) w blk off zs.toArray) (hblk : blk < w.heap.size) (hsz : zs.length < 4611686018427387904) :
  Calls Tryz.prog 111 #[.slice (some ⟨blk, off, none⟩) zs.length cap] w fun e w' =>
   e = .returned (.tuple #[]) ∧ ∃ n os, w' = Sort.grow (Sort.putRow (Value.int .i64) (Sort.ahead w n) blk off (zs.mergeSort fun x y => decide (x ≤ y)).toArray) os :=
 Any.slices_Sort_int Tryz.laysSort blk off cap zs w hH hblk hsz
theorem sortI_none_c (p : Option Addr) (cap : Nat) (w : World) : Calls Tryz.prog 111 #[.slice p 0 cap] w fun e w' => e = .returned (.tuple #[]) ∧ w' = w :=
 Any.slices_Sort_int_none Tryz.laysSort p cap w
open Go.Lib Go.Sort in
theorem sortOdd_c (base : Nat) (v : Value) (xs : List Nat) (w : World) (hown : w.ownsRow base 3 1 v xs.length (xs.map encN)) (hnil : v = .slice none 0 0 ↔ xs = []) (hlt : ∀ x ∈ xs, x < 1000000) (h40 : xs.length ≤ 40) :
  Calls Tryz.prog 111 #[v] w fun e w' => e = .returned (.tuple #[]) ∧ w.grownBy w' v.ownBlock ∧ Ints w' v ((xs.mergeSort (fun x y => decide (castI x ≤ castI y))).map castI) := by
 by_cases he : xs = []
 ·subst he
  obtain rfl := hnil.2 rfl
  refine (sortI_none_c none 0 w).mono ?_
  rintro _ _ ⟨rfl, rfl⟩
  refine ⟨rfl, ⟨rfl, rfl, rfl, Nat.le_refl _, fun _ _ _ => rfl⟩, ⟨none, 0, ?_, ?_, by omega, fun x hx => ?_, fun h => ?_⟩⟩
  ·simp
  ·simp
  ·simp at hx
  ·simp at h
 ·have hvne : v ≠ .slice none 0 0 := fun e => he (hnil.1 e)
  have e0 : xs.map encN = (xs.map castI).map (Value.int .i64) := by rw [List.map_map]; rfl
  rw [e0] at hown
  obtain ⟨b, cap, rfl, hb1, hb2, hb3, hb4, hb5, hH⟩ := holds_of_ownsRow (enc := Value.int .i64) hown hvne
  have hl : (xs.map castI).length = xs.length := List.length_map _
  have hs := sortI_c b 0 cap (xs.map castI) w hH hb2 (by rw [hl]; omega)
  rw [hl] at hs
  refine hs.mono ?_
  rintro _ w' ⟨rfl, n, os, hw⟩
  have hS : SW (Value.int .i64) w b 0 ((xs.map castI).mergeSort fun x y => decide (x ≤ y)).toArray w' := ⟨n, os, hw⟩
  have em : (xs.mergeSort (fun x y => decide (castI x ≤ castI y))).map castI = (xs.map castI).mergeSort (fun x y => decide (x ≤ y)) := List.map_mergeSort (fun a _ c _ => rfl)
  rw [em]
  have hz : ((xs.map castI).mergeSort fun x y => decide (x ≤ y)).toArray.size = (xs.map castI).toArray.size := by simp
  have hH2 := hS.holds hb2 hH hz
  refine ⟨rfl, sw_grown hS, some ⟨b, 0, none⟩, cap, ?_, ?_, ?_, fun x hx => ?_, fun h => ⟨b, 0, rfl, hS.lt hb2, fun k hk => ?_⟩⟩
  ·simp
  ·simp; omega
  ·unfold maxLen at hb4; omega
  ·rw [List.mem_mergeSort, List.mem_map] at hx
   obtain ⟨a, ha, rfl⟩ := hx
   have := hlt a ha
   unfold I64 castI
   omega
  ·have hk2 : k < ((xs.map castI).mergeSort fun x y => decide (x ≤ y)).toArray.size := by simpa using hk
   rw [(hH2 k hk2).1]
   show some _ = some (Value.int .i64 (nth _ k))
   rw [nth_getElem _ _ (by simpa using hk)]
   have hk3 : k < xs.length := by simpa using hk
   simp [hk3]
end Go.Proofs.YtlabfpjlckdmfaaGreat
