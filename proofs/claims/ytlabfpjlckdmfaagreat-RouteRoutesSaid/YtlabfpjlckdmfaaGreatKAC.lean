/- Texts joined: KAC. -/
import Derived.Test.YtlabfpjlckdmfaaGreatKZA
import Derived.Test.YtlabfpjlckdmfaaGreatKAB
import Derived.Test.YtlabfpjlckdmfaaGreatKAA
set_option linter.all false
namespace Go.Proofs.YtlabfpjlckdmfaaGreat
open Go Go.RowKit Go.Proofs
def NoPanic (Q : Exit → Act → World → Prop) : Exit → Act → World → Prop
 | .panic _, _, _ => False
 | .normal, a, w => Q .normal a w
 | .exit i, a, w => Q (.exit i) a w
 | .goto i, a, w => Q (.goto i) a w
 | .ret, a, w => Q .ret a w
 | .outgrown, a, w => Q .outgrown a w
theorem NoPanic.imp {Q : Exit → Act → World → Prop} (e : Exit) (a : Act) (w : World) (h : NoPanic Q e a w) : Q e a w := by
 cases e <;> first | exact h | exact h.elim
section
variable {P : Program} {ops : Array Oper}
def sinkL (ops : Array Oper) (n : Nat) (late : List Nat) : Bool :=
 (List.range n).all fun i => late.contains i || (List.range (n + 1)).any fun j => decide (i < j) && !late.contains j && Region.waitsFor .any ops j i
def depArr (ops : Array Oper) (i : Nat) : Array Bool := ((List.range ops.size).map fun j => (depsOf ops i).contains j).toArray
def freeL (ops : Array Oper) (late : List Nat) : Bool := late.all fun i => Region.free .any ops (depArr ops i) i
def specL (ops : Array Oper) (n : Nat) (late : List Nat) : Bool :=
 decide (n < ops.size) && distB ops n && forwB ops n && sinkL ops n late && Region.chainB .any ops n && Region.seqB .any ops (ops.size - n) n (headDone ops.size n)
  && Region.noSelect ops && freeL ops late && late.all fun i => decide (i < n)
theorem tail_waitsL {n : Nat} {late : List Nat} {listed : Array Bool} (hs : sinkL ops n late = true) (hc : Region.chainB .any ops n = true) (hl : ∀ i ∈ late, i < n) (hn : n < ops.size) (inv : HeadInv .any ops n listed) :
  ∀ (d i : Nat), n - i = d → i < n → late.contains i = false → listed.getD i true = false → ∀ t, n ≤ t → t ∉ Region.ready .any ops listed := by
 intro d
 induction d using Nat.strongRecOn with
 | _ d ih =>
  intro i hd hi hla hun t ht hr
  obtain ⟨_, ot, hot, hall⟩ := mem_ready.1 hr
  have htlt : t < ops.size := (Array.getElem?_eq_some_iff.1 hot).1
  by_cases htn : t = n
  ·subst htn
   have h1 := List.all_eq_true.1 hs i (List.mem_range.2 hi)
   rw [hla, Bool.false_or] at h1
   obtain ⟨j, hj, hj2⟩ := List.any_eq_true.1 h1
   simp only [Bool.and_eq_true, decide_eq_true_eq, Bool.not_eq_true'] at hj2
   obtain ⟨oj, hoj, e, he, hb, hon⟩ := Region.waitsFor_spec hj2.2
   have hjle : j ≤ t := by have := List.mem_range.1 hj; omega
   by_cases hjt : j = t
   ·subst hjt
    have : oj = ot := Option.some.inj (hoj.symm.trans hot)
    subst this
    have h2 := hall e he hb
    rw [hon, getD_both hun] at h2
    cases h2
   ·cases hl : listed.getD j false with
    | true =>
     have h2 := inv.closed j oj hoj hl e he hb
     rw [hon, getD_both hun] at h2
     cases h2
    | false =>
     have hjs : j < listed.size := by rw [inv.size]; omega
     exact ih (t - j) (by omega) j rfl (by omega) hj2.1.2 (getD_in hjs hl) t (Nat.le_refl _) hr
  ·have h1 := List.all_eq_true.1 hc t (List.mem_range.2 htlt)
   simp only [Bool.or_eq_true, decide_eq_true_eq] at h1
   rcases h1 with h1 | h1
   ·omega
   ·obtain ⟨o', ho', e, he, hb, hon⟩ := Region.waitsFor_spec h1
    have : o' = ot := Option.some.inj (ho'.symm.trans hot)
    subst this
    have h2 := hall e he hb
    rw [hon, getD_both (inv.tail (t - 1) (by omega) (by omega))] at h2
    cases h2
theorem any_of_specsL {Q : Exit → Act → World → Prop} {R : Nat → Value → World → Prop} {fresh : Nat → Bool} {n : Nat} {late : List Nat} {a : Act} {w : World} {tail : List Oper}
  (hQ : ∀ c a w, ¬ Q (.panic c) a w) (hB : specL ops n late = true) (hR : ∀ k v w w', Below w.heap.size w w' → R k v w → R k v w') (hfl : ∀ i ∈ late, fresh i = false)
  (hop : ∀ i oi, i < n → late.contains i = false → ops[i]? = some oi → ∀ (u : Nat → Value) (w1 : World), Below w.heap.size w w1 → (∀ k ∈ depsOf ops i, k < n → R k (u k) w1) → wpList P ops (EndOp Q R fresh ops i (putAll ops a u n) w1) [oi] (putAll ops a u n) w1)
  (hlt : ∀ i oi, late.contains i = true → ops[i]? = some oi → ∀ (u : Nat → Value) (w1 : World), Below w.heap.size w w1 → (∀ k ∈ depsOf ops i, k < n → R k (u k) w1) → ∃ v, Yields P ops oi v (putAll ops a u n) ∧ R i v w1)
  (htl : ∀ j, tail[j]? = ops[n + j]?) (htn : tail.length = ops.size - n)
  (htail : ∀ (u : Nat → Value) (w1 : World), Below w.heap.size w w1 → (∀ k, k < n → R k (u k) w1) → (∀ i j, i < n → j < n → i ≠ j → fresh i = true → fresh j = true → u i ≠ u j) → wpList P ops Q tail (putAll ops a u n) w1) :
  ∀ (m : Nat) (listed : Array Bool) (u : Nat → Value) (w1 : World), HeadInv .any ops n listed → ((List.range n).filter fun i => !listed.getD i false).length = m →
   SpecInv ops R fresh n listed u w1 → Below w.heap.size w w1 → wpAny P .any ops Q (m + (ops.size - n)) listed (putAll ops a u n) w1 := by
 simp only [specL, Bool.and_eq_true, decide_eq_true_eq, List.all_eq_true] at hB
 obtain ⟨⟨⟨⟨⟨⟨⟨⟨hn, hdist⟩, hforw⟩, hs⟩, hc⟩, hseq⟩, hsel⟩, hfree⟩, hlate⟩ := hB
 intro m
 induction m with
 | zero =>
  intro listed u w1 inv hm sinv hb
  have all : ∀ i, i < n → listed.getD i false = true := by
   intro i hi
   have h0 := List.eq_nil_of_length_eq_zero hm
   rw [List.filter_eq_nil_iff] at h0
   have := h0 i (List.mem_range.2 hi)
   simpa using this
  have e := headDone_eq inv.size (by omega) all inv.tail
  subst e
  have := wpAny_of_seq (md := .any) (Q' := Q) tail n (headDone ops.size n) (putAll ops a u n) w1 htl (by rw [htn]; exact hseq)
   (htail u w1 hb (fun k hk => sinv.r k hk (all k hk)) (fun i j hi hj hij => sinv.d i j hi hj hij (all i hi) (all j hj)))
  rw [htn] at this
  rw [Nat.zero_add]
  exact this
 | succ m ih =>
  intro listed u w1 inv hm sinv hb
  obtain ⟨i0, hi0⟩ : ∃ i0, i0 ∈ (List.range n).filter fun i => !listed.getD i false := by
   cases hl : (List.range n).filter fun i => !listed.getD i false with
   | nil => rw [hl] at hm; simp at hm
   | cons x xs => exact ⟨x, by simp⟩
  obtain ⟨hi0n, hi0l⟩ := List.mem_filter.1 hi0
  have hi0n := List.mem_range.1 hi0n
  have deps : ∀ i oi, ops[i]? = some oi → i ∈ Region.ready .any ops listed → ∀ k ∈ depsOf ops i, k < n → R k (u k) w1 := by
   intro i oi hoi hi k hk hkn
   obtain ⟨hil, oi', hoi', hall⟩ := mem_ready.1 hi
   have : ∃ e ∈ oi'.after.toList, Region.binds .any e = true ∧ e.on = k := by
    unfold depsOf at hk; rw [hoi'] at hk
    simp only [List.mem_map, List.mem_filter] at hk
    obtain ⟨e, ⟨he, hbe⟩, rfl⟩ := hk
    exact ⟨e, he, hbe, rfl⟩
   obtain ⟨e, he, hbe, rfl⟩ := this
   exact sinv.r _ hkn (hall e (by simpa using he) hbe)
  have step : ∀ i, i < n → i ∈ Region.ready .any ops listed → ∀ v w', Below w1.heap.size w1 w' → R i v w' → (fresh i = true → ∃ g, v = .pointer (some ⟨g, 0, none⟩) ∧ w1.heap.size ≤ g ∧ g < w'.heap.size) →
    wpAny P .any ops Q (m + (ops.size - n)) (listed.setIfInBounds i true) ((putAll ops a u n).put (dstOf ops i) v) w' := by
   intro i hin hi v w' hb' hv hf
   have hil := (mem_ready.1 hi).1
   rw [← putAll_upd n hin hdist]
   have hl' : ∀ k, k ≠ i → (listed.setIfInBounds i true).getD k false = listed.getD k false := fun k hk => getD_set_ne false (Ne.symm hk)
   refine ih (listed.setIfInBounds i true) (upd u i v) w' (inv.set hi hin) ?_ ⟨?_, ?_, ?_⟩ (bthen hb hb')
   ·have := cnt_set (n := n) (p := fun k => !listed.getD k false) (q := fun k => !(listed.setIfInBounds i true).getD k false) hin (by simpa using getD_both hil) (by rw [getD_set_self (by rw [inv.size]; omega)]; rfl) (fun k hk => by rw [hl' k hk])
    omega
   ·intro k hk hkl
    by_cases e : k = i
    ·subst e; rw [upd_same]; exact hv
    ·rw [upd_ne e]; rw [hl' k e] at hkl; exact hR _ _ _ _ hb' (sinv.r k hk hkl)
   ·intro k hk hkl hfk
    by_cases e : k = i
    ·subst e; rw [upd_same]; obtain ⟨g, g1, g2, g3⟩ := hf hfk; exact ⟨g, g1, g3⟩
    ·rw [upd_ne e]; rw [hl' k e] at hkl; obtain ⟨g, g1, g2⟩ := sinv.f k hk hkl hfk; exact ⟨g, g1, Nat.lt_of_lt_of_le g2 hb'.size⟩
   ·intro j k hj hk hjk hjl hkl hfj hfk
    by_cases e : j = i
    ·subst e
     have e2 : k ≠ j := fun h => hjk h.symm
     rw [upd_same, upd_ne e2]; rw [hl' k e2] at hkl
     obtain ⟨g, g1, g2, g3⟩ := hf hfj
     obtain ⟨g', g1', g2'⟩ := sinv.f k hk hkl hfk
     rw [g1, g1']; intro h; injection h with h; injection h with h; injection h with h; omega
    ·by_cases e2 : k = i
     ·subst e2
      rw [upd_same, upd_ne e]; rw [hl' j e] at hjl
      obtain ⟨g, g1, g2, g3⟩ := hf hfk
      obtain ⟨g', g1', g2'⟩ := sinv.f j hj hjl hfj
      rw [g1, g1']; intro h; injection h with h; injection h with h; injection h with h; omega
     ·rw [upd_ne e, upd_ne e2]; rw [hl' j e] at hjl; rw [hl' k e2] at hkl
      exact sinv.d j k hj hk hjk hjl hkl hfj hfk
  have low : ∀ i, i < n → listed.getD i false = false → ∃ j, j < n ∧ listed.getD j true = false ∧ j ∈ Region.ready .any ops listed := by
   intro i
   induction i using Nat.strongRecOn with
   | _ i ih2 =>
    intro hin hl
    have hoi : ops[i]? = some ops[i] := Array.getElem?_eq_getElem (by omega)
    by_cases hall : ∀ e ∈ (ops[i]'(by omega)).after, Region.binds .any e = true → listed.getD e.on false = true
    ·have hun := getD_in (by rw [inv.size]; omega) hl
     exact ⟨i, hin, hun, mem_ready.2 ⟨hun, ops[i], hoi, hall⟩⟩
    ·have hex : ∃ e ∈ (ops[i]'(by omega)).after, Region.binds .any e = true ∧ listed.getD e.on false = false := by
      refine Classical.byContradiction fun hne => hall fun e he hbe => ?_
      cases hx : listed.getD e.on false with
      | true => rfl
      | false => exact absurd ⟨e, he, hbe, hx⟩ hne
     obtain ⟨e, he, hbe, hx⟩ := hex
     have hlt := forwB_lt hforw hin hoi (List.mem_map.2 ⟨e, List.mem_filter.2 ⟨by simpa using he, hbe⟩, rfl⟩)
     exact ih2 e.on hlt (by omega) hx
  rw [show m + 1 + (ops.size - n) = (m + (ops.size - n)) + 1 by omega]
  by_cases hex : ∃ i, late.contains i = true ∧ i ∈ Region.ready .any ops listed
  ·obtain ⟨i, hil, hir⟩ := hex
   have hmem : i ∈ late := by simpa using hil
   have hin : i < n := by simpa using hlate i hmem
   obtain ⟨_, oi, hoi, _⟩ := mem_ready.1 hir
   obtain ⟨v, hy, hv⟩ := hlt i oi hil hoi u w1 hb (deps i oi hoi hir)
   have hd : dstOf ops i = oi.dst := by simp [dstOf, hoi]
   refine wpAny_first hoi (Region.noSelect_spec hsel) (fun c a w h => absurd h (hQ _ _ _)) _ listed _ w1 (fun j oj hj hne hjl hno => ?_) hir hy ?_
   ·have hjs := (Array.getElem?_eq_some_iff.1 hj).1
    refine Region.free_spec hoi (List.all_eq_true.1 hfree i hmem) j oj hj hne ?_ hno
    have hnd : (depsOf ops i).contains j = false := by
     cases hx : (depsOf ops i).contains j with
     | false => rfl
     | true =>
      exfalso
      have hx' : j ∈ depsOf ops i := by simpa using hx
      obtain ⟨_, oi', hoi', hall⟩ := mem_ready.1 hir
      unfold depsOf at hx'; rw [hoi'] at hx'
      simp only [List.mem_map, List.mem_filter] at hx'
      obtain ⟨e, ⟨he, hbe⟩, rfl⟩ := hx'
      have h2 := hall e (by simpa using he) hbe
      rw [getD_both hjl] at h2; cases h2
    unfold depArr
    simp only [Array.getD_eq_getD_getElem?, List.getElem?_toArray, List.getElem?_map]
    rw [List.getElem?_range hjs]
    simpa using hnd
   ·rw [← hd]
    exact step i hin hir v w1 (Below.refl _ _) hv (fun h => by rw [hfl i hmem] at h; cases h)
  ·have notlate : ∀ i, i ∈ Region.ready .any ops listed → late.contains i = false := by
    intro i hi
    cases h : late.contains i with
    | false => rfl
    | true => exact absurd ⟨i, h, hi⟩ hex
   obtain ⟨j0, hj0n, hj0u, hj0r⟩ := low i0 hi0n (by simpa using hi0l)
   have key : ∀ i ∈ Region.ready .any ops listed, i < n := fun i hi => Nat.lt_of_not_le fun h => tail_waitsL hs hc (fun i hi => by simpa using hlate i hi) hn inv _ j0 rfl hj0n (notlate j0 hj0r) hj0u i h hi
   refine ⟨fun h0 => (by rw [h0] at hj0r; cases hj0r), fun i hi => ?_⟩
   have hin := key i hi
   obtain ⟨_, oi, hoi, _⟩ := mem_ready.1 hi
   exact wpOp_of_end hoi (hop i oi hin (notlate i hi) hoi u w1 hb (deps i oi hoi hi)) fun v w' hb' hv hf => step i hin hi v w' hb' hv hf
def OpOk (P : Program) (Q : Exit → Act → World → Prop) (R : Nat → Value → World → Prop) (fresh : Nat → Bool) (late : List Nat) (ops : Array Oper) (i : Nat) (oi : Oper) (A : Act) (w1 : World) : Prop :=
 if late.contains i = true then ∃ v, Yields P ops oi v A ∧ R i v w1 else wpList P ops (EndOp (NoPanic Q) R fresh ops i A w1) [oi] A w1
theorem OpOk.late {Q : Exit → Act → World → Prop} {R : Nat → Value → World → Prop} {fresh : Nat → Bool} {late : List Nat} {i : Nat} {oi : Oper} {A : Act} {w1 : World} (hl : late.contains i = true) (h : ∃ v, Yields P ops oi v A ∧ R i v w1) : OpOk P Q R fresh late ops i oi A w1 := by
 unfold OpOk; rw [if_pos hl]; exact h
theorem OpOk.now {Q : Exit → Act → World → Prop} {R : Nat → Value → World → Prop} {fresh : Nat → Bool} {late : List Nat} {i : Nat} {oi : Oper} {A : Act} {w1 : World} (hl : late.contains i = false) (h : wpList P ops (EndOp (NoPanic Q) R fresh ops i A w1) [oi] A w1) : OpOk P Q R fresh late ops i oi A w1 := by
 unfold OpOk; rw [if_neg (by rw [hl]; decide)]; exact h
theorem wp_region_specL {id : Nat} {Q : Exit → Act → World → Prop} {a : Act} {w : World} {l : List Oper} (n : Nat) (late : List Nat) (R : Nat → Value → World → Prop) (fresh : Nat → Bool)
  (hm : P.follows .mixedOrders = true) (hB : specL l.toArray n late = true) (hfl : ∀ i ∈ late, fresh i = false) (hR : ∀ k v w w', Below w.heap.size w w' → R k v w → R k v w')
  (hop : allOps (fun i oi => ∀ (u : Nat → Value) (A : Act) (w1 : World), A = putAll l.toArray a u n → Below w.heap.size w w1 → (∀ k, k < n → (depsOf l.toArray i).contains k = true → R k (u k) w1) → OpOk P Q R fresh late l.toArray i oi A w1) 0 (l.take n))
  (htail : ∀ (u : Nat → Value) (A : Act) (w1 : World), A = putAll l.toArray a u n → Below w.heap.size w w1 → (∀ k, k < n → R k (u k) w1) → (∀ i j, i < n → j < n → i ≠ j → fresh i = true → fresh j = true → u i ≠ u j) → wpList P l.toArray (NoPanic Q) (l.drop n) A w1) :
  (Code.region id l.toArray true).wp P Q a w := by
 have hB' := hB
 simp only [specL, Bool.and_eq_true, decide_eq_true_eq, List.all_eq_true] at hB'
 have hn : n < l.toArray.size := hB'.1.1.1.1.1.1.1.1
 have hlate := hB'.2
 have hn' : n < l.length := by simpa using hn
 refine Code.wp_mono (Q := NoPanic Q) NoPanic.imp ?_
 refine wp_region_any hm ?_
 have inv0 : HeadInv .any l.toArray n (Array.replicate l.toArray.size false) :=
  ⟨by simp, fun j oj _ hl => (by rw [getD_replicate_false] at hl; cases hl), fun t _ ht => getD_in (by simpa using ht) (getD_replicate_false _ _)⟩
 have hcnt : ((List.range n).filter fun i => !(Array.replicate l.toArray.size false).getD i false).length = n := by
  rw [List.filter_eq_self.2 (fun i _ => by rw [getD_replicate_false]; rfl), List.length_range]
 have ok : ∀ i oi, i < n → l.toArray[i]? = some oi → ∀ (u : Nat → Value) (w1 : World), Below w.heap.size w w1 → (∀ k ∈ depsOf l.toArray i, k < n → R k (u k) w1) → OpOk P Q R fresh late l.toArray i oi (putAll l.toArray a u n) w1 := fun i oi hi ho u w1 hb hd => by
  have := allOps_get _ _ hop i oi (by simpa [List.getElem?_take, hi] using ho) u (putAll l.toArray a u n) w1 rfl hb (fun k hk hc => hd k (by simpa using hc) hk)
  rw [Nat.zero_add] at this
  exact this
 have := any_of_specsL (P := P) (Q := NoPanic Q) (R := R) (fresh := fresh) (n := n) (late := late) (a := a) (w := w) (tail := l.drop n) (fun c a w h => h) hB hR hfl
  (fun i oi hi hl ho u w1 hb hd => by have := ok i oi hi ho u w1 hb hd; unfold OpOk at this; rwa [if_neg (by rw [hl]; decide)] at this)
  (fun i oi hl ho u w1 hb hd => by
   have := ok i oi (by simpa using hlate i (by simpa using hl)) ho u w1 hb hd
   unfold OpOk at this; rwa [if_pos hl] at this)
  (fun j => by simp [List.getElem?_drop]) (by simp) (fun u w1 => htail u _ w1 rfl) n
  (Array.replicate l.toArray.size false) (slotOf l.toArray a) w.drew inv0 hcnt ⟨fun k _ hl => (by rw [getD_replicate_false] at hl; cases hl), fun k _ hl => (by rw [getD_replicate_false] at hl; cases hl), fun j k _ _ _ hl => (by rw [getD_replicate_false] at hl; cases hl)⟩ ((Below.refl _ _).drew)
 rw [putAll_slot, show n + (l.toArray.size - n) = l.toArray.size by omega] at this
 exact this
theorem yields_extract {o : Oper} {a : Act} (hg : o.guard = none) (x : Operand) (k : Nat) (ho : o.op = .extract x k) (vs : Array Value) (hx : a.eval x = .tuple vs) (v : Value) (hv : vs[k]? = some v) : Yields P ops o v a := by
 refine .inl ⟨by simp [Region.wanted, hg], fun w => ?_⟩
 simp only [execOp, ho, hx]
 simp [Instr.extract, hv, Sem.run_bind, Sem.run_pure, Result.andThen_ok]
end
end Go.Proofs.YtlabfpjlckdmfaaGreat

namespace Go.Proofs.YtlabfpjlckdmfaaGreat
open Go Go.RowKit Go.Proofs
set_option maxRecDepth 100000
set_option maxHeartbeats 4000000
def cuL (al ah bl bh : Int) : Int := if max al bl ≤ min ah bh then max al bl else bl
def cuH (al ah bl bh : Int) : Int := if max al bl ≤ min ah bh then min ah bh else bh
def cuF (al ah bl bh : Int) : Bool := !decide (max al bl ≤ min ah bh)
def cutR (w0 : Nat) (g o : Nat) (al ah bl bh ml mh me : Int) : Nat → Value → World → Prop
 | 0, v, _ => v = .pointer (some ⟨g, o, none⟩)
 | 1, v, _ => v = .pointer (some ⟨g, o, none⟩)
 | 2, v, _ => v = .agg #[.int .i64 al, .int .i64 ah]
 | 3, v, _ => v = .agg #[.int .i64 bl, .int .i64 bh]
 | 4, v, _ => v = .tuple #[.agg #[.int .i64 ml, .int .i64 mh], .int .i64 me]
 | 5, v, _ => v = .tuple #[.agg #[.int .i64 ml, .int .i64 mh], .int .i64 me]
 | 6, v, _ => v = .agg #[.int .i64 ml, .int .i64 mh]
 | 7, v, _ => v = .int .i64 me
 | 8, v, w => NewBlk w0 23 #[.int .i64 0, .int .i64 0] v w
 | _, _, _ => True
theorem cutR_below {w0 : Nat} {g o : Nat} {al ah bl bh ml mh me : Int} (k : Nat) (v : Value) (w w' : World) (hb : Below w.heap.size w w') (h : cutR w0 g o al ah bl bh ml mh me k v w) : cutR w0 g o al ah bl bh ml mh me k v w' := by
 unfold cutR at *
 split at h <;> first | exact h | exact NewBlk.below hb h
theorem cut_c (g o : Nat) (al ah bl bh : Int) (w : World) (ha : vspan al ah = true) (hb : vspan bl bh = true) (h0 : w.cell? ⟨g, o, none⟩ = some (.int .i64 al)) (h1 : w.cell? ⟨g, o + 1, none⟩ = some (.int .i64 ah))
  (f0 : w.frozen? ⟨g, o, none⟩ = false) (f1 : w.frozen? ⟨g, o + 1, none⟩ = false) :
  Calls Tryz.prog 121 #[.pointer (some ⟨g, o, none⟩), .agg #[.int .i64 bl, .int .i64 bh]] w fun e w' => e = .returned (.bool (cuF al ah bl bh)) ∧
   ∃ wm, Below w.heap.size w wm ∧ w' = (wm.setCell ⟨g, o, none⟩ (.int .i64 (cuL al ah bl bh))).setCell ⟨g, o + 1, none⟩ (.int .i64 (cuH al ah bl bh)) := by
 have hg : g < w.heap.size := blk_lt h0
 have HG := hI9 (And.intro (fun w1 (h : Below w.heap.size w w1) => (h.cell (p := ⟨g, o, none⟩) hg).trans h0) (And.intro (fun w1 (h : Below w.heap.size w w1) => (h.cell (p := ⟨g, o + 1, none⟩) hg).trans h1)
  (And.intro (fun w1 (h : Below w.heap.size w w1) => (h.frozen (p := ⟨g, o, none⟩) hg).trans f0) (fun w1 (h : Below w.heap.size w w1) => (h.frozen (p := ⟨g, o + 1, none⟩) hg).trans f1))))
 have hm := fun w1 => Meet_c al ah bl bh w1 ha hb
 unfold cuL cuH cuF
 clear h0 h1 f0 f1 ha hb
 unfold meL meH meE at hm
 by_cases h : max al bl ≤ min ah bh
 ·rw [if_pos h, if_pos h, if_pos h] at hm
  rw [if_pos h, if_pos h, show (!decide (max al bl ≤ min ah bh)) = false by simp [h]]
  generalize max al bl = ml at *
  generalize min ah bh = mh at *
  have HM := hI9 hm
  clear hm h
  go_enter Tryz.func121, Tryz.ntmps121
  go_wp2_with (fail)
  have _x := frm1 w #[.int .i64 bl, .int .i64 bh] 23
  have HX := hI9 _x.1
  have HB := hI9 _x.2.1
  have zW := _x.2.2
  clear _x
  generalize World.alloc w _ = W at *
  refine wp_region_specL 9 [7] (cutR W.heap.size g o al ah bl bh ml mh 0) (fun i => decide (i = 8)) (by kernel_rfl) (by kernel_rfl) (by decide) cutR_below ?hop1 ?htail1
  case hop1 =>
   simp only [List.take_succ_cons, List.take_zero, allOps]
   refine ⟨?_, ?_, ?_, ?_, ?_, ?_, ?_, ?_, ?_, trivial⟩
   all_goals intro u A w1 hA hb hd
   all_goals simp only [putAll, dstOf, gtA, gtS, gtZ, Option.bind_some, Option.bind, Act.put, List.setIfInBounds_toArray, List.set_cons_succ, List.set_cons_zero] at hA; subst hA
   all_goals have HB1 := hI9 hb
   ·refine OpOk.now rfl ?_
    clear hb hd
    go_wp2
    exact ⟨_, rfl, Below.refl _ _, rfl, fun h => absurd h (by decide)⟩
   ·refine OpOk.now rfl ?_
    have d0 : u 0 = _ := hd 0 (by omega) (by kernel_rfl)
    clear hb hd
    rw [d0]
    clear d0
    go_wp2
    exact ⟨_, rfl, Below.refl _ _, rfl, fun h => absurd h (by decide)⟩
   ·refine OpOk.now rfl ?_
    have d1 : u 1 = _ := hd 1 (by omega) (by kernel_rfl)
    clear hb hd
    rw [d1]
    clear d1
    have c0 := HG.out.1 _ (bthen HB.out HB1.out)
    have c1 := HG.out.2.1 _ (bthen HB.out HB1.out)
    go_wp2
    exact ⟨_, rfl, Below.refl _ _, rfl, fun h => absurd h (by decide)⟩
   ·refine OpOk.now rfl ?_
    clear hb hd
    have c0 := (HX.out.below HB1.out).cell 0
    have c1 := (HX.out.below HB1.out).cell 1
    go_wp2
    exact ⟨_, rfl, Below.refl _ _, rfl, fun h => absurd h (by decide)⟩
   ·refine OpOk.now rfl ?_
    have d2 : u 2 = _ := hd 2 (by omega) (by kernel_rfl)
    have d3 : u 3 = _ := hd 3 (by omega) (by kernel_rfl)
    clear hb hd
    rw [d2, d3]
    clear d2 d3
    go_wp2_with (go_at_call 134; (with_reducible refine (HM.out _).mono ?_); rintro e w2 ⟨rfl, hb2⟩)
    exact ⟨_, rfl, hb2, rfl, fun h => absurd h (by decide)⟩
   ·refine OpOk.now rfl ?_
    have d4 : u 4 = _ := hd 4 (by omega) (by kernel_rfl)
    clear hb hd
    rw [d4]
    clear d4
    go_wp2
    exact ⟨_, rfl, Below.refl _ _, rfl, fun h => absurd h (by decide)⟩
   ·refine OpOk.now rfl ?_
    have d5 : u 5 = _ := hd 5 (by omega) (by kernel_rfl)
    clear hb hd
    rw [d5]
    clear d5
    go_wp2
    exact ⟨_, rfl, Below.refl _ _, rfl, fun h => absurd h (by decide)⟩
   ·have d5 : u 5 = _ := hd 5 (by omega) (by kernel_rfl)
    clear hb hd
    rw [d5]
    clear d5
    refine OpOk.late rfl ?_
    exact ⟨_, yields_extract rfl _ _ rfl _ rfl _ rfl, rfl⟩
   ·refine OpOk.now rfl ?_
    have zz := hb.size
    clear hb hd
    go_wp2
    exact ⟨_, rfl, bal (Below.refl _ _) _, ⟨_, rfl, by omega, Blk.new _ _ _⟩, fun _ => ⟨_, rfl, Nat.le_refl _, by simp⟩⟩
  case htail1 =>
   intro u A w1 hA hb hd hf
   simp only [putAll, dstOf, gtA, gtS, gtZ, Option.bind_some, Option.bind, Act.put, List.setIfInBounds_toArray, List.set_cons_succ, List.set_cons_zero] at hA; subst hA
   have e0 : u 0 = _ := hd 0 (by omega)
   have e1 : u 1 = _ := hd 1 (by omega)
   have e2 : u 2 = _ := hd 2 (by omega)
   have e3 : u 3 = _ := hd 3 (by omega)
   have e4 : u 4 = _ := hd 4 (by omega)
   have e5 : u 5 = _ := hd 5 (by omega)
   have e6 : u 6 = _ := hd 6 (by omega)
   have e7 : u 7 = _ := hd 7 (by omega)
   obtain ⟨g8, e8, z8, b8⟩ := hd 8 (by omega)
   first | rw [e0, e1, e2, e3, e4, e5, e6, e7, e8] | simp only [e0, e1, e2, e3, e4, e5, e6, e7, e8]
   clear e0 e1 e2 e3 e4 e5 e6 e7 e8
   clear hd hf
   have nHX := hI9 (HX.out.below hb)
   have nHB := hI9 (bthen HB.out hb)
   have zz := hb.size
   have HZ := hI9 b8
   have x0 := b8.cell 0
   have x1 := b8.cell 1
   have x2 := fun i => b8.frozen i
   clear hb b8 HX HB
   go_wp2
   dsimp only [NoPanic]
   have HZ2 := hI9 ((HZ.out.set_ 0 (.int .i64 ml)).set_ 1 (.int .i64 mh))
   have HX2 := hI9 ((nHX.out.far' (f := g8) (by omega) (i := 0) (.int .i64 ml)).far' (f := g8) (by omega) (i := 1) (.int .i64 mh))
   have HB := hI9 (bset (bset nHB.out (g := g8) (by omega) (i := 0) (.int .i64 ml)) (g := g8) (by omega) (i := 1) (.int .i64 mh))
   clear x0 x1 x2 HZ nHX nHB
   generalize (w1.setCell ⟨g8, 0, none⟩ (.int .i64 ml)).setCell ⟨g8, 1, none⟩ (.int .i64 mh) = W3 at *
   have x0 := HX2.out.cell 0
   have x1 := HX2.out.cell 1
   have z0 := HZ2.out.cell 0
   have z1 := HZ2.out.cell 1
   have c0 := HG.out.1 _ HB.out
   have c1 := HG.out.2.1 _ HB.out
   have f0 := HG.out.2.2.1 _ HB.out
   have f1 := HG.out.2.2.2 _ HB.out
   simp at x0 x1 z0 z1
   go_wp2
   go_ret
   exact ⟨rfl, W3, HB.out, rfl⟩
 ·rw [if_neg h, if_neg h, if_neg h] at hm
  rw [if_neg h, if_neg h, show (!decide (max al bl ≤ min ah bh)) = true by simp [h]]
  clear h
  have HM := hI9 hm
  clear hm
  go_enter Tryz.func121, Tryz.ntmps121
  go_wp2_with (fail)
  have _x := frm1 w #[.int .i64 bl, .int .i64 bh] 23
  have HX := hI9 _x.1
  have HB := hI9 _x.2.1
  have zW := _x.2.2
  clear _x
  generalize World.alloc w _ = W at *
  refine wp_region_specL 9 [7] (cutR W.heap.size g o al ah bl bh (0 : Int) (0 : Int) 3) (fun i => decide (i = 8)) (by kernel_rfl) (by kernel_rfl) (by decide) cutR_below ?hop2 ?htail2
  case hop2 =>
   simp only [List.take_succ_cons, List.take_zero, allOps]
   refine ⟨?_, ?_, ?_, ?_, ?_, ?_, ?_, ?_, ?_, trivial⟩
   all_goals intro u A w1 hA hb hd
   all_goals simp only [putAll, dstOf, gtA, gtS, gtZ, Option.bind_some, Option.bind, Act.put, List.setIfInBounds_toArray, List.set_cons_succ, List.set_cons_zero] at hA; subst hA
   all_goals have HB1 := hI9 hb
   ·refine OpOk.now rfl ?_
    clear hb hd
    go_wp2
    exact ⟨_, rfl, Below.refl _ _, rfl, fun h => absurd h (by decide)⟩
   ·refine OpOk.now rfl ?_
    have d0 : u 0 = _ := hd 0 (by omega) (by kernel_rfl)
    clear hb hd
    rw [d0]
    clear d0
    go_wp2
    exact ⟨_, rfl, Below.refl _ _, rfl, fun h => absurd h (by decide)⟩
   ·refine OpOk.now rfl ?_
    have d1 : u 1 = _ := hd 1 (by omega) (by kernel_rfl)
    clear hb hd
    rw [d1]
    clear d1
    have c0 := HG.out.1 _ (bthen HB.out HB1.out)
    have c1 := HG.out.2.1 _ (bthen HB.out HB1.out)
    go_wp2
    exact ⟨_, rfl, Below.refl _ _, rfl, fun h => absurd h (by decide)⟩
   ·refine OpOk.now rfl ?_
    clear hb hd
    have c0 := (HX.out.below HB1.out).cell 0
    have c1 := (HX.out.below HB1.out).cell 1
    go_wp2
    exact ⟨_, rfl, Below.refl _ _, rfl, fun h => absurd h (by decide)⟩
   ·refine OpOk.now rfl ?_
    have d2 : u 2 = _ := hd 2 (by omega) (by kernel_rfl)
    have d3 : u 3 = _ := hd 3 (by omega) (by kernel_rfl)
    clear hb hd
    rw [d2, d3]
    clear d2 d3
    go_wp2_with (go_at_call 134; (with_reducible refine (HM.out _).mono ?_); rintro e w2 ⟨rfl, hb2⟩)
    exact ⟨_, rfl, hb2, rfl, fun h => absurd h (by decide)⟩
   ·refine OpOk.now rfl ?_
    have d4 : u 4 = _ := hd 4 (by omega) (by kernel_rfl)
    clear hb hd
    rw [d4]
    clear d4
    go_wp2
    exact ⟨_, rfl, Below.refl _ _, rfl, fun h => absurd h (by decide)⟩
   ·refine OpOk.now rfl ?_
    have d5 : u 5 = _ := hd 5 (by omega) (by kernel_rfl)
    clear hb hd
    rw [d5]
    clear d5
    go_wp2
    exact ⟨_, rfl, Below.refl _ _, rfl, fun h => absurd h (by decide)⟩
   ·have d5 : u 5 = _ := hd 5 (by omega) (by kernel_rfl)
    clear hb hd
    rw [d5]
    clear d5
    refine OpOk.late rfl ?_
    exact ⟨_, yields_extract rfl _ _ rfl _ rfl _ rfl, rfl⟩
   ·refine OpOk.now rfl ?_
    have zz := hb.size
    clear hb hd
    go_wp2
    exact ⟨_, rfl, bal (Below.refl _ _) _, ⟨_, rfl, by omega, Blk.new _ _ _⟩, fun _ => ⟨_, rfl, Nat.le_refl _, by simp⟩⟩
  case htail2 =>
   intro u A w1 hA hb hd hf
   simp only [putAll, dstOf, gtA, gtS, gtZ, Option.bind_some, Option.bind, Act.put, List.setIfInBounds_toArray, List.set_cons_succ, List.set_cons_zero] at hA; subst hA
   have e0 : u 0 = _ := hd 0 (by omega)
   have e1 : u 1 = _ := hd 1 (by omega)
   have e2 : u 2 = _ := hd 2 (by omega)
   have e3 : u 3 = _ := hd 3 (by omega)
   have e4 : u 4 = _ := hd 4 (by omega)
   have e5 : u 5 = _ := hd 5 (by omega)
   have e6 : u 6 = _ := hd 6 (by omega)
   have e7 : u 7 = _ := hd 7 (by omega)
   obtain ⟨g8, e8, z8, b8⟩ := hd 8 (by omega)
   first | rw [e0, e1, e2, e3, e4, e5, e6, e7, e8] | simp only [e0, e1, e2, e3, e4, e5, e6, e7, e8]
   clear e0 e1 e2 e3 e4 e5 e6 e7 e8
   clear hd hf
   have nHX := hI9 (HX.out.below hb)
   have nHB := hI9 (bthen HB.out hb)
   have zz := hb.size
   have HZ := hI9 b8
   have x0 := b8.cell 0
   have x1 := b8.cell 1
   have x2 := fun i => b8.frozen i
   clear hb b8 HX HB
   go_wp2
   dsimp only [NoPanic]
   have HZ2 := hI9 ((HZ.out.set_ 0 (.int .i64 (0 : Int))).set_ 1 (.int .i64 (0 : Int)))
   have HX2 := hI9 ((nHX.out.far' (f := g8) (by omega) (i := 0) (.int .i64 (0 : Int))).far' (f := g8) (by omega) (i := 1) (.int .i64 (0 : Int)))
   have HB := hI9 (bset (bset nHB.out (g := g8) (by omega) (i := 0) (.int .i64 (0 : Int))) (g := g8) (by omega) (i := 1) (.int .i64 (0 : Int)))
   clear x0 x1 x2 HZ nHX nHB
   generalize (w1.setCell ⟨g8, 0, none⟩ (.int .i64 (0 : Int))).setCell ⟨g8, 1, none⟩ (.int .i64 (0 : Int)) = W3 at *
   have x0 := HX2.out.cell 0
   have x1 := HX2.out.cell 1
   have z0 := HZ2.out.cell 0
   have z1 := HZ2.out.cell 1
   have c0 := HG.out.1 _ HB.out
   have c1 := HG.out.2.1 _ HB.out
   have f0 := HG.out.2.2.1 _ HB.out
   have f1 := HG.out.2.2.2 _ HB.out
   simp at x0 x1 z0 z1
   go_wp2
   go_ret
   exact ⟨rfl, W3, HB.out, rfl⟩
end Go.Proofs.YtlabfpjlckdmfaaGreat
