/- Texts joined: JAA. -/
import Derived.Test.YtlambeiafdpkgaaGreatProg
import Derived.Test.YtlambeiafdpkgaaGreatBas
import Derived.Deep.Slices
import Derived.ChangeArms
import Derived.ChangeSlices
import Derived.WideShapes
set_option linter.all false
namespace Go.Proofs.YtlambeiafdpkgaaGreat
open Go Go.RowKit Go.Proofs
def SpansAt (w : World) (A : Option Addr) (n : Nat) (lo hi : Nat → Int) : Prop :=
 0 < n → ∃ b off, A = some ⟨b, off, none⟩ ∧ b < w.heap.size ∧ ∀ k, k < n → w.cell? ⟨b, off + k * 2, none⟩ = some (.int .i64 (lo k)) ∧ w.cell? ⟨b, off + k * 2 + 1, none⟩ = some (.int .i64 (hi k))
set_option maxHeartbeats 400000 in
theorem ixSpan_c (A : Option Addr) (n c : Nat) (lo hi : Nat → Int) (g : Nat) (lb : Array Value) (p : Nat → Bool) (w : World) (hn : n ≤ 9223372036854775807)
  (eg : ∀ args w, (callFunc g args).run Tryz.prog w = .ok (.enter g args) w)
  (hA : SpansAt w A n lo hi) (hp : PredB Tryz.prog g lb n (fun i => .agg #[.int .i64 (lo i), .int .i64 (hi i)]) p w) :
  Calls Tryz.prog 110 #[.slice A n c, .func (.func g) #[] lb] w fun e w' => e = .returned (.int .i64 (firstIx p n)) ∧ Below w.heap.size w w' := by
 go_enter Tryz.func110, Tryz.ntmps110
 go_wp2
 go_loopw [5, 8] (fun _ s8 wr => ∃ k : Nat, k ≤ n ∧ s8 = .int .i64 k ∧ Hid (Below w.heap.size w wr) ∧ Hid (∀ j, j < k → p j = false)) (fun _ i _ => n - (intOf i).toNat)
 case atStart => exact ⟨0, by omega, rfl, Below.refl _ _, fun j hj => absurd hj (by omega)⟩
 case round =>
  obtain ⟨k, hk, rfl, hB, hF⟩ := hrel
  by_cases hlt : k < n
  ·obtain ⟨b, off, rfl, hb, hc⟩ := hA (by omega)
   have h0 := (hB.out.cell (p := ⟨b, off + k * 2, none⟩) hb).trans (hc k hlt).1
   have h1 := (hB.out.cell (p := ⟨b, off + k * 2 + 1, none⟩) hb).trans (hc k hlt).2
   have hcall := hp wr k hlt hB.out
   clear hc hA hp
   cases hq : p k with
   | true =>
    rw [hq] at hcall
    have HQ := hI9 hq
    clear hq
    go_wp2_with (go_at_fn g; refine hcall.mono ?_; rintro e w1 ⟨rfl, hb1⟩)
    go_ret
    exact ⟨ret_int (firstIx_hit p n k hlt HQ.out hF.out).symm, hB.out.trans (hb1.mono hB.out.size)⟩
   | false =>
    rw [hq] at hcall
    have HQ := hI9 hq
    clear hq
    go_wp2_with (go_at_fn g; refine hcall.mono ?_; rintro e w1 ⟨rfl, hb1⟩)
    go_roundw
    case rel => exact ⟨k + 1, by omega, by go_num, hB.out.trans (hb1.mono hB.out.size), fun j hj => by
     by_cases e : j = k
     ·subst e; exact HQ.out
     ·exact hF.out j (by omega)⟩
    case measure => simp [intOf]; omega
  ·obtain rfl : k = n := by omega
   clear hA hp
   go_wp2
   go_ret
   exact ⟨ret_int (firstIx_miss p k hF.out).symm, hB.out⟩
theorem cfSpan_c (A : Option Addr) (n c : Nat) (lo hi : Nat → Int) (g : Nat) (lb : Array Value) (p : Nat → Bool) (w : World) (hn : n ≤ 9223372036854775807)
  (eg : ∀ args w, (callFunc g args).run Tryz.prog w = .ok (.enter g args) w)
  (hA : SpansAt w A n lo hi) (hp : PredB Tryz.prog g lb n (fun i => .agg #[.int .i64 (lo i), .int .i64 (hi i)]) p w) :
  Calls Tryz.prog 61 #[.slice A n c, .func (.func g) #[] lb] w fun e w' => e = .returned (.bool ((List.range n).any p)) ∧ Below w.heap.size w w' := by
 rw [← firstIx_nonneg p n]
 go_enter Tryz.func61, Tryz.ntmps61
 go_wp2_with (go_at_call 110; refine (ixSpan_c _ _ _ _ _ _ _ _ _ hn eg hA hp).mono ?_; rintro e w1 ⟨rfl, hb1⟩)
 go_ret
 exact ⟨rfl, hb1⟩
def IntsAt (w : World) (A : Option Addr) (n : Nat) (xs : Nat → Int) : Prop :=
 0 < n → ∃ b off, A = some ⟨b, off, none⟩ ∧ b < w.heap.size ∧ ∀ k, k < n → w.cell? ⟨b, off + k, none⟩ = some (.int .i64 (xs k))
set_option maxHeartbeats 400000 in
theorem ixInt_c (A : Option Addr) (n c : Nat) (xs : Nat → Int) (g : Nat) (lb : Array Value) (p : Nat → Bool) (w : World) (hn : n ≤ 9223372036854775807)
  (eg : ∀ args w, (callFunc g args).run Tryz.prog w = .ok (.enter g args) w)
  (hA : IntsAt w A n xs) (hp : PredB Tryz.prog g lb n (fun i => .int .i64 (xs i)) p w) :
  Calls Tryz.prog 111 #[.slice A n c, .func (.func g) #[] lb] w fun e w' => e = .returned (.int .i64 (firstIx p n)) ∧ Below w.heap.size w w' := by
 go_enter Tryz.func111, Tryz.ntmps111
 go_wp2
 go_loopw [5, 8] (fun _ s8 wr => ∃ k : Nat, k ≤ n ∧ s8 = .int .i64 k ∧ Hid (Below w.heap.size w wr) ∧ Hid (∀ j, j < k → p j = false)) (fun _ i _ => n - (intOf i).toNat)
 case atStart => exact ⟨0, by omega, rfl, Below.refl _ _, fun j hj => absurd hj (by omega)⟩
 case round =>
  obtain ⟨k, hk, rfl, hB, hF⟩ := hrel
  by_cases hlt : k < n
  ·obtain ⟨b, off, rfl, hb, hc⟩ := hA (by omega)
   have h0 := (hB.out.cell (p := ⟨b, off + k, none⟩) hb).trans (hc k hlt)
   have hcall := hp wr k hlt hB.out
   clear hc hA hp
   cases hq : p k with
   | true =>
    rw [hq] at hcall
    have HQ := hI9 hq
    clear hq
    go_wp2_with (go_at_fn g; refine hcall.mono ?_; rintro e w1 ⟨rfl, hb1⟩)
    go_ret
    exact ⟨ret_int (firstIx_hit p n k hlt HQ.out hF.out).symm, hB.out.trans (hb1.mono hB.out.size)⟩
   | false =>
    rw [hq] at hcall
    have HQ := hI9 hq
    clear hq
    go_wp2_with (go_at_fn g; refine hcall.mono ?_; rintro e w1 ⟨rfl, hb1⟩)
    go_roundw
    case rel => exact ⟨k + 1, by omega, by go_num, hB.out.trans (hb1.mono hB.out.size), fun j hj => by
     by_cases e : j = k
     ·subst e; exact HQ.out
     ·exact hF.out j (by omega)⟩
    case measure => simp [intOf]; omega
  ·obtain rfl : k = n := by omega
   clear hA hp
   go_wp2
   go_ret
   exact ⟨ret_int (firstIx_miss p k hF.out).symm, hB.out⟩
theorem cfInt_c (A : Option Addr) (n c : Nat) (xs : Nat → Int) (g : Nat) (lb : Array Value) (p : Nat → Bool) (w : World) (hn : n ≤ 9223372036854775807)
  (eg : ∀ args w, (callFunc g args).run Tryz.prog w = .ok (.enter g args) w)
  (hA : IntsAt w A n xs) (hp : PredB Tryz.prog g lb n (fun i => .int .i64 (xs i)) p w) :
  Calls Tryz.prog 65 #[.slice A n c, .func (.func g) #[] lb] w fun e w' => e = .returned (.bool ((List.range n).any p)) ∧ Below w.heap.size w w' := by
 rw [← firstIx_nonneg p n]
 go_enter Tryz.func65, Tryz.ntmps65
 go_wp2_with (go_at_call 111; refine (ixInt_c _ _ _ _ _ _ _ _ hn eg hA hp).mono ?_; rintro e w1 ⟨rfl, hb1⟩)
 go_ret
 exact ⟨rfl, hb1⟩
def RowsAt (w : World) (A : Option Addr) (n : Nat) (vs : Nat → Value) : Prop :=
 0 < n → ∃ b off, A = some ⟨b, off, none⟩ ∧ b < w.heap.size ∧ ∀ k, k < n → w.cell? ⟨b, off + k, none⟩ = some (vs k)
set_option maxHeartbeats 400000 in
theorem ixRow_c (A : Option Addr) (n c : Nat) (vs : Nat → Value) (g : Nat) (lb : Array Value) (p : Nat → Bool) (w : World) (hn : n ≤ 9223372036854775807)
  (eg : ∀ args w, (callFunc g args).run Tryz.prog w = .ok (.enter g args) w)
  (hA : RowsAt w A n vs) (hp : PredB Tryz.prog g lb n (fun i => vs i) p w) :
  Calls Tryz.prog 174 #[.slice A n c, .func (.func g) #[] lb] w fun e w' => e = .returned (.int .i64 (firstIx p n)) ∧ Below w.heap.size w w' := by
 go_enter Tryz.func174, Tryz.ntmps174
 go_wp2
 go_loopw [5, 8] (fun _ s8 wr => ∃ k : Nat, k ≤ n ∧ s8 = .int .i64 k ∧ Hid (Below w.heap.size w wr) ∧ Hid (∀ j, j < k → p j = false)) (fun _ i _ => n - (intOf i).toNat)
 case atStart => exact ⟨0, by omega, rfl, Below.refl _ _, fun j hj => absurd hj (by omega)⟩
 case round =>
  obtain ⟨k, hk, rfl, hB, hF⟩ := hrel
  by_cases hlt : k < n
  ·obtain ⟨b, off, rfl, hb, hc⟩ := hA (by omega)
   have h0 := (hB.out.cell (p := ⟨b, off + k, none⟩) hb).trans (hc k hlt)
   have hcall := hp wr k hlt hB.out
   clear hc hA hp
   cases hq : p k with
   | true =>
    rw [hq] at hcall
    have HQ := hI9 hq
    clear hq
    go_wp2_with (go_at_fn g; refine hcall.mono ?_; rintro e w1 ⟨rfl, hb1⟩)
    go_ret
    exact ⟨ret_int (firstIx_hit p n k hlt HQ.out hF.out).symm, hB.out.trans (hb1.mono hB.out.size)⟩
   | false =>
    rw [hq] at hcall
    have HQ := hI9 hq
    clear hq
    go_wp2_with (go_at_fn g; refine hcall.mono ?_; rintro e w1 ⟨rfl, hb1⟩)
    go_roundw
    case rel => exact ⟨k + 1, by omega, by go_num, hB.out.trans (hb1.mono hB.out.size), fun j hj => by
     by_cases e : j = k
     ·subst e; exact HQ.out
     ·exact hF.out j (by omega)⟩
    case measure => simp [intOf]; omega
  ·obtain rfl : k = n := by omega
   clear hA hp
   go_wp2
   go_ret
   exact ⟨ret_int (firstIx_miss p k hF.out).symm, hB.out⟩
theorem cfRow_c (A : Option Addr) (n c : Nat) (vs : Nat → Value) (g : Nat) (lb : Array Value) (p : Nat → Bool) (w : World) (hn : n ≤ 9223372036854775807)
  (eg : ∀ args w, (callFunc g args).run Tryz.prog w = .ok (.enter g args) w)
  (hA : RowsAt w A n vs) (hp : PredB Tryz.prog g lb n (fun i => vs i) p w) :
  Calls Tryz.prog 152 #[.slice A n c, .func (.func g) #[] lb] w fun e w' => e = .returned (.bool ((List.range n).any p)) ∧ Below w.heap.size w w' := by
 rw [← firstIx_nonneg p n]
 go_enter Tryz.func152, Tryz.ntmps152
 go_wp2_with (go_at_call 174; refine (ixRow_c _ _ _ _ _ _ _ _ hn eg hA hp).mono ?_; rintro e w1 ⟨rfl, hb1⟩)
 go_ret
 exact ⟨rfl, hb1⟩
end Go.Proofs.YtlambeiafdpkgaaGreat

namespace Go.Proofs.YtlambeiafdpkgaaGreat
open Go Go.RowKit Go.Proofs Go.ChangeShapes Go.WideShapes Go.Deep
def RecsAt (w : World) (A : Option Addr) (n k : Nat) (V : Nat → Nat → Value) : Prop :=
 0 < n → ∃ b off, A = some ⟨b, off, none⟩ ∧ b < w.heap.size ∧ ∀ i, i < n → ∀ j, j < k → w.cell? ⟨b, off + i * k + j, none⟩ = some (V i j)
theorem RecsAt.below {w w' : World} {A : Option Addr} {n k : Nat} {V : Nat → Nat → Value} (h : RecsAt w A n k V) (hb : Below w.heap.size w w') : RecsAt w' A n k V := by
 intro hn
 obtain ⟨b, off, hA, hlt, hc⟩ := h hn
 exact ⟨b, off, hA, Nat.lt_of_lt_of_le hlt hb.size, fun i hi j hj => (hb.cell (p := ⟨b, off + i * k + j, none⟩) hlt).trans (hc i hi j hj)⟩
theorem RecsAt.cells {w : World} {A : Option Addr} {n k : Nat} {V : Nat → Nat → Value} (h : RecsAt w A n k V) : CellsAt w A (n * k) (fun q => V (q / k) (q % k)) := by
 intro hn
 have hn0 : 0 < n := Nat.pos_of_ne_zero fun h => by simp [h] at hn
 have hk0 : 0 < k := Nat.pos_of_ne_zero fun h => by simp [h] at hn
 obtain ⟨b, off, hA, hlt, hc⟩ := h hn0
 refine ⟨b, off, hA, hlt, fun q hq => ?_⟩
 have := hc (q / k) (Nat.div_lt_of_lt_mul (by rw [Nat.mul_comm]; exact hq)) (q % k) (Nat.mod_lt _ hk0)
 rw [show off + q / k * k + q % k = off + q by have := Nat.div_add_mod q k; rw [Nat.mul_comm] at this; omega] at this
 exact this
theorem RecsAt.of_owns {w : World} {base : Nat} {e : TypeId} {v : Value} {n k : Nat} {V : Nat → Nat → Value} (hk : 0 < k) (h : w.ownsRow base e k v n ((List.range (n * k)).map fun q => V (q / k) (q % k))) :
  ∃ A c, v = .slice A n c ∧ n ≤ c ∧ c ≤ 9223372036854775807 ∧ RecsAt w A n k V := by
 rcases h.2 with ⟨rfl, hz⟩ | ⟨g, cap, cur, rfl, h1, h2, h3, h4, h5, h6⟩
 ·exact ⟨none, 0, by rw [hz], by omega, by omega, fun hp => by omega⟩
 ·refine ⟨some ⟨g, 0, none⟩, cap, rfl, h3, by unfold maxLen at h4; omega, fun hp => ⟨g, 0, rfl, (Array.getElem?_eq_some_iff.1 h2).1, fun i hi j hj => ?_⟩⟩
  have hlt : i * k + j < n * k := by
   have : (i + 1) * k ≤ n * k := Nat.mul_le_mul_right k hi
   rw [Nat.add_mul] at this; omega
  have := h.cellAt (g := g) (i * k + j) hlt
  rw [Nat.zero_add, this]
  simp only [List.getElem?_map, List.getElem?_range hlt, Option.map_some]
  rw [Nat.mul_comm i k, Nat.mul_add_div hk, Nat.mul_add_mod, Nat.div_eq_of_lt hj, Nat.mod_eq_of_lt hj, Nat.add_zero]
section
variable {H : Type} {enc : TypeId × Value → H} {P : Program} {w : World} {base : Nat} {sp : Nat → Bool} {held : Bool}
theorem recs_trod {t e : TypeId} {k fuel : Nat} {c : Value} {x : DataW H × List MemPlace} (ht : P.underlying t = some (.slice e)) (hk : P.cellsOf e = k) (hk0 : 0 < k) (h : DataW.trod enc P w base sp held fuel t [c] = some x) :
  ∃ A n cp V, c = .slice A n cp ∧ n ≤ cp ∧ cp ≤ 9223372036854775807 ∧ (A = none → cp = 0) ∧ RecsAt w A n k V ∧ ∀ i, i < n → ∃ m y, DataW.trod enc P w base sp held m e ((List.range k).map (V i)) = some y := by
 rcases open_slice ht h with ⟨e, -⟩ | ⟨a, len, cap, m, n, D, Pl, e, -, h1, h2, h3, -, h4⟩
 ·obtain rfl : c = .slice none 0 0 := by simpa using e
  exact ⟨none, 0, 0, fun _ _ => undef, rfl, Nat.le_refl _, by omega, fun _ => rfl, fun hp => by omega, fun i hi => by omega⟩
 ·obtain rfl : c = .slice (some a) len cap := by simpa using e
  have hm : len ≤ m := by rw [h3]; split <;> omega
  rw [hk] at h4
  have hv : ∀ i, i < len → ∃ cs, w.cells? base (a.add (i * k)) k = some cs ∧ DataW.trod enc P w base sp held n _ cs = some (D i, Pl i) := fun i hi => h4 i (by omega)
  obtain ⟨Z, hZ⟩ := choose_lt (α := List Value) (p := fun i cs => w.cells? base (a.add (i * k)) k = some cs ∧ DataW.trod enc P w base sp held n _ cs = some (D i, Pl i)) hv
  have hc : ∀ i, i < len → (Z i).length = k ∧ ∀ j, j < k → w.cell? (a.add (i * k + j)) = some ((Z i).getD j undef) := by
   intro i hi
   obtain ⟨-, hl, hcell⟩ := World.cells?_some (hZ i hi).1
   refine ⟨hl, fun j hj => ?_⟩
   have := hcell j hj
   rw [Go.Deep.add_add] at this
   rw [this, List.getD, List.getElem?_eq_getElem (by omega)]
   rfl
  refine ⟨some a, len, cap, fun i j => (Z i).getD j undef, rfl, by omega, by unfold maxLen at h2; omega, (fun h => by cases h), fun hp => ?_, fun i hi => ⟨n, (D i, Pl i), ?_⟩⟩
  ·obtain ⟨b, off, spot⟩ := a
   have h00 := (hc 0 hp).2 0 hk0
   have hspot : spot = none := by simpa [Addr.add] using World.cell?_spot h00
   subst hspot
   refine ⟨b, off, rfl, ?_, fun i hi j hj => ?_⟩
   ·have := World.block_lt_of_cell? w _ h00; simpa [Addr.add] using this
   ·have := (hc i hi).2 j hj
    have hadd : (⟨b, off, none⟩ : Addr).add (i * k + j) = ⟨b, off + i * k + j, none⟩ := by unfold Addr.add; split <;> simp_all [Nat.add_assoc] <;> omega
    rwa [hadd] at this
  ·have : (List.range k).map (fun j => (Z i).getD j undef) = Z i := by
    apply List.ext_getElem?
    intro j
    have hl := (hc i hi).1
    by_cases hj : j < k
    ·simp [hj, List.getD, List.getElem?_eq_getElem (show j < (Z i).length by omega)]
    ·simp [hj, List.getElem?_eq_none (show (Z i).length ≤ j by omega)]
   rw [this]; exact (hZ i hi).2
end
end Go.Proofs.YtlambeiafdpkgaaGreat

namespace Go.Proofs.YtlambeiafdpkgaaGreat
open Go Go.RowKit Go.Proofs
def NoPanic (Q : Exit → Act → World → Prop) : Exit → Act → World → Prop
 | .panic _, _, _ => False
 | .normal, a, w => Q .normal a w
 | .exit i, a, w => Q (.exit i) a w
 | .goto i, a, w => Q (.goto i) a w
 | .ret, a, w => Q .ret a w
 | .outgrown, a, w => Q .outgrown a w
theorem NoPanic.imp {Q : Exit → Act → World → Prop} (e : Exit) (a : Act) (w : World) (h : NoPanic Q e a w) : Q e a w := by
 cases e <;> first | exact h | exact h.elim
section
variable {P : Program} {ops : Array Oper}
def sinkL (ops : Array Oper) (n : Nat) (late : List Nat) : Bool :=
 (List.range n).all fun i => late.contains i || (List.range (n + 1)).any fun j => decide (i < j) && !late.contains j && Region.waitsFor .any ops j i
def depArr (ops : Array Oper) (i : Nat) : Array Bool := ((List.range ops.size).map fun j => (depsOf ops i).contains j).toArray
def freeL (ops : Array Oper) (late : List Nat) : Bool := late.all fun i => Region.free .any ops (depArr ops i) i
def specL (ops : Array Oper) (n : Nat) (late : List Nat) : Bool :=
 decide (n < ops.size) && distB ops n && forwB ops n && sinkL ops n late && Region.chainB .any ops n && Region.seqB .any ops (ops.size - n) n (headDone ops.size n)
  && Region.noSelect ops && freeL ops late && late.all fun i => decide (i < n)
theorem tail_waitsL {n : Nat} {late : List Nat} {listed : Array Bool} (hs : sinkL ops n late = true) (hc : Region.chainB .any ops n = true) (hl : ∀ i ∈ late, i < n) (hn : n < ops.size) (inv : HeadInv .any ops n listed) :
  ∀ (d i : Nat), n - i = d → i < n → late.contains i = false → listed.getD i true = false → ∀ t, n ≤ t → t ∉ Region.ready .any ops listed := by
 intro d
 induction d using Nat.strongRecOn with
 | _ d ih =>
  intro i hd hi hla hun t ht hr
  obtain ⟨_, ot, hot, hall⟩ := mem_ready.1 hr
  have htlt : t < ops.size := (Array.getElem?_eq_some_iff.1 hot).1
  by_cases htn : t = n
  ·subst htn
   have h1 := List.all_eq_true.1 hs i (List.mem_range.2 hi)
   rw [hla, Bool.false_or] at h1
   obtain ⟨j, hj, hj2⟩ := List.any_eq_true.1 h1
   simp only [Bool.and_eq_true, decide_eq_true_eq, Bool.not_eq_true'] at hj2
   obtain ⟨oj, hoj, e, he, hb, hon⟩ := Region.waitsFor_spec hj2.2
   have hjle : j ≤ t := by have := List.mem_range.1 hj; omega
   by_cases hjt : j = t
   ·subst hjt
    have : oj = ot := Option.some.inj (hoj.symm.trans hot)
    subst this
    have h2 := hall e he hb
    rw [hon, getD_both hun] at h2
    cases h2
   ·cases hl : listed.getD j false with
    | true =>
     have h2 := inv.closed j oj hoj hl e he hb
     rw [hon, getD_both hun] at h2
     cases h2
    | false =>
     have hjs : j < listed.size := by rw [inv.size]; omega
     exact ih (t - j) (by omega) j rfl (by omega) hj2.1.2 (getD_in hjs hl) t (Nat.le_refl _) hr
  ·have h1 := List.all_eq_true.1 hc t (List.mem_range.2 htlt)
   simp only [Bool.or_eq_true, decide_eq_true_eq] at h1
   rcases h1 with h1 | h1
   ·omega
   ·obtain ⟨o', ho', e, he, hb, hon⟩ := Region.waitsFor_spec h1
    have : o' = ot := Option.some.inj (ho'.symm.trans hot)
    subst this
    have h2 := hall e he hb
    rw [hon, getD_both (inv.tail (t - 1) (by omega) (by omega))] at h2
    cases h2
theorem any_of_specsL {Q : Exit → Act → World → Prop} {R : Nat → Value → World → Prop} {fresh : Nat → Bool} {n : Nat} {late : List Nat} {a : Act} {w : World} {tail : List Oper}
  (hQ : ∀ c a w, ¬ Q (.panic c) a w) (hB : specL ops n late = true) (hR : ∀ k v w w', Below w.heap.size w w' → R k v w → R k v w') (hfl : ∀ i ∈ late, fresh i = false)
  (hop : ∀ i oi, i < n → late.contains i = false → ops[i]? = some oi → ∀ (u : Nat → Value) (w1 : World), Below w.heap.size w w1 → (∀ k ∈ depsOf ops i, k < n → R k (u k) w1) → wpList P ops (EndOp Q R fresh ops i (putAll ops a u n) w1) [oi] (putAll ops a u n) w1)
  (hlt : ∀ i oi, late.contains i = true → ops[i]? = some oi → ∀ (u : Nat → Value) (w1 : World), Below w.heap.size w w1 → (∀ k ∈ depsOf ops i, k < n → R k (u k) w1) → ∃ v, Yields P ops oi v (putAll ops a u n) ∧ R i v w1)
  (htl : ∀ j, tail[j]? = ops[n + j]?) (htn : tail.length = ops.size - n)
  (htail : ∀ (u : Nat → Value) (w1 : World), Below w.heap.size w w1 → (∀ k, k < n → R k (u k) w1) → (∀ i j, i < n → j < n → i ≠ j → fresh i = true → fresh j = true → u i ≠ u j) → wpList P ops Q tail (putAll ops a u n) w1) :
  ∀ (m : Nat) (listed : Array Bool) (u : Nat → Value) (w1 : World), HeadInv .any ops n listed → ((List.range n).filter fun i => !listed.getD i false).length = m →
   SpecInv ops R fresh n listed u w1 → Below w.heap.size w w1 → wpAny P .any ops Q (m + (ops.size - n)) listed (putAll ops a u n) w1 := by
 simp only [specL, Bool.and_eq_true, decide_eq_true_eq, List.all_eq_true] at hB
 obtain ⟨⟨⟨⟨⟨⟨⟨⟨hn, hdist⟩, hforw⟩, hs⟩, hc⟩, hseq⟩, hsel⟩, hfree⟩, hlate⟩ := hB
 intro m
 induction m with
 | zero =>
  intro listed u w1 inv hm sinv hb
  have all : ∀ i, i < n → listed.getD i false = true := by
   intro i hi
   have h0 := List.eq_nil_of_length_eq_zero hm
   rw [List.filter_eq_nil_iff] at h0
   have := h0 i (List.mem_range.2 hi)
   simpa using this
  have e := headDone_eq inv.size (by omega) all inv.tail
  subst e
  have := wpAny_of_seq (md := .any) (Q' := Q) tail n (headDone ops.size n) (putAll ops a u n) w1 htl (by rw [htn]; exact hseq)
   (htail u w1 hb (fun k hk => sinv.r k hk (all k hk)) (fun i j hi hj hij => sinv.d i j hi hj hij (all i hi) (all j hj)))
  rw [htn] at this
  rw [Nat.zero_add]
  exact this
 | succ m ih =>
  intro listed u w1 inv hm sinv hb
  obtain ⟨i0, hi0⟩ : ∃ i0, i0 ∈ (List.range n).filter fun i => !listed.getD i false := by
   cases hl : (List.range n).filter fun i => !listed.getD i false with
   | nil => rw [hl] at hm; simp at hm
   | cons x xs => exact ⟨x, by simp⟩
  obtain ⟨hi0n, hi0l⟩ := List.mem_filter.1 hi0
  have hi0n := List.mem_range.1 hi0n
  have deps : ∀ i oi, ops[i]? = some oi → i ∈ Region.ready .any ops listed → ∀ k ∈ depsOf ops i, k < n → R k (u k) w1 := by
   intro i oi hoi hi k hk hkn
   obtain ⟨hil, oi', hoi', hall⟩ := mem_ready.1 hi
   have : ∃ e ∈ oi'.after.toList, Region.binds .any e = true ∧ e.on = k := by
    unfold depsOf at hk; rw [hoi'] at hk
    simp only [List.mem_map, List.mem_filter] at hk
    obtain ⟨e, ⟨he, hbe⟩, rfl⟩ := hk
    exact ⟨e, he, hbe, rfl⟩
   obtain ⟨e, he, hbe, rfl⟩ := this
   exact sinv.r _ hkn (hall e (by simpa using he) hbe)
  have step : ∀ i, i < n → i ∈ Region.ready .any ops listed → ∀ v w', Below w1.heap.size w1 w' → R i v w' → (fresh i = true → ∃ g, v = .pointer (some ⟨g, 0, none⟩) ∧ w1.heap.size ≤ g ∧ g < w'.heap.size) →
    wpAny P .any ops Q (m + (ops.size - n)) (listed.setIfInBounds i true) ((putAll ops a u n).put (dstOf ops i) v) w' := by
   intro i hin hi v w' hb' hv hf
   have hil := (mem_ready.1 hi).1
   rw [← putAll_upd n hin hdist]
   have hl' : ∀ k, k ≠ i → (listed.setIfInBounds i true).getD k false = listed.getD k false := fun k hk => getD_set_ne false (Ne.symm hk)
   refine ih (listed.setIfInBounds i true) (upd u i v) w' (inv.set hi hin) ?_ ⟨?_, ?_, ?_⟩ (bthen hb hb')
   ·have := cnt_set (n := n) (p := fun k => !listed.getD k false) (q := fun k => !(listed.setIfInBounds i true).getD k false) hin (by simpa using getD_both hil) (by rw [getD_set_self (by rw [inv.size]; omega)]; rfl) (fun k hk => by rw [hl' k hk])
    omega
   ·intro k hk hkl
    by_cases e : k = i
    ·subst e; rw [upd_same]; exact hv
    ·rw [upd_ne e]; rw [hl' k e] at hkl; exact hR _ _ _ _ hb' (sinv.r k hk hkl)
   ·intro k hk hkl hfk
    by_cases e : k = i
    ·subst e; rw [upd_same]; obtain ⟨g, g1, g2, g3⟩ := hf hfk; exact ⟨g, g1, g3⟩
    ·rw [upd_ne e]; rw [hl' k e] at hkl; obtain ⟨g, g1, g2⟩ := sinv.f k hk hkl hfk; exact ⟨g, g1, Nat.lt_of_lt_of_le g2 hb'.size⟩
   ·intro j k hj hk hjk hjl hkl hfj hfk
    by_cases e : j = i
    ·subst e
     have e2 : k ≠ j := fun h => hjk h.symm
     rw [upd_same, upd_ne e2]; rw [hl' k e2] at hkl
     obtain ⟨g, g1, g2, g3⟩ := hf hfj
     obtain ⟨g', g1', g2'⟩ := sinv.f k hk hkl hfk
     rw [g1, g1']; intro h; injection h with h; injection h with h; injection h with h; omega
    ·by_cases e2 : k = i
     ·subst e2
      rw [upd_same, upd_ne e]; rw [hl' j e] at hjl
      obtain ⟨g, g1, g2, g3⟩ := hf hfk
      obtain ⟨g', g1', g2'⟩ := sinv.f j hj hjl hfj
      rw [g1, g1']; intro h; injection h with h; injection h with h; injection h with h; omega
     ·rw [upd_ne e, upd_ne e2]; rw [hl' j e] at hjl; rw [hl' k e2] at hkl
      exact sinv.d j k hj hk hjk hjl hkl hfj hfk
  have low : ∀ i, i < n → listed.getD i false = false → ∃ j, j < n ∧ listed.getD j true = false ∧ j ∈ Region.ready .any ops listed := by
   intro i
   induction i using Nat.strongRecOn with
   | _ i ih2 =>
    intro hin hl
    have hoi : ops[i]? = some ops[i] := Array.getElem?_eq_getElem (by omega)
    by_cases hall : ∀ e ∈ (ops[i]'(by omega)).after, Region.binds .any e = true → listed.getD e.on false = true
    ·have hun := getD_in (by rw [inv.size]; omega) hl
     exact ⟨i, hin, hun, mem_ready.2 ⟨hun, ops[i], hoi, hall⟩⟩
    ·have hex : ∃ e ∈ (ops[i]'(by omega)).after, Region.binds .any e = true ∧ listed.getD e.on false = false := by
      refine Classical.byContradiction fun hne => hall fun e he hbe => ?_
      cases hx : listed.getD e.on false with
      | true => rfl
      | false => exact absurd ⟨e, he, hbe, hx⟩ hne
     obtain ⟨e, he, hbe, hx⟩ := hex
     have hlt := forwB_lt hforw hin hoi (List.mem_map.2 ⟨e, List.mem_filter.2 ⟨by simpa using he, hbe⟩, rfl⟩)
     exact ih2 e.on hlt (by omega) hx
  rw [show m + 1 + (ops.size - n) = (m + (ops.size - n)) + 1 by omega]
  by_cases hex : ∃ i, late.contains i = true ∧ i ∈ Region.ready .any ops listed
  ·obtain ⟨i, hil, hir⟩ := hex
   have hmem : i ∈ late := by simpa using hil
   have hin : i < n := by simpa using hlate i hmem
   obtain ⟨_, oi, hoi, _⟩ := mem_ready.1 hir
   obtain ⟨v, hy, hv⟩ := hlt i oi hil hoi u w1 hb (deps i oi hoi hir)
   have hd : dstOf ops i = oi.dst := by simp [dstOf, hoi]
   refine wpAny_first hoi (Region.noSelect_spec hsel) (fun c a w h => absurd h (hQ _ _ _)) _ listed _ w1 (fun j oj hj hne hjl hno => ?_) hir hy ?_
   ·have hjs := (Array.getElem?_eq_some_iff.1 hj).1
    refine Region.free_spec hoi (List.all_eq_true.1 hfree i hmem) j oj hj hne ?_ hno
    have hnd : (depsOf ops i).contains j = false := by
     cases hx : (depsOf ops i).contains j with
     | false => rfl
     | true =>
      exfalso
      have hx' : j ∈ depsOf ops i := by simpa using hx
      obtain ⟨_, oi', hoi', hall⟩ := mem_ready.1 hir
      unfold depsOf at hx'; rw [hoi'] at hx'
      simp only [List.mem_map, List.mem_filter] at hx'
      obtain ⟨e, ⟨he, hbe⟩, rfl⟩ := hx'
      have h2 := hall e (by simpa using he) hbe
      rw [getD_both hjl] at h2; cases h2
    unfold depArr
    simp only [Array.getD_eq_getD_getElem?, List.getElem?_toArray, List.getElem?_map]
    rw [List.getElem?_range hjs]
    simpa using hnd
   ·rw [← hd]
    exact step i hin hir v w1 (Below.refl _ _) hv (fun h => by rw [hfl i hmem] at h; cases h)
  ·have notlate : ∀ i, i ∈ Region.ready .any ops listed → late.contains i = false := by
    intro i hi
    cases h : late.contains i with
    | false => rfl
    | true => exact absurd ⟨i, h, hi⟩ hex
   obtain ⟨j0, hj0n, hj0u, hj0r⟩ := low i0 hi0n (by simpa using hi0l)
   have key : ∀ i ∈ Region.ready .any ops listed, i < n := fun i hi => Nat.lt_of_not_le fun h => tail_waitsL hs hc (fun i hi => by simpa using hlate i hi) hn inv _ j0 rfl hj0n (notlate j0 hj0r) hj0u i h hi
   refine ⟨fun h0 => (by rw [h0] at hj0r; cases hj0r), fun i hi => ?_⟩
   have hin := key i hi
   obtain ⟨_, oi, hoi, _⟩ := mem_ready.1 hi
   exact wpOp_of_end hoi (hop i oi hin (notlate i hi) hoi u w1 hb (deps i oi hoi hi)) fun v w' hb' hv hf => step i hin hi v w' hb' hv hf
def OpOk (P : Program) (Q : Exit → Act → World → Prop) (R : Nat → Value → World → Prop) (fresh : Nat → Bool) (late : List Nat) (ops : Array Oper) (i : Nat) (oi : Oper) (A : Act) (w1 : World) : Prop :=
 if late.contains i = true then ∃ v, Yields P ops oi v A ∧ R i v w1 else wpList P ops (EndOp (NoPanic Q) R fresh ops i A w1) [oi] A w1
theorem OpOk.late {Q : Exit → Act → World → Prop} {R : Nat → Value → World → Prop} {fresh : Nat → Bool} {late : List Nat} {i : Nat} {oi : Oper} {A : Act} {w1 : World} (hl : late.contains i = true) (h : ∃ v, Yields P ops oi v A ∧ R i v w1) : OpOk P Q R fresh late ops i oi A w1 := by
 unfold OpOk; rw [if_pos hl]; exact h
theorem OpOk.now {Q : Exit → Act → World → Prop} {R : Nat → Value → World → Prop} {fresh : Nat → Bool} {late : List Nat} {i : Nat} {oi : Oper} {A : Act} {w1 : World} (hl : late.contains i = false) (h : wpList P ops (EndOp (NoPanic Q) R fresh ops i A w1) [oi] A w1) : OpOk P Q R fresh late ops i oi A w1 := by
 unfold OpOk; rw [if_neg (by rw [hl]; decide)]; exact h
theorem wp_region_specL {id : Nat} {Q : Exit → Act → World → Prop} {a : Act} {w : World} {l : List Oper} (n : Nat) (late : List Nat) (R : Nat → Value → World → Prop) (fresh : Nat → Bool)
  (hm : P.follows .mixedOrders = true) (hB : specL l.toArray n late = true) (hfl : ∀ i ∈ late, fresh i = false) (hR : ∀ k v w w', Below w.heap.size w w' → R k v w → R k v w')
  (hop : allOps (fun i oi => ∀ (u : Nat → Value) (A : Act) (w1 : World), A = putAll l.toArray a u n → Below w.heap.size w w1 → (∀ k, k < n → (depsOf l.toArray i).contains k = true → R k (u k) w1) → OpOk P Q R fresh late l.toArray i oi A w1) 0 (l.take n))
  (htail : ∀ (u : Nat → Value) (A : Act) (w1 : World), A = putAll l.toArray a u n → Below w.heap.size w w1 → (∀ k, k < n → R k (u k) w1) → (∀ i j, i < n → j < n → i ≠ j → fresh i = true → fresh j = true → u i ≠ u j) → wpList P l.toArray (NoPanic Q) (l.drop n) A w1) :
  (Code.region id l.toArray true).wp P Q a w := by
 have hB' := hB
 simp only [specL, Bool.and_eq_true, decide_eq_true_eq, List.all_eq_true] at hB'
 have hn : n < l.toArray.size := hB'.1.1.1.1.1.1.1.1
 have hlate := hB'.2
 have hn' : n < l.length := by simpa using hn
 refine Code.wp_mono (Q := NoPanic Q) NoPanic.imp ?_
 refine wp_region_any hm ?_
 have inv0 : HeadInv .any l.toArray n (Array.replicate l.toArray.size false) :=
  ⟨by simp, fun j oj _ hl => (by rw [getD_replicate_false] at hl; cases hl), fun t _ ht => getD_in (by simpa using ht) (getD_replicate_false _ _)⟩
 have hcnt : ((List.range n).filter fun i => !(Array.replicate l.toArray.size false).getD i false).length = n := by
  rw [List.filter_eq_self.2 (fun i _ => by rw [getD_replicate_false]; rfl), List.length_range]
 have ok : ∀ i oi, i < n → l.toArray[i]? = some oi → ∀ (u : Nat → Value) (w1 : World), Below w.heap.size w w1 → (∀ k ∈ depsOf l.toArray i, k < n → R k (u k) w1) → OpOk P Q R fresh late l.toArray i oi (putAll l.toArray a u n) w1 := fun i oi hi ho u w1 hb hd => by
  have := allOps_get _ _ hop i oi (by simpa [List.getElem?_take, hi] using ho) u (putAll l.toArray a u n) w1 rfl hb (fun k hk hc => hd k (by simpa using hc) hk)
  rw [Nat.zero_add] at this
  exact this
 have := any_of_specsL (P := P) (Q := NoPanic Q) (R := R) (fresh := fresh) (n := n) (late := late) (a := a) (w := w) (tail := l.drop n) (fun c a w h => h) hB hR hfl
  (fun i oi hi hl ho u w1 hb hd => by have := ok i oi hi ho u w1 hb hd; unfold OpOk at this; rwa [if_neg (by rw [hl]; decide)] at this)
  (fun i oi hl ho u w1 hb hd => by
   have := ok i oi (by simpa using hlate i (by simpa using hl)) ho u w1 hb hd
   unfold OpOk at this; rwa [if_pos hl] at this)
  (fun j => by simp [List.getElem?_drop]) (by simp) (fun u w1 => htail u _ w1 rfl) n
  (Array.replicate l.toArray.size false) (slotOf l.toArray a) w.drew inv0 hcnt ⟨fun k _ hl => (by rw [getD_replicate_false] at hl; cases hl), fun k _ hl => (by rw [getD_replicate_false] at hl; cases hl), fun j k _ _ _ hl => (by rw [getD_replicate_false] at hl; cases hl)⟩ ((Below.refl _ _).drew)
 rw [putAll_slot, show n + (l.toArray.size - n) = l.toArray.size by omega] at this
 exact this
theorem yields_extract {o : Oper} {a : Act} (hg : o.guard = none) (x : Operand) (k : Nat) (ho : o.op = .extract x k) (vs : Array Value) (hx : a.eval x = .tuple vs) (v : Value) (hv : vs[k]? = some v) : Yields P ops o v a := by
 refine .inl ⟨by simp [Region.wanted, hg], fun w => ?_⟩
 simp only [execOp, ho, hx]
 simp [Instr.extract, hv, Sem.run_bind, Sem.run_pure, Result.andThen_ok]
end
end Go.Proofs.YtlambeiafdpkgaaGreat

namespace Go.Proofs.YtlambeiafdpkgaaGreat
open Go Go.RowKit Go.Proofs
section
variable {P : Program} {ops : Array Oper}
end
end Go.Proofs.YtlambeiafdpkgaaGreat

namespace Go.Proofs.YtlambeiafdpkgaaGreat
open Go Go.RowKit Go.Proofs
section
variable {P : Program} {ops : Array Oper} {rest : List Oper} {o : Oper} {a : Act} {w : World}
theorem wpl_row_g {Q : Exit → Act → World → Prop} (hgd : Region.wanted o (yielded ops a.tmps) = true) (ty : TypeId) (x : Operand) (ho : o.op = .load ty x)
  (g : Nat) (hx : a.eval x = .pointer (some ⟨g, 0, none⟩)) (cs : Array Value) (n : Nat) (hB : w.heap[g]? = some (.cells cs ty (0, 0)))
  (hr : RowTy P ty n) (hn : cs.size = n)
  (h : wpList P ops Q rest (a.put o.dst (.agg cs)) w) : wpList P ops Q (o :: rest) a w := by
 obtain ⟨hu, hi⟩ := hr
 cases hd : P.underlying ty with
 | none => rw [hd] at hu; cases hu
 | some d =>
  rw [hd] at hu
  refine wpList_step fun K hK => ?_
  simp only [hgd, if_true]
  unfold Oper.wp execOp
  simp only [ho, hx, Instr.loadAt, Instr.sureAddr, Sem.run_bind, Sem.run_pure, Result.andThen_ok, run_loadVar_row w g ty ty cs (0, 0) d hB hd (by cases d <;> first | rfl | (simp at hu)) (by rw [hi, hn]), Oper.upon]
  exact hK _ _ h
end
end Go.Proofs.YtlambeiafdpkgaaGreat

namespace Go.Proofs.YtlambeiafdpkgaaGreat
open Go Go.RowKit Go.Proofs
section
variable {P : Program} {ops : Array Oper} {rest : List Oper} {o : Oper} {a : Act} {w : World}
theorem wpl_mid_g {Q : Exit → Act → World → Prop} (hgd : Region.wanted o (yielded ops a.tmps) = true) (ty : TypeId) (x : Operand) (ho : o.op = .load ty x)
  (g off : Nat) (hx : a.eval x = .pointer (some ⟨g, off, none⟩)) (tb : TypeId) (big cs : Array Value) (n : Nat) (hB : w.heap[g]? = some (.cells big tb (0, 0)))
  (hr : RowTy P ty n) (pre post : List Value) (hpre : pre.length = off) (hcs : big.toList = pre ++ (cs.toList ++ post)) (hn : cs.size = n)
  (h : wpList P ops Q rest (a.put o.dst (.agg cs)) w) : wpList P ops Q (o :: rest) a w := by
 refine wpList_step fun K hK => ?_
 simp only [hgd, if_true]
 unfold Oper.wp execOp
 simp only [ho, hx, Instr.loadAt, Instr.sureAddr, Sem.run_bind, Sem.run_pure, Result.andThen_ok, run_mid hB hr pre post hpre hcs hn, Oper.upon]
 exact hK _ _ h
end
end Go.Proofs.YtlambeiafdpkgaaGreat
