import Derived.Test.YtlambeiafdpkgaaGreatTcC
import Derived.Test.YtlambeiafdpkgaaGreatWeG
set_option linter.all false
namespace Go.Proofs.YtlambeiafdpkgaaGreat
open Go Go.RowKit Go.Proofs
set_option maxRecDepth 100000
set_option maxHeartbeats 4000000
def BoL (w : World) (v : Value) (n : Nat) (P : Nat → Bool) : Prop := ∃ A c, v = .slice A n c ∧ n ≤ c ∧ (0 < n → ∃ b off, A = some ⟨b, off, none⟩ ∧ b < w.heap.size ∧ ∀ k, k < n → w.cell? ⟨b, off + k, none⟩ = some (.bool (P k)))
theorem BoL.below {w w' : World} {v : Value} {n : Nat} {P : Nat → Bool} (h : BoL w v n P) (hb : Below w.heap.size w w') : BoL w' v n P := by
 obtain ⟨A, c, e, hq, h⟩ := h
 refine ⟨A, c, e, hq, fun hn => ?_⟩
 obtain ⟨b, off, e, hl, h⟩ := h hn
 exact ⟨b, off, e, Nat.lt_of_lt_of_le hl hb.size, fun k hk => (hb.cell (p := ⟨b, off + k, none⟩) hl).trans (h k hk)⟩
theorem BoL.congr {w : World} {v : Value} {n : Nat} {P Q : Nat → Bool} (h : BoL w v n P) (he : ∀ k, k < n → P k = Q k) : BoL w v n Q := by
 obtain ⟨A, c, e, hq, h⟩ := h
 refine ⟨A, c, e, hq, fun hn => ?_⟩
 obtain ⟨b, off, e, hl, h⟩ := h hn
 exact ⟨b, off, e, hl, fun k hk => by rw [← he k hk]; exact h k hk⟩
theorem BoL.of_owns {w : World} {base : Nat} {T : TypeId} {v : Value} {n : Nat} {P : Nat → Bool} (h : w.ownsRow base T 1 v n ((List.range n).map fun j => .bool (P j))) : BoL w v n P := by
 rcases h.2 with ⟨e, hz⟩ | ⟨g, cap, cur, hv, hb, hh, r, -⟩
 ·obtain rfl : n = 0 := hz
  exact ⟨none, 0, e, Nat.le_refl _, fun h => absurd h (by omega)⟩
 ·subst hv
  refine ⟨some ⟨g, 0, none⟩, cap, rfl, r, fun hn => ⟨g, 0, rfl, (Array.getElem?_eq_some_iff.1 hh).1, fun k hk => ?_⟩⟩
  rw [Nat.zero_add]
  have := h.cellAt (g := g) k (by omega)
  rw [this, List.getElem?_map, List.getElem?_range hk]
  rfl
def exB (P : Nat → Bool) (b : Bool) (n : Nat) : Bool := (List.range n).any fun j => P j == b
theorem exB_succ (P : Nat → Bool) (b : Bool) (n : Nat) : exB P b (n + 1) = (exB P b n || (P n == b)) := by simp [exB, List.range_succ]
theorem exB_hit {P : Nat → Bool} {b : Bool} {n k : Nat} (hk : k < n) (h : P k = b) : exB P b n = true := by
 unfold exB
 rw [List.any_eq_true]
 exact ⟨k, List.mem_range.2 hk, by simp [h]⟩
theorem tcIndex_c (v : Value) (n : Nat) (P : Nat → Bool) (b : Bool) (w : World) (h : BoL w v n P) (hn : n ≤ 1000) :
  Calls Tryz.prog 121 #[v, .bool b] w fun e w' => (∃ i : Int, e = .returned (.int .i64 i) ∧ decide (i ≥ 0) = exB P b n) ∧ w = w' := by
 obtain ⟨A, c, rfl, -, hA⟩ := h
 have HA := hI9 hA
 clear hA
 go_enter Tryz.func121, Tryz.ntmps121
 go_wp2
 go_loopw [5, 8] (fun _ s8 wr => ∃ k : Nat, k ≤ n ∧ s8 = .int .i64 k ∧ w = wr ∧ Hid (exB P b k = false)) (fun _ i _ => n - (intOf i).toNat)
 case atStart => exact ⟨0, by omega, rfl, rfl, hI9 rfl⟩
 case round =>
  obtain ⟨k, hk, rfl, rfl, HE⟩ := hrel
  by_cases hlt : k < n
  ·obtain ⟨bl, off, rfl, hb, hc⟩ := HA.out (by omega)
   have h0 := hc k hlt
   have HS := hI9 (exB_succ P b k)
   cases hq : P k == b
   ·rw [hq] at HS
    have HS2 := hI9 (show exB P b (k + 1) = false from HS.out.trans (by simp [HE.out]))
    have hq2 : (b == P k) = false := by cases hb : b <;> cases hp : P k <;> simp_all
    clear HA hc HS hq
    generalize P k = pk at *
    go_wp2
    go_roundw
    case rel => exact ⟨k + 1, by omega, by go_num, by first | trivial | rfl, HS2⟩
    case measure => simp [intOf]; omega
   ·have HS2 := hI9 (exB_hit (n := n) hlt (show P k = b from by simpa using hq))
    have hq2 : (b == P k) = true := by cases hb : b <;> cases hp : P k <;> simp_all
    clear HA hc HS hq
    generalize P k = pk at *
    go_wp2
    go_ret
    exact ⟨⟨_, rfl, by rw [HS2.out]; try simp⟩, by first | trivial | rfl⟩
  ·obtain rfl : k = n := by omega
   clear HA
   go_wp2
   go_ret
   exact ⟨⟨_, rfl, by rw [HE.out]; try simp⟩, by first | trivial | rfl⟩
theorem tcContains_c (v : Value) (n : Nat) (P : Nat → Bool) (b : Bool) (w : World) (h : BoL w v n P) (hn : n ≤ 1000) :
  Calls Tryz.prog 78 #[v, .bool b] w fun e w' => e = .returned (.bool (exB P b n)) ∧ w = w' := by
 have HI := hI9 (tcIndex_c v n P b w h hn)
 clear h
 go_enter Tryz.func78, Tryz.ntmps78
 go_wp2_with (first | (go_at_call 121; refine HI.out.mono ?_; rintro e w1 ⟨⟨i, rfl, hi⟩, rfl⟩))
 go_ret
 exact ⟨by rw [← hi]; rfl, rfl⟩
theorem Tryz.tcBoU : Tryz.prog.underlying 127 = some (.slice 4) := by kernel_rfl
theorem Tryz.tcBoI : (Tryz.prog.info? 4).map (fun i => (i.zero, i.size, i.bytes)) = some (some (.bool false), 1, 1) := by kernel_rfl
theorem wpl_appBo {ops : Array Oper} {rest : List Oper} {o : Oper} {a : Act} {w : World} {Q : Exit → Act → World → Prop} (hgd : o.guard = none) (s x : Operand)
  (ho : o.op = .call { callee := .builtin .append, args := #[s, x], argTypes := #[127, 127] }) (base : Nat) (v : Value) (n : Nat) (P : Nat → Bool) (hs : a.eval s = v) (hown : w.ownsRow base 4 1 v n ((List.range n).map fun j => .bool (P j)))
  (g : Nat) (hx : a.eval x = .slice (some ⟨g, 0, none⟩) 1 1) (hc : w.cell? ⟨g, 0, none⟩ = some (.bool (P n))) (h40 : n ≤ 40) (hbase : base ≤ w.heap.size)
  (h : ∀ v' w', w'.ownsRow base 4 1 v' (n + 1) ((List.range (n + 1)).map fun j => .bool (P j)) → w.grownBy w' v.ownBlock → wpList Tryz.prog ops Q rest (a.put o.dst v') w') : wpList Tryz.prog ops Q (o :: rest) a w := by
 have hI := Tryz.tcBoI
 cases hi : Tryz.prog.info? 4 with
 | none => rw [hi] at hI; cases hI
 | some i =>
  rw [hi] at hI
  simp only [Option.map_some, Option.some.injEq, Prod.mk.injEq] at hI
  refine wpList_append_own w hgd s x 127 ho base 4 i (.bool false) 1 1 Tryz.tcBoU hi hI.1 hI.2.1 hI.2.2 rfl (by decide) v n ((List.range n).map fun j => .bool (P j)) hs hown ⟨g, 0, none⟩ 1 1 [.bool (P n)] hx rfl ?_ ?_ (by unfold maxLen; omega) (by omega) hbase ?_
  ·intro j u hj
   match j, hj with
   | 0, hj =>
    have : u = .bool (P n) := by simpa using hj.symm
    subst this
    exact hc
  ·intro u hu
   have : u = .bool (P n) := by simpa using hu
   subst this
   rfl
  ·intro v' w' h1 h2 h3
   exact h v' w' (by rw [List.range_succ, List.map_append]; exact h1) h2
structure PiK (w : World) (k : Nat) (P : Nat → Bool) (v : Value) (wr : World) : Prop where
 b : Below w.heap.size w wr
 o : wr.ownsRow w.heap.size 4 1 v k ((List.range k).map fun j => .bool (P j))
 z : k = 0 → v = .slice none 0 0
theorem PiK.grow {w wr w2 : World} {k : Nat} {P : Nat → Bool} {v : Value} (h : PiK w k P v wr) (hb : Below wr.heap.size wr w2) : PiK w k P v w2 := ⟨bthen h.b hb, ownsRow_below h.o hb, h.z⟩
theorem PiK.take {w wr w2 : World} {k : Nat} {P : Nat → Bool} {v v' : Value} (h : PiK w k P v wr) (h1 : w2.ownsRow w.heap.size 4 1 v' (k + 1) ((List.range (k + 1)).map fun j => .bool (P j))) (h2 : wr.grownBy w2 v.ownBlock) : PiK w (k + 1) P v' w2 :=
 ⟨h.b.trans (below_grown h2 h.b.size (fun b hb => owns_base h.o hb)), h1, fun h => absurd h (by omega)⟩
theorem tcPickA_c (v : Value) (n : Nat) (X : Nat → Int) (P : Nat → Bool) (bv : Value) (w : World) (h : IL w v n X) (hn : n ≤ 16)
  (hp : ∀ (j : Nat) (W : World), j < n → Below w.heap.size w W → Calls Tryz.prog 76 #[.int .i64 (X j), bv] W fun e w' => e = .returned (.bool (P j)) ∧ W = w')
  (eg : ∀ args w, (callFunc 76 args).run Tryz.prog w = .ok (.enter 76 args) w) :
  Calls Tryz.prog 75 #[v, .func (.func 76) #[] #[bv]] w fun e w' => ∃ v', e = .returned v' ∧ Below w.heap.size w w' ∧ BoL w' v' n P ∧ (n = 0 → v' = .slice none 0 0) := by
 obtain ⟨A, c, rfl, hA⟩ := h
 have HA := hI9 hA
 have HP := hI9 hp
 clear hA hp
 go_enter Tryz.func75, Tryz.ntmps75
 go_wp2
 go_loopw [4, 6, 9] (fun s4 _ s9 wr => ∃ k : Nat, k ≤ n ∧ s9 = .int .i64 k ∧ Hid (PiK w k P s4 wr)) (fun _ _ i _ => n - (intOf i).toNat)
 case atStart => exact ⟨0, by omega, rfl, hI9 ⟨Below.refl _ _, World.ownsRow_nil _ _ _ _, fun _ => rfl⟩⟩
 case round =>
  obtain ⟨k, hk, rfl, K0⟩ := hrel
  by_cases hlt : k < n
  ·obtain ⟨bl, off, rfl, hb, hc⟩ := HA.out (by omega)
   have h0 := (K0.out.b.cell (p := ⟨bl, off + k, none⟩) hb).trans (hc k hlt)
   have hcall := HP.out k wr hlt K0.out.b
   clear HA hc HP
   generalize X k = x at *
   go_wp2_with (first | (go_at_fn 76; refine hcall.mono ?_; rintro e w1 ⟨rfl, rfl⟩) | (at_builtin; go_loud (refine wpl_appBo rfl _ _ rfl w.heap.size _ k P rfl (K0.out.o.alloc _) _ rfl ?b1 (by omega) ?c1 ?_)))
   case b1 => simp
   case c1 => have := K0.out.b.size; first | omega | (simp; omega)
   ·intro v2 w3 O2 G2
    have K2 := hI9 ((K0.out.grow (bal (Below.refl _ _) _)).take (by rw [List.range_succ, List.map_append]; exact O2) G2)
    clear O2 G2
    go_wp2
    go_roundw
    case rel => exact ⟨k + 1, by omega, by go_num, K2⟩
    case measure => simp [intOf]; omega
  ·obtain rfl : k = n := by omega
   clear HA
   go_wp2
   go_ret
   exact ⟨_, rfl, K0.out.b, BoL.of_owns K0.out.o, K0.out.z⟩
theorem tcPickB_c (v : Value) (n : Nat) (X : Nat → Int) (P : Nat → Bool) (bv : Value) (w : World) (h : IL w v n X) (hn : n ≤ 16)
  (hp : ∀ (j : Nat) (W : World), j < n → Below w.heap.size w W → Calls Tryz.prog 77 #[bv, .int .i64 (X j)] W fun e w' => e = .returned (.bool (P j)) ∧ W = w')
  (eg : ∀ args w, (callFunc 77 args).run Tryz.prog w = .ok (.enter 77 args) w) :
  Calls Tryz.prog 75 #[v, .func (.func 77) #[bv] #[]] w fun e w' => ∃ v', e = .returned v' ∧ Below w.heap.size w w' ∧ BoL w' v' n P ∧ (n = 0 → v' = .slice none 0 0) := by
 obtain ⟨A, c, rfl, hA⟩ := h
 have HA := hI9 hA
 have HP := hI9 hp
 clear hA hp
 go_enter Tryz.func75, Tryz.ntmps75
 go_wp2
 go_loopw [4, 6, 9] (fun s4 _ s9 wr => ∃ k : Nat, k ≤ n ∧ s9 = .int .i64 k ∧ Hid (PiK w k P s4 wr)) (fun _ _ i _ => n - (intOf i).toNat)
 case atStart => exact ⟨0, by omega, rfl, hI9 ⟨Below.refl _ _, World.ownsRow_nil _ _ _ _, fun _ => rfl⟩⟩
 case round =>
  obtain ⟨k, hk, rfl, K0⟩ := hrel
  by_cases hlt : k < n
  ·obtain ⟨bl, off, rfl, hb, hc⟩ := HA.out (by omega)
   have h0 := (K0.out.b.cell (p := ⟨bl, off + k, none⟩) hb).trans (hc k hlt)
   have hcall := HP.out k wr hlt K0.out.b
   clear HA hc HP
   generalize X k = x at *
   go_wp2_with (first | (go_at_fn 77; refine hcall.mono ?_; rintro e w1 ⟨rfl, rfl⟩) | (at_builtin; go_loud (refine wpl_appBo rfl _ _ rfl w.heap.size _ k P rfl (K0.out.o.alloc _) _ rfl ?b1 (by omega) ?c1 ?_)))
   case b1 => simp
   case c1 => have := K0.out.b.size; first | omega | (simp; omega)
   ·intro v2 w3 O2 G2
    have K2 := hI9 ((K0.out.grow (bal (Below.refl _ _) _)).take (by rw [List.range_succ, List.map_append]; exact O2) G2)
    clear O2 G2
    go_wp2
    go_roundw
    case rel => exact ⟨k + 1, by omega, by go_num, K2⟩
    case measure => simp [intOf]; omega
  ·obtain rfl : k = n := by omega
   clear HA
   go_wp2
   go_ret
   exact ⟨_, rfl, K0.out.b, BoL.of_owns K0.out.o, K0.out.z⟩
theorem tcHeld_c (g7 gh m k : Nat) (b : Bool) (w : World) (hk : k < m) (h7 : w.cell? ⟨g7, 0, none⟩ = some (.slice (some ⟨gh, 0, none⟩) m m)) (hc : w.cell? ⟨gh, k, none⟩ = some (.bool b)) :
  Calls Tryz.prog 76 #[.int .i64 k, .pointer (some ⟨g7, 0, none⟩)] w fun e w' => e = .returned (.bool b) ∧ w = w' := by
 go_enter Tryz.func76, Tryz.ntmps76
 go_wp2
 go_ret
 exact ⟨rfl, rfl⟩
theorem Tryz.entHo : ∀ args w, (callFunc 76 args).run Tryz.prog w = .ok (.enter 76 args) w := enters_of Tryz.func76 (by kernel_rfl) rfl
theorem Tryz.entHa : ∀ args w, (callFunc 77 args).run Tryz.prog w = .ok (.enter 77 args) w := enters_of Tryz.func77 (by kernel_rfl) rfl
end Go.Proofs.YtlambeiafdpkgaaGreat
