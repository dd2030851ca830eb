/- Texts joined: JAQ. -/
import Derived.Test.YtafkifjebimdaaaGreatDlA
import Derived.Test.YtafkifjebimdaaaGreatBas
set_option linter.all false
namespace Go.Proofs.YtafkifjebimdaaaGreat
open Go Go.RowKit Go.Proofs
set_option maxRecDepth 100000
set_option maxHeartbeats 8000000
theorem tri_b (w : World) (c1 c2 c3 : Array Value) (T1 T2 T3 : TypeId) : Blk (((w.alloc (.cells c1 T1)).alloc (.cells c2 T2)).alloc (.cells c3 T3)) w.heap.size T1 c1 ∧ Blk (((w.alloc (.cells c1 T1)).alloc (.cells c2 T2)).alloc (.cells c3 T3)) (w.heap.size + 1) T2 c2 ∧
    Blk (((w.alloc (.cells c1 T1)).alloc (.cells c2 T2)).alloc (.cells c3 T3)) (w.heap.size + 1 + 1) T3 c3 ∧ Below w.heap.size w (((w.alloc (.cells c1 T1)).alloc (.cells c2 T2)).alloc (.cells c3 T3)) :=
  ⟨((Blk.new w T1 c1).alloc _).alloc _, (Blk.newA (g := w.heap.size + 1) (w.alloc (.cells c1 T1)) T2 c2 (by simp)).alloc _, Blk.newA (g := w.heap.size + 1 + 1) _ T3 c3 (by simp), bal (bal (bal (Below.refl _ _) _) _) _⟩
theorem duo_b (w : World) (c1 c2 : Array Value) (T1 T2 : TypeId) : Blk ((w.alloc (.cells c1 T1)).alloc (.cells c2 T2)) w.heap.size T1 c1 ∧ Blk ((w.alloc (.cells c1 T1)).alloc (.cells c2 T2)) (w.heap.size + 1) T2 c2 ∧ Below w.heap.size w ((w.alloc (.cells c1 T1)).alloc (.cells c2 T2)) :=
  ⟨(Blk.new w T1 c1).alloc _, Blk.newA (g := w.heap.size + 1) (w.alloc (.cells c1 T1)) T2 c2 (by simp), bal (bal (Below.refl _ _) _) _⟩
theorem oneD (D1 D2 D3 : Option Addr) (n1 n2 n3 k1 k2 k3 : Nat) (a b c d e f g : Int) : (#[.int .i64 a, .int .i64 b, .int .i64 c, .slice D1 n1 k1, .int .i64 d, .int .i64 e, .int .i64 f, .int .i64 g, .slice D2 n2 k2, .slice D3 n3 k3] : Array Value).all (·.oneCell') = true := by simp [Value.oneCell']
theorem oneO (D1 D2 D3 : Option Addr) (n1 n2 n3 k1 k2 k3 : Nat) : (#[.slice D1 n1 k1, .slice D2 n2 k2, .slice D3 n3 k3] : Array Value).all (·.oneCell') = true := by simp [Value.oneCell']
theorem oneA (a b c d e f g h : Int) (p q : Bool) : (#[.int .i64 a, .int .i64 b, .int .i64 c, .int .i64 d, .int .i64 e, .bool p, .bool q, .int .i64 f, .int .i64 g, .int .i64 h] : Array Value).all (·.oneCell') = true := by simp [Value.oneCell']
theorem dworks_c (w : World) : Calls Tryz.prog 9 #[] w fun e w' => e = .returned (.bool true) ∧ Below w.heap.size w w' := by
  go_enter Tryz.func9, Tryz.ntmps9
  go_wp2_with (fail)
  refine (dExample_c _).mono ?_
  rintro e w1 ⟨vA, vB, vC, vP, vR, vV, rfl, hb, hD, hV⟩
  obtain ⟨⟨D1, k1, rfl, -, -, -⟩, ⟨D2, k2, rfl, -, -, -⟩, ⟨D3, k3, rfl, -, -, -⟩⟩ := id hD
  obtain ⟨⟨O1, j1, rfl, -, -, -⟩, ⟨O2, j2, rfl, -, -, -⟩, ⟨O3, j3, rfl, -, -, -⟩⟩ := id hV
  have HD := Lib.hid hD
  have HV := Lib.hid hV
  have HB := Lib.hid hb
  clear hD hV hb
  have tok1 : True := trivial
  go_wp2_with (first | (have _t := tok1; have _x := tri_b w1 #[.int .i64 0, .int .i64 0, .int .i64 0, .slice none 0 0, .int .i64 0, .int .i64 0, .int .i64 0, .int .i64 0, .slice none 0 0, .slice none 0 0] #[.slice none 0 0, .slice none 0 0, .slice none 0 0] #[.int .i64 0, .int .i64 0, .int .i64 0, .int .i64 0, .int .i64 0, .bool false, .bool false, .int .i64 0, .int .i64 0, .int .i64 0] 26 37 43; have ZD := Lib.hid _x.1; have ZO := Lib.hid _x.2.1; have ZP := Lib.hid _x.2.2.1; have HX := Lib.hid _x.2.2.2; clear _x; generalize World.alloc (World.alloc (World.alloc _ _) _) _ = W0 at *; refine wpList_store_row rfl 26 (.tmp 1) (.tmp 10) rfl (w1.heap.size) #[.int .i64 20, .int .i64 9000, .int .i64 40, .slice D1 exDk.ns k1, .int .i64 3, .int .i64 3, .int .i64 2, .int .i64 3, .slice D2 exDk.nh k2, .slice D3 exDk.nu k3] rfl rfl 26 #[.int .i64 0, .int .i64 0, .int .i64 0, .slice none 0 0, .int .i64 0, .int .i64 0, .int .i64 0, .int .i64 0, .slice none 0 0, .slice none 0 0] ZD.out Tryz.sizeDek rfl (oneD _ _ _ _ _ _ _ _ _ _ _ _ _ _ _ _) ?_; simp only [Act.put]; clear tok1; have tok2 : True := trivial; have HX2 := Lib.hid (below_row (g := w1.heap.size) HX.out (by omega) #[.int .i64 20, .int .i64 9000, .int .i64 40, .slice D1 exDk.ns k1, .int .i64 3, .int .i64 3, .int .i64 2, .int .i64 3, .slice D2 exDk.nh k2, .slice D3 exDk.nu k3]); have nZD := Lib.hid (wblk_setRow (cs := #[.int .i64 20, .int .i64 9000, .int .i64 40, .slice D1 exDk.ns k1, .int .i64 3, .int .i64 3, .int .i64 2, .int .i64 3, .slice D2 exDk.nh k2, .slice D3 exDk.nu k3]) ZD.out); have nZO := Lib.hid (wblk_setRow_ne (us := #[.int .i64 20, .int .i64 9000, .int .i64 40, .slice D1 exDk.ns k1, .int .i64 3, .int .i64 3, .int .i64 2, .int .i64 3, .slice D2 exDk.nh k2, .slice D3 exDk.nu k3]) (g := w1.heap.size) ZO.out (by omega)); have nZP := Lib.hid (wblk_setRow_ne (us := #[.int .i64 20, .int .i64 9000, .int .i64 40, .slice D1 exDk.ns k1, .int .i64 3, .int .i64 3, .int .i64 2, .int .i64 3, .slice D2 exDk.nh k2, .slice D3 exDk.nu k3]) (g := w1.heap.size) ZP.out (by omega)); clear ZD ZO ZP HX; have ZD := nZD; have ZO := nZO; have ZP := nZP; clear nZD nZO nZP; generalize World.setRow _ _ _ = W2 at *) | (have _t := tok2; refine wpList_store_row rfl 37 (.tmp 2) (.tmp 11) rfl (w1.heap.size + 1) #[.slice O1 exMo.np j1, .slice O2 exMo.nr j2, .slice O3 exMo.nv j3] rfl rfl 37 #[.slice none 0 0, .slice none 0 0, .slice none 0 0] ZO.out Tryz.sizeMov rfl (oneO _ _ _ _ _ _ _ _ _) ?_; simp only [Act.put]; clear tok2; have tok3 : True := trivial; have HX3 := Lib.hid (below_row (g := w1.heap.size + 1) HX2.out (by omega) #[.slice O1 exMo.np j1, .slice O2 exMo.nr j2, .slice O3 exMo.nv j3]); have nZD := Lib.hid (wblk_setRow_ne (us := #[.slice O1 exMo.np j1, .slice O2 exMo.nr j2, .slice O3 exMo.nv j3]) (g := w1.heap.size + 1) ZD.out (by omega)); have nZO := Lib.hid (wblk_setRow (cs := #[.slice O1 exMo.np j1, .slice O2 exMo.nr j2, .slice O3 exMo.nv j3]) ZO.out); have nZP := Lib.hid (wblk_setRow_ne (us := #[.slice O1 exMo.np j1, .slice O2 exMo.nr j2, .slice O3 exMo.nv j3]) (g := w1.heap.size + 1) ZP.out (by omega)); clear ZD ZO ZP HX2; have ZD := nZD; have ZO := nZO; have ZP := nZP; clear nZD nZO nZP; generalize World.setRow _ _ _ = W3 at *) | (have _t := tok3; refine wpList_store_row rfl 43 (.tmp 3) (.tmp 12) rfl (w1.heap.size + 1 + 1) #[.int .i64 18, .int .i64 8000, .int .i64 35, .int .i64 3000, .int .i64 400, .bool false, .bool false, .int .i64 0, .int .i64 90, .int .i64 100] rfl rfl 43 #[.int .i64 0, .int .i64 0, .int .i64 0, .int .i64 0, .int .i64 0, .bool false, .bool false, .int .i64 0, .int .i64 0, .int .i64 0] ZP.out Tryz.sizeApp rfl (oneA _ _ _ _ _ _ _ _ _ _) ?_; simp only [Act.put]; clear tok3; have tok4 : True := trivial; have HX4 := Lib.hid (below_row (g := w1.heap.size + 1 + 1) HX3.out (by omega) #[.int .i64 18, .int .i64 8000, .int .i64 35, .int .i64 3000, .int .i64 400, .bool false, .bool false, .int .i64 0, .int .i64 90, .int .i64 100]); have nZD := Lib.hid (wblk_setRow_ne (us := #[.int .i64 18, .int .i64 8000, .int .i64 35, .int .i64 3000, .int .i64 400, .bool false, .bool false, .int .i64 0, .int .i64 90, .int .i64 100]) (g := w1.heap.size + 1 + 1) ZD.out (by omega)); have nZO := Lib.hid (wblk_setRow_ne (us := #[.int .i64 18, .int .i64 8000, .int .i64 35, .int .i64 3000, .int .i64 400, .bool false, .bool false, .int .i64 0, .int .i64 90, .int .i64 100]) (g := w1.heap.size + 1 + 1) ZO.out (by omega)); have nZP := Lib.hid (wblk_setRow (cs := #[.int .i64 18, .int .i64 8000, .int .i64 35, .int .i64 3000, .int .i64 400, .bool false, .bool false, .int .i64 0, .int .i64 90, .int .i64 100]) ZP.out); clear ZD ZO ZP HX3; have ZD := nZD; have ZO := nZO; have ZP := nZP; clear nZD nZO nZP; generalize World.setRow _ _ _ = W4 at *))
  clear tok4
  have HD4 := Lib.hid (HD.out.below HX4.out)
  have HV4 := Lib.hid (HV.out.below HX4.out)
  have HB4 := Lib.hid (bthen HB.out HX4.out)
  have g4 := ZP.out.lt
  clear HX4 HD HV HB
  generalize w1.heap.size = g at *
  refine (wExample_c _).mono ?_
  rintro e w5 ⟨vF, vS, rfl, hb, hA⟩
  obtain ⟨⟨A, cF, rfl, -, -, -⟩, ⟨A2, cS, rfl, -, -, -⟩⟩ := id hA
  have n5 := hb.size
  have g5 : g + 1 + 1 < w5.heap.size := by omega
  have ZD5 := Lib.hid (ZD.out.below hb)
  have ZO5 := Lib.hid (ZO.out.below hb)
  have ZP5 := Lib.hid (ZP.out.below hb)
  have HD5 := Lib.hid (HD4.out.below hb)
  have HV5 := Lib.hid (HV4.out.below hb)
  have HB5 := Lib.hid (bthen HB4.out hb)
  have HA5 := Lib.hid hA
  clear ZD ZO ZP HD4 HV4 HB4 hb hA g4 n5
  have tok5 : True := trivial
  go_wp2_with (first | (have _t := tok5; have _x := duo_b w5 #[.int .i64 0, .int .i64 0, .int .i64 0, .int .i64 0, .int .i64 0, .int .i64 0, .int .i64 0, .bool false, .bool false, .int .i64 0, .int .i64 0, .int .i64 0, .slice none 0 0, .slice none 0 0] #[.int .i64 0, .int .i64 0, .int .i64 0, .bool false, .bool false] 34 41; have ZM := Lib.hid _x.1; have ZN := Lib.hid _x.2.1; have HX := Lib.hid _x.2.2; clear _x; generalize World.alloc (World.alloc _ _) _ = W5 at *; refine wpList_store_row rfl 34 (.tmp 4) (.tmp 15) rfl (w5.heap.size) #[.int .i64 2, .int .i64 0, .int .i64 60, .int .i64 0, .int .i64 10000, .int .i64 0, .int .i64 3000, .bool true, .bool true, .int .i64 5, .int .i64 1000, .int .i64 200, .slice A exM.n cF, .slice A2 exM.m cS] rfl rfl 34 #[.int .i64 0, .int .i64 0, .int .i64 0, .int .i64 0, .int .i64 0, .int .i64 0, .int .i64 0, .bool false, .bool false, .int .i64 0, .int .i64 0, .int .i64 0, .slice none 0 0, .slice none 0 0] ZM.out Tryz.sizeMet rfl (oneM exM A A2 _ _ _ _) ?_; simp only [Act.put]; clear tok5; have tok6 : True := trivial; have HX2 := Lib.hid (below_row (g := w5.heap.size) HX.out (by omega) #[.int .i64 2, .int .i64 0, .int .i64 60, .int .i64 0, .int .i64 10000, .int .i64 0, .int .i64 3000, .bool true, .bool true, .int .i64 5, .int .i64 1000, .int .i64 200, .slice A exM.n cF, .slice A2 exM.m cS]); have nZM := Lib.hid (wblk_setRow (cs := #[.int .i64 2, .int .i64 0, .int .i64 60, .int .i64 0, .int .i64 10000, .int .i64 0, .int .i64 3000, .bool true, .bool true, .int .i64 5, .int .i64 1000, .int .i64 200, .slice A exM.n cF, .slice A2 exM.m cS]) ZM.out); have nZN := Lib.hid (wblk_setRow_ne (us := #[.int .i64 2, .int .i64 0, .int .i64 60, .int .i64 0, .int .i64 10000, .int .i64 0, .int .i64 3000, .bool true, .bool true, .int .i64 5, .int .i64 1000, .int .i64 200, .slice A exM.n cF, .slice A2 exM.m cS]) (g := w5.heap.size) ZN.out (by omega)); clear ZM ZN HX; have ZM := nZM; have ZN := nZN; clear nZM nZN; generalize World.setRow _ _ _ = W6 at *) | (have _t := tok6; refine wpList_store_row rfl 41 (.tmp 5) (.tmp 16) rfl (w5.heap.size + 1) #[.int .i64 35, .int .i64 3000, .int .i64 400, .bool false, .bool false] rfl rfl 41 #[.int .i64 0, .int .i64 0, .int .i64 0, .bool false, .bool false] ZN.out Tryz.sizeMin rfl (one5 _ _ _ _ _) ?_; simp only [Act.put]; clear tok6; have tok7 : True := trivial; have HX3 := Lib.hid (below_row (g := w5.heap.size + 1) HX2.out (by omega) #[.int .i64 35, .int .i64 3000, .int .i64 400, .bool false, .bool false]); have nZM := Lib.hid (wblk_setRow_ne (us := #[.int .i64 35, .int .i64 3000, .int .i64 400, .bool false, .bool false]) (g := w5.heap.size + 1) ZM.out (by omega)); have nZN := Lib.hid (wblk_setRow (cs := #[.int .i64 35, .int .i64 3000, .int .i64 400, .bool false, .bool false]) ZN.out); clear ZM ZN HX2; have ZM := nZM; have ZN := nZN; clear nZM nZN; generalize World.setRow _ _ _ = W7 at *; have ZD := Lib.hid (ZD5.out.below HX3.out); have ZO := Lib.hid (ZO5.out.below HX3.out); have ZP := Lib.hid (ZP5.out.below HX3.out); have HD7 := Lib.hid (HD5.out.below HX3.out); have HV7 := Lib.hid (HV5.out.below HX3.out); have HA7 := Lib.hid (HA5.out.below HX3.out); have HB7 := Lib.hid (bthen HB5.out HX3.out); clear ZD5 ZO5 ZP5 HD5 HV5 HB5 HA5 HX3) | (refine wpl_row rfl 26 (.tmp 1) rfl _ rfl #[.int .i64 20, .int .i64 9000, .int .i64 40, .slice D1 exDk.ns k1, .int .i64 3, .int .i64 3, .int .i64 2, .int .i64 3, .slice D2 exDk.nh k2, .slice D3 exDk.nu k3] 10 ZD.out Tryz.rowDek rfl ?_; simp only [Act.put]) | (refine wpl_row rfl 34 (.tmp 4) rfl _ rfl #[.int .i64 2, .int .i64 0, .int .i64 60, .int .i64 0, .int .i64 10000, .int .i64 0, .int .i64 3000, .bool true, .bool true, .int .i64 5, .int .i64 1000, .int .i64 200, .slice A exM.n cF, .slice A2 exM.m cS] 14 ZM.out Tryz.rowMet rfl ?_; simp only [Act.put]) | (refine wpl_row rfl 37 (.tmp 2) rfl _ rfl #[.slice O1 exMo.np j1, .slice O2 exMo.nr j2, .slice O3 exMo.nv j3] 3 ZO.out Tryz.rowMov rfl ?_; simp only [Act.put]) | (refine wpl_row rfl 43 (.tmp 3) rfl _ rfl #[.int .i64 18, .int .i64 8000, .int .i64 35, .int .i64 3000, .int .i64 400, .bool false, .bool false, .int .i64 0, .int .i64 90, .int .i64 100] 10 ZP.out Tryz.rowApp rfl ?_; simp only [Act.put]))
  refine (exDWin_c _ _ _ _ _ _ _ _ _ HD7.out HA7.out HV7.out).mono ?_
  rintro e w8 ⟨gw, c, rfl, hb8, c0, c1, c2, c3⟩
  have HB8 := Lib.hid (bthen HB7.out hb8)
  clear ZD ZO ZP ZM ZN HD7 HV7 HA7 HB7 hb8 tok7
  go_wp2
  go_ret
  exact ⟨rfl, HB8.out⟩
end Go.Proofs.YtafkifjebimdaaaGreat

namespace Go.Proofs.YtafkifjebimdaaaGreat
open Go Go.RowKit Go.Proofs

section
variable {P : Program} {ops : Array Oper}
structure SpecInvU (R : Nat → (Nat → Value) → World → Prop) (fresh : Nat → Bool) (n : Nat) (listed : Array Bool) (u : Nat → Value) (w : World) : Prop where
  r : ∀ k, k < n → listed.getD k false = true → R k u w
  f : ∀ k, k < n → listed.getD k false = true → fresh k = true → ∃ g, u k = .pointer (some ⟨g, 0, none⟩) ∧ g < w.heap.size
  d : ∀ j k, j < n → k < n → j ≠ k → listed.getD j false = true → listed.getD k false = true → fresh j = true → fresh k = true → u j ≠ u k
theorem any_of_specsU (G : Nat → World → World → Prop) (J : World → Prop) (hGs : ∀ i a b, G i a b → a.heap.size ≤ b.heap.size) (hJ : ∀ i a b, G i a b → J a → J b) {Q : Exit → Act → World → Prop} {R : Nat → (Nat → Value) → World → Prop} {fresh : Nat → Bool} {n : Nat} {a : Act} {w : World} {tail : List Oper}
    (hB : specB ops n = true) (hR : ∀ k j u a b, k ≠ j → G j a b → R k u a → R k u b) (hU : ∀ k u u2 w, (∀ j, j = k ∨ j ∈ depsOf ops k → u j = u2 j) → R k u w → R k u2 w)
    (hop : ∀ i oi, i < n → ops[i]? = some oi → ∀ (u : Nat → Value) (w1 : World), J w1 → (∀ k ∈ depsOf ops i, k < n → R k u w1) → wpList P ops (EndOpG G Q (fun i v w => R i (upd u i v) w) fresh ops i (putAll ops a u n) w1) [oi] (putAll ops a u n) w1)
    (htl : ∀ j, tail[j]? = ops[n + j]?) (htn : tail.length = ops.size - n)
    (htail : ∀ (u : Nat → Value) (w1 : World), J w1 → (∀ k, k < n → R k u w1) → (∀ i j, i < n → j < n → i ≠ j → fresh i = true → fresh j = true → u i ≠ u j) → wpList P ops Q tail (putAll ops a u n) w1) :
    ∀ (m : Nat) (listed : Array Bool) (u : Nat → Value) (w1 : World), HeadInv .any ops n listed → ((List.range n).filter fun i => !listed.getD i false).length = m →
      SpecInvU R fresh n listed u w1 → J w1 → wpAny P .any ops Q (m + (ops.size - n)) listed (putAll ops a u n) w1 := by
  simp only [specB, Bool.and_eq_true, decide_eq_true_eq] at hB
  obtain ⟨⟨⟨⟨⟨hn, hdist⟩, hforw⟩, hs⟩, hc⟩, hseq⟩ := hB
  intro m
  induction m with
  | zero =>
    intro listed u w1 inv hm sinv hb
    have all : ∀ i, i < n → listed.getD i false = true := by
      intro i hi
      have h0 := List.eq_nil_of_length_eq_zero hm
      rw [List.filter_eq_nil_iff] at h0
      have := h0 i (List.mem_range.2 hi)
      simpa using this
    have e := headDone_eq inv.size (by omega) all inv.tail
    subst e
    have := wpAny_of_seq (md := .any) (Q' := Q) tail n (headDone ops.size n) (putAll ops a u n) w1 htl (by rw [htn]; exact hseq)
      (htail u w1 hb (fun k hk => sinv.r k hk (all k hk)) (fun i j hi hj hij => sinv.d i j hi hj hij (all i hi) (all j hj)))
    rw [htn] at this
    rw [Nat.zero_add]
    exact this
  | succ m ih =>
    intro listed u w1 inv hm sinv hb
    -- some operation of the head has not come up
    obtain ⟨i0, hi0⟩ : ∃ i0, i0 ∈ (List.range n).filter fun i => !listed.getD i false := by
      cases hl : (List.range n).filter fun i => !listed.getD i false with
      | nil => rw [hl] at hm; simp at hm
      | cons x xs => exact ⟨x, by simp⟩
    obtain ⟨hi0n, hi0l⟩ := List.mem_filter.1 hi0
    have hi0n := List.mem_range.1 hi0n
    have hun : listed.getD i0 true = false := getD_in (by rw [inv.size]; omega) (by simpa using hi0l)
    have key : ∀ i ∈ Region.ready .any ops listed, i < n := fun i hi => Nat.lt_of_not_le fun h => tail_waits hs hc hn inv _ i0 rfl hi0n hun i h hi
    rw [show m + 1 + (ops.size - n) = (m + (ops.size - n)) + 1 by omega]
    refine ⟨fun h0 => ?_, fun i hi => ?_⟩
    · exfalso
      have low : ∀ i, i < n → listed.getD i false = false → False := by
        intro i
        induction i using Nat.strongRecOn with
        | _ i ih =>
          intro hin hl
          have hoi : ops[i]? = some ops[i] := Array.getElem?_eq_getElem (by omega)
          by_cases hall : ∀ e ∈ (ops[i]'(by omega)).after, Region.binds .any e = true → listed.getD e.on false = true
          · have : i ∈ Region.ready .any ops listed := mem_ready.2 ⟨getD_in (by rw [inv.size]; omega) hl, ops[i], hoi, hall⟩
            rw [h0] at this; cases this
          · have hex : ∃ e ∈ (ops[i]'(by omega)).after, Region.binds .any e = true ∧ listed.getD e.on false = false := by
              refine Classical.byContradiction fun hne => hall fun e he hbe => ?_
              cases hx : listed.getD e.on false with
              | true => rfl
              | false => exact absurd ⟨e, he, hbe, hx⟩ hne
            obtain ⟨e, he, hbe, hx⟩ := hex
            have hlt := forwB_lt hforw hin hoi (List.mem_map.2 ⟨e, List.mem_filter.2 ⟨by simpa using he, hbe⟩, rfl⟩)
            exact ih e.on hlt (by omega) hx
      exact low i0 hi0n (by simpa using hi0l)
    · have hin := key i hi
      obtain ⟨hil, oi, hoi, hall⟩ := mem_ready.1 hi
      refine wpOp_of_endG hoi (hop i oi hin hoi u w1 hb fun k hk hkn => ?_) fun v w' hb' hv hf => ?_
      · have : ∃ e ∈ oi.after.toList, Region.binds .any e = true ∧ e.on = k := by
          unfold depsOf at hk; rw [hoi] at hk
          simp only [List.mem_map, List.mem_filter] at hk
          obtain ⟨e, ⟨he, hbe⟩, rfl⟩ := hk
          exact ⟨e, he, hbe, rfl⟩
        obtain ⟨e, he, hbe, rfl⟩ := this
        exact sinv.r _ hkn (hall e (by simpa using he) hbe)
      · rw [← putAll_upd n hin hdist]
        have hl' : ∀ k, k ≠ i → (listed.setIfInBounds i true).getD k false = listed.getD k false := fun k hk => getD_set_ne false (Ne.symm hk)
        refine ih (listed.setIfInBounds i true) (upd u i v) w' (inv.set hi hin) ?_ ⟨?_, ?_, ?_⟩ (hJ i _ _ hb' hb)
        · have := cnt_set (n := n) (p := fun k => !listed.getD k false) (q := fun k => !(listed.setIfInBounds i true).getD k false) hin (by simpa using getD_both hil) (by rw [getD_set_self (by rw [inv.size]; omega)]; rfl) (fun k hk => by rw [hl' k hk])
          omega
        · intro k hk hkl
          by_cases e : k = i
          · subst e; exact hv
          · rw [hl' k e] at hkl
            refine hU k u _ _ (fun j hj => ?_) (hR _ i _ _ _ e hb' (sinv.r k hk hkl))
            have hne : j ≠ i := by
              rcases hj with rfl | hj
              · exact e
              · intro hji
                subst hji
                unfold depsOf at hj
                cases hok : ops[k]? with
                | none => rw [hok] at hj; cases hj
                | some ok =>
                  rw [hok] at hj
                  simp only [List.mem_map, List.mem_filter] at hj
                  obtain ⟨e2, ⟨he, hbe⟩, hj2⟩ := hj
                  have := inv.closed k ok hok hkl e2 (by simpa using he) hbe
                  rw [hj2, getD_both hil] at this
                  cases this
            rw [upd_ne hne]
        · intro k hk hkl hfk
          by_cases e : k = i
          · subst e; rw [upd_same]; obtain ⟨g, g1, g2, g3⟩ := hf hfk; exact ⟨g, g1, g3⟩
          · rw [upd_ne e]; rw [hl' k e] at hkl; obtain ⟨g, g1, g2⟩ := sinv.f k hk hkl hfk; exact ⟨g, g1, Nat.lt_of_lt_of_le g2 (hGs i _ _ hb')⟩
        · intro j k hj hk hjk hjl hkl hfj hfk
          by_cases e : j = i
          · subst e
            have e2 : k ≠ j := fun h => hjk h.symm
            rw [upd_same, upd_ne e2]; rw [hl' k e2] at hkl
            obtain ⟨g, g1, g2, g3⟩ := hf hfj
            obtain ⟨g', g1', g2'⟩ := sinv.f k hk hkl hfk
            rw [g1, g1']; intro h; injection h with h; injection h with h; injection h with h; omega
          · by_cases e2 : k = i
            · subst e2
              rw [upd_same, upd_ne e]; rw [hl' j e] at hjl
              obtain ⟨g, g1, g2, g3⟩ := hf hfk
              obtain ⟨g', g1', g2'⟩ := sinv.f j hj hjl hfj
              rw [g1, g1']; intro h; injection h with h; injection h with h; injection h with h; omega
            · rw [upd_ne e, upd_ne e2]; rw [hl' j e] at hjl; rw [hl' k e2] at hkl
              exact sinv.d j k hj hk hjk hjl hkl hfj hfk
/-- A region that draws: n operations, each by its specification, then a tail in a forced order. -/
theorem wp_region_specsU {id : Nat} {Q : Exit → Act → World → Prop} {a : Act} {w : World} {l : List Oper} (G : Nat → World → World → Prop) (J : World → Prop) (hGs : ∀ i a b, G i a b → a.heap.size ≤ b.heap.size) (hJ : ∀ i a b, G i a b → J a → J b) (hJ0 : J w.drew) (n : Nat) (R : Nat → (Nat → Value) → World → Prop) (fresh : Nat → Bool)
    (hm : P.follows .mixedOrders = true) (hB : specB l.toArray n = true) (hR : ∀ k j u a b, k ≠ j → G j a b → R k u a → R k u b) (hU : ∀ k u u2 w, (∀ j, j = k ∨ j ∈ depsOf l.toArray k → u j = u2 j) → R k u w → R k u2 w)
    (hop : ∀ i oi, i < n → l.toArray[i]? = some oi → ∀ (u : Nat → Value) (w1 : World), J w1 → (∀ k ∈ depsOf l.toArray i, k < n → R k u w1) → wpList P l.toArray (EndOpG G Q (fun i v w => R i (upd u i v) w) fresh l.toArray i (putAll l.toArray a u n) w1) [oi] (putAll l.toArray a u n) w1)
    (htail : ∀ (u : Nat → Value) (w1 : World), J w1 → (∀ k, k < n → R k u w1) → (∀ i j, i < n → j < n → i ≠ j → fresh i = true → fresh j = true → u i ≠ u j) → wpList P l.toArray Q (l.drop n) (putAll l.toArray a u n) w1) :
    (Code.region id l.toArray true).wp P Q a w := by
  have hn : n < l.toArray.size := by simp only [specB, Bool.and_eq_true, decide_eq_true_eq] at hB; exact hB.1.1.1.1.1
  have hn' : n < l.length := by simpa using hn
  refine wp_region_any hm ?_
  have inv0 : HeadInv .any l.toArray n (Array.replicate l.toArray.size false) :=
    ⟨by simp, fun j oj _ hl => (by rw [getD_replicate_false] at hl; cases hl), fun t _ ht => getD_in (by simpa using ht) (getD_replicate_false _ _)⟩
  have hcnt : ((List.range n).filter fun i => !(Array.replicate l.toArray.size false).getD i false).length = n := by
    rw [List.filter_eq_self.2 (fun i _ => by rw [getD_replicate_false]; rfl), List.length_range]
  have := any_of_specsU G J hGs hJ (P := P) (Q := Q) (R := R) (fresh := fresh) (n := n) (a := a) (w := w) (tail := l.drop n) hB hR hU hop (fun j => by simp [List.getElem?_drop]) (by simp) htail n
    (Array.replicate l.toArray.size false) (slotOf l.toArray a) w.drew inv0 hcnt ⟨fun k _ hl => (by rw [getD_replicate_false] at hl; cases hl), fun k _ hl => (by rw [getD_replicate_false] at hl; cases hl), fun j k _ _ _ hl => (by rw [getD_replicate_false] at hl; cases hl)⟩ hJ0
  rw [putAll_slot, show n + (l.toArray.size - n) = l.toArray.size by omega] at this
  exact this

/-- The same, the operations as a conjunction, the frame behind a name. -/
theorem wp_region_specU {id : Nat} {Q : Exit → Act → World → Prop} {a : Act} {w : World} {l : List Oper} (G : Nat → World → World → Prop) (J : World → Prop) (hGs : ∀ i a b, G i a b → a.heap.size ≤ b.heap.size) (hJ : ∀ i a b, G i a b → J a → J b) (hJ0 : J w.drew) (n : Nat) (R : Nat → (Nat → Value) → World → Prop) (fresh : Nat → Bool)
    (hm : P.follows .mixedOrders = true) (hB : specB l.toArray n = true) (hR : ∀ k j u a b, k ≠ j → G j a b → R k u a → R k u b) (hU : ∀ k u u2 w, (∀ j, j = k ∨ j ∈ depsOf l.toArray k → u j = u2 j) → R k u w → R k u2 w)
    (hop : allOps (fun i oi => ∀ (u : Nat → Value) (A : Act) (w1 : World), A = putAll l.toArray a u n → J w1 → (∀ k, k < n → (depsOf l.toArray i).contains k = true → R k u w1) → wpList P l.toArray (EndOpG G Q (fun i v w => R i (upd u i v) w) fresh l.toArray i A w1) [oi] A w1) 0 (l.take n))
    (htail : ∀ (u : Nat → Value) (A : Act) (w1 : World), A = putAll l.toArray a u n → J w1 → (∀ k, k < n → R k u w1) → (∀ i j, i < n → j < n → i ≠ j → fresh i = true → fresh j = true → u i ≠ u j) → wpList P l.toArray Q (l.drop n) A w1) :
    (Code.region id l.toArray true).wp P Q a w :=
  wp_region_specsU G J hGs hJ hJ0 n R fresh hm hB hR hU (fun i oi hi ho u w1 hb hd => by
    have := allOps_get _ _ hop i oi (by simpa [List.getElem?_take, hi] using ho) u (putAll l.toArray a u n) w1 rfl hb (fun k hk hc => hd k (by simpa using hc) hk)
    rw [Nat.zero_add] at this
    exact this) (fun u w1 => htail u _ w1 rfl)
end
end Go.Proofs.YtafkifjebimdaaaGreat
