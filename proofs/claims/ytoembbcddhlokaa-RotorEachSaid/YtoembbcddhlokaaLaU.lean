/- What arrays of numbers, and structs with them, among the arguments read as. -/
import Derived.Test.YtoembbcddhlokaaLaT
import Derived.DataReads
set_option linter.all false
namespace Go.Proofs.Ytoembbcddhlokaa
open Go Go.RowKit Go.Proofs Go.ChangeShapes Go.WideShapes Go.ChangeAt Go.Deep
set_option maxRecDepth 100000
set_option maxHeartbeats 4000000

section
variable {H : Type} {enc : TypeId × Value → H} {W : World} {sp : Nat → Bool} {held : Bool}

def arrOf (d : Option TypeDesc) : Option (Nat × TypeId) := match d with | some (.array n e) => some (n, e) | _ => none
theorem arrOf_eq {P : Program} {T : TypeId} {n : Nat} {e : TypeId} (h : arrOf (P.underlying T) = some (n, e)) : P.underlying T = some (.array n e) := by
  unfold arrOf at h; split at h
  · rename_i m f eq; simp at h; rw [eq, h.1, h.2]
  · cases h
theorem trod_elem {P : Program} {fuel : Nat} {T e : TypeId} {n k i : Nat} {cs : List Value} {x : DataW H × List MemPlace} (hf : arrOf (P.underlying T) = some (n, e)) (hk : P.cellsOf e = k) (hi : i < n)
    (h : DataW.trod enc P W 0 sp held fuel T cs = some x) : ∃ m y, DataW.trod enc P W 0 sp held m e ((cs.drop (i * k)).take k) = some y := by
  have hu := arrOf_eq hf
  cases fuel with
  | zero => simp [DataW.trod] at h
  | succ m =>
    have key : cs.length = P.cellsOf T ∧ ∃ xs, ((List.range n).mapM fun i => DataW.trod enc P W 0 sp held m e ((cs.drop (i * P.cellsOf e)).take (P.cellsOf e))) = some xs := by
      unfold DataW.trod at h
      rw [hu] at h
      have h' : (if cs.length = P.cellsOf T then ((List.range n).mapM fun i => DataW.trod enc P W 0 sp held m e ((cs.drop (i * P.cellsOf e)).take (P.cellsOf e))).map fun xs => (DataW.agg (xs.map (·.1)), xs.flatMap (·.2)) else none) = some x := h
      split at h'
      · rename_i hl
        rw [Option.map_eq_some_iff] at h'
        obtain ⟨xs, h1, -⟩ := h'
        exact ⟨hl, xs, h1⟩
      · cases h'
    obtain ⟨_, xs, hp⟩ := key
    have hl := mapM_some_length hp
    have hg := mapM_some_get hp i i (by simp [hi])
    rw [hk] at hg
    have hlt : i < xs.length := by rw [hl]; simpa using hi
    exact ⟨m, xs[i], by rw [hg, List.getElem?_eq_getElem hlt]⟩

theorem int_at {fuel : Nat} {T : TypeId} {n i : Nat} {cs : List Value} {c : Value} {x : DataW H × List MemPlace} (hf : arrOf (Try.prog.underlying T) = some (n, 3)) (hi : i < n)
    (hc : (cs.drop (i * 1)).take 1 = [c]) (h : DataW.trod enc Try.prog W 0 sp held fuel T cs = some x) : ∃ m, c = .int .i64 m ∧ I64 m := by
  obtain ⟨m, y, h0⟩ := trod_elem hf Try.celInt hi h
  rw [hc] at h0
  exact int_trod h0

/-- Three numbers. -/
theorem three_trod {r : Reach} {b0 : Nat} {v : Value} {d : DataW H} {ps : List MemPlace} (hval : Value.okWide Try.prog W r b0 62 v) (hd : DataW.Trod enc Try.prog W 0 sp held 62 v d ps) :
    ∃ a b c, v = .agg #[.int .i64 a, .int .i64 b, .int .i64 c] ∧ I64 a ∧ I64 b ∧ I64 c := by
  have ha : arrOf (Try.prog.underlying 62) = some (3, 3) := by kernel_rfl
  simp only [Value.okWide, arrOf_eq ha] at hval
  obtain ⟨cs, rfl, hs, -⟩ := hval
  rw [show Try.prog.cellsOf 62 = 3 by kernel_rfl] at hs
  obtain ⟨fuel, h⟩ := hd
  simp only [Value.cells] at h
  obtain ⟨a0, l0, q0, h0⟩ := take1 (l := cs.toList) (by simpa using hs)
  obtain ⟨b, c, rfl⟩ : ∃ b c, l0 = [b, c] := cells2 h0
  rw [q0] at h
  obtain ⟨n0, r0, w0⟩ := int_at (i := 0) ha (by omega) rfl h
  obtain ⟨n1, r1, w1⟩ := int_at (i := 1) ha (by omega) rfl h
  obtain ⟨n2, r2, w2⟩ := int_at (i := 2) ha (by omega) rfl h
  rw [r0, r1, r2] at q0
  exact ⟨_, _, _, by congr 1; exact Array.toList_inj.1 q0, w0, w1, w2⟩

/-- Numbers by which a smaller air is picked, and two spans. -/
theorem less_trod {r : Reach} {b0 : Nat} {v : Value} {d : DataW H} {ps : List MemPlace} (hval : Value.okWide Try.prog W r b0 46 v) (hd : DataW.Trod enc Try.prog W 0 sp held 46 v d ps) :
    ∃ n0 n1 n2 n3 n4 n5 n6 n7 n8 n9 n10 n11 pl ph sl sh, v = .agg #[.int .i64 n0, .int .i64 n1, .int .i64 n2, .int .i64 n3, .int .i64 n4, .int .i64 n5, .int .i64 n6, .int .i64 n7, .int .i64 n8, .int .i64 n9, .int .i64 n10, .int .i64 n11, .int .i64 pl, .int .i64 ph, .int .i64 sl, .int .i64 sh] ∧
      I64 n0 ∧ I64 n1 ∧ I64 n2 ∧ I64 n3 ∧ I64 n4 ∧ I64 n5 ∧ I64 n6 ∧ I64 n7 ∧ I64 n8 ∧ I64 n9 ∧ I64 n10 ∧ I64 n11 := by
  obtain ⟨fs, hu⟩ := fieldAt_struct (P := Try.prog) (T := 46) (i := 0) (r := (44, 0)) (by kernel_rfl)
  obtain ⟨cs, rfl, hs⟩ := okWide_struct hu hval
  rw [show Try.prog.cellsOf 46 = 16 by kernel_rfl] at hs
  obtain ⟨fuel, h⟩ := hd
  simp only [Value.cells] at h
  obtain ⟨a0, l0, q0, h0⟩ := take1 (l := cs.toList) (by simpa using hs)
  obtain ⟨a1, l1, rfl, h1⟩ := take1 h0
  obtain ⟨a2, l2, rfl, h2⟩ := take1 h1
  obtain ⟨a3, l3, rfl, h3⟩ := take1 h2
  obtain ⟨a4, l4, rfl, h4⟩ := take1 h3
  obtain ⟨a5, l5, rfl, h5⟩ := take1 h4
  obtain ⟨a6, l6, rfl, h6⟩ := take1 h5
  obtain ⟨a7, l7, rfl, h7⟩ := take1 h6
  obtain ⟨b0, b1, b2, b3, b4, b5, b6, b7, rfl⟩ := cells8 h7
  rw [q0] at h
  obtain ⟨m0, y0, e0⟩ := trod_field (i := 0) (t := 44) (o := 0) (k := 12) (by kernel_rfl) (by kernel_rfl) h
  obtain ⟨m1, y1, e1⟩ := trod_field (i := 1) (t := 34) (o := 12) (k := 2) (by kernel_rfl) (by kernel_rfl) h
  obtain ⟨m2, y2, e2⟩ := trod_field (i := 2) (t := 34) (o := 14) (k := 2) (by kernel_rfl) (by kernel_rfl) h
  have ha : arrOf (Try.prog.underlying 44) = some (12, 3) := by kernel_rfl
  simp only [List.drop_zero, List.take_succ_cons, List.take_zero] at e0
  obtain ⟨n0, r0, w0⟩ := int_at (i := 0) ha (by omega) rfl e0
  obtain ⟨n1, r1, w1⟩ := int_at (i := 1) ha (by omega) rfl e0
  obtain ⟨n2, r2, w2⟩ := int_at (i := 2) ha (by omega) rfl e0
  obtain ⟨n3, r3, w3⟩ := int_at (i := 3) ha (by omega) rfl e0
  obtain ⟨n4, r4, w4⟩ := int_at (i := 4) ha (by omega) rfl e0
  obtain ⟨n5, r5, w5⟩ := int_at (i := 5) ha (by omega) rfl e0
  obtain ⟨n6, r6, w6⟩ := int_at (i := 6) ha (by omega) rfl e0
  obtain ⟨n7, r7, w7⟩ := int_at (i := 7) ha (by omega) rfl e0
  obtain ⟨n8, r8, w8⟩ := int_at (i := 8) ha (by omega) rfl e0
  obtain ⟨n9, r9, w9⟩ := int_at (i := 9) ha (by omega) rfl e0
  obtain ⟨n10, r10, w10⟩ := int_at (i := 10) ha (by omega) rfl e0
  obtain ⟨n11, r11, w11⟩ := int_at (i := 11) ha (by omega) rfl e0
  obtain ⟨pl, ph, r12, r13, -⟩ := span_trod' e1
  obtain ⟨sl, sh, r14, r15, -⟩ := span_trod' e2
  rw [r0, r1, r2, r3, r4, r5, r6, r7, r8, r9, r10, r11, r12, r13, r14, r15] at q0
  exact ⟨_, _, _, _, _, _, _, _, _, _, _, _, _, _, _, _, by congr 1; exact Array.toList_inj.1 q0, w0, w1, w2, w3, w4, w5, w6, w7, w8, w9, w10, w11⟩
end
end Go.Proofs.Ytoembbcddhlokaa
