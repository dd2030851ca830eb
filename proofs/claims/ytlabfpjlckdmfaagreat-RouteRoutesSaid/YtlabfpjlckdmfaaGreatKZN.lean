/- Texts joined: KZN. -/
import Derived.Test.YtlabfpjlckdmfaaGreatKAH
import Derived.Test.YtlabfpjlckdmfaaGreatKAK
set_option linter.all false
namespace Go.Proofs.YtlabfpjlckdmfaaGreat
open Go Go.Shelf Go.RowKit Go.Lib Go.Sort Go.Proofs
set_option maxRecDepth 100000
set_option maxHeartbeats 8000000
structure MetAt (w : World) (vF vS : Value) (M : MetD) : Prop where
 f : ∃ A c, vF = .slice A M.n c ∧ M.n ≤ c ∧ c ≤ 9223372036854775807 ∧ RecsAt w A M.n 12 (fcV M.D M.B)
 s : ∃ A c, vS = .slice A M.m c ∧ M.m ≤ c ∧ c ≤ 9223372036854775807 ∧ RecsAt w A M.m 7 (siV M.E M.C)
theorem MetAt.below {w w' : World} {vF vS : Value} {M : MetD} (h : MetAt w vF vS M) (hb : Below w.heap.size w w') : MetAt w' vF vS M := by
 obtain ⟨⟨A, c, h1, h2, h3, h4⟩, ⟨A', c', k1, k2, k3, k4⟩⟩ := h
 exact ⟨⟨A, c, h1, h2, h3, h4.below hb⟩, ⟨A', c', k1, k2, k3, k4.below hb⟩⟩
theorem Tryz.sizeSet : (Tryz.prog.info? 152).map (·.size) = some 8 := by kernel_rfl
theorem one8 (b0 b1 b2 b3 b4 b5 : Int) (bi bs : Bool) : (#[.int .i64 b0, .int .i64 b1, .int .i64 b2, .int .i64 b3, .int .i64 b4, .int .i64 b5, .bool bi, .bool bs] : Array Value).all (·.oneCell') = true := by simp [Value.oneCell']
theorem below_row {B g : Nat} {w0 w : World} (hb : RowKit.Below B w0 w) (hBg : B ≤ g) (cs : Array Value) : RowKit.Below B w0 (w.setRow g cs) :=
 hb.trans ⟨rfl, rfl, rfl, by simp [World.setRow], fun k hk => setRow_other w g k cs (by omega)⟩
theorem Tryz.intI : (Tryz.prog.info? 3).map (fun i => (i.zero, i.size, i.bytes)) = some (some (.int .i64 0), 1, 8) := by kernel_rfl
theorem Tryz.intsU : Tryz.prog.underlying 35 = some (.slice 3) := by kernel_rfl
theorem owns_base {w : World} {base : Nat} {e : TypeId} {size : Nat} {v : Value} {n : Nat} {xs : List Value} (h : w.ownsRow base e size v n xs) {b : Nat} (hb : some b = v.ownBlock) : base ≤ b := by
 rcases h.2 with ⟨rfl, -⟩ | ⟨g, cap, cur, rfl, h2, -⟩
 ·cases hb
 ·have : b = g := by simpa [Value.ownBlock] using hb
  omega
theorem below_grown {w w' : World} {base : Nat} {o : Option Nat} (h : w.grownBy w' o) (hb : base ≤ w.heap.size) (ho : ∀ b, some b = o → base ≤ b) : RowKit.Below base w w' :=
 ⟨h.os, h.tape, h.output, h.size, fun k hk => h.block k (by omega) (fun e => by have := ho k e; omega)⟩
theorem Blk.under {W W' : World} {n B : Nat} {t : TypeId} {cs : Array Value} (h : Blk W n t cs) (hb : RowKit.Below B W W') (hn : n < B) : Blk W' n t cs := (hb.block n hn).trans h
theorem wpl_appN {ops : Array Oper} {rest : List Oper} {o : Oper} {a : Act} {w : World} {Q : Exit → Act → World → Prop} (hgd : o.guard = none) (s x : Operand)
  (ho : o.op = .call { callee := .builtin .append, args := #[s, x], argTypes := #[35, 35] }) (base : Nat) (v : Value) (xs : List Nat) (hs : a.eval s = v) (hown : w.ownsRow base 3 1 v xs.length (xs.map encN))
  (g k : Nat) (hx : a.eval x = .slice (some ⟨g, 0, none⟩) 1 1) (hc : w.cell? ⟨g, 0, none⟩ = some (encN k)) (h40 : xs.length ≤ 40) (hbase : base ≤ w.heap.size)
  (h : ∀ v' w', w'.ownsRow base 3 1 v' (xs ++ [k]).length ((xs ++ [k]).map encN) → w.grownBy w' v.ownBlock → v' ≠ .slice none 0 0 → wpList Tryz.prog ops Q rest (a.put o.dst v') w') : wpList Tryz.prog ops Q (o :: rest) a w := by
 have hI := Tryz.intI
 cases hi : Tryz.prog.info? 3 with
 | none => rw [hi] at hI; cases hI
 | some i =>
  rw [hi] at hI
  simp only [Option.map_some, Option.some.injEq, Prod.mk.injEq] at hI
  refine wpList_append_own w hgd s x 35 ho base 3 i (.int .i64 0) 1 8 Tryz.intsU hi hI.1 hI.2.1 hI.2.2 rfl (by decide) v xs.length (xs.map encN) hs hown ⟨g, 0, none⟩ 1 1 [encN k] hx rfl ?_ ?_ (by unfold maxLen; omega) (by omega) hbase ?_
  ·intro j u hj
   match j, hj with
   | 0, hj =>
    have : u = encN k := by simpa using hj.symm
    subst this
    exact hc
  ·intro u hu
   have : u = encN k := by simpa using hu
   subst this
   rfl
  ·intro v' w' h1 h2 h3
   refine h v' w' (by simpa using h1) h2 (fun e => ?_)
   have := (h3.1 e).2
   omega
theorem lays1 (M : MetD) (hn : M.n ≤ 40) {wr : World} {gm : Nat} {cs : Array Value} (hm : Blk wr gm 29 cs) (A : Option Addr) (c : Nat) (hv : cs[12]? = some (.slice A M.n c)) (hr : RecsAt wr A M.n 12 (fcV M.D M.B)) (blk : Nat) (h1 : gm ≠ blk)
  (h2 : ∀ b off, A = some ⟨b, off, none⟩ → b ≠ blk) (size : Nat) (_ : Inhabited (Fin M.n)) : CmpLays1 Tryz.prog 107 #[.pointer (some ⟨gm, 0, none⟩)] (fun i : Fin M.n => encN i.val) (fun x y => cmpI (M.D x.val 3) (M.D y.val 3)) blk 0 size wr := by
 intro m os dk hsz x y
 obtain ⟨bf, off, rfl, hbf, hc⟩ := hr (by have := x.isLt; omega)
 have hSW : SW (fun i : Fin M.n => encN i.val) wr blk 0 dk (sortWorld (fun i : Fin M.n => encN i.val) wr blk 0 m dk os) := ⟨m, os, rfl⟩
 refine (may1_c gm bf off M.n c x.val y.val (M.D x.val 3) (M.D y.val 3) _ (sortW_cell hSW ((hm.cell 12).trans hv) h1) x.isLt y.isLt hn (sortW_cell hSW (hc x.val x.isLt 3 (by omega)) (h2 _ _ rfl)) (sortW_cell hSW (hc y.val y.isLt 3 (by omega)) (h2 _ _ rfl))).mono ?_
 rintro e w' ⟨rfl, q, rfl⟩
 exact ⟨rfl, q, #[], (by rw [grow_empty])⟩
theorem lays2 (M : MetD) (hn : M.m ≤ 40) {wr : World} {gm : Nat} {cs : Array Value} (hm : Blk wr gm 29 cs) (A : Option Addr) (c : Nat) (hv : cs[13]? = some (.slice A M.m c)) (hr : RecsAt wr A M.m 7 (siV M.E M.C)) (blk : Nat) (h1 : gm ≠ blk)
  (h2 : ∀ b off, A = some ⟨b, off, none⟩ → b ≠ blk) (size : Nat) (_ : Inhabited (Fin M.m)) : CmpLays1 Tryz.prog 109 #[.pointer (some ⟨gm, 0, none⟩)] (fun i : Fin M.m => encN i.val) (fun x y => cmpI (M.E x.val 1) (M.E y.val 1)) blk 0 size wr := by
 intro m os dk hsz x y
 obtain ⟨bf, off, rfl, hbf, hc⟩ := hr (by have := x.isLt; omega)
 have hSW : SW (fun i : Fin M.m => encN i.val) wr blk 0 dk (sortWorld (fun i : Fin M.m => encN i.val) wr blk 0 m dk os) := ⟨m, os, rfl⟩
 refine (may2_c gm bf off M.m c x.val y.val (M.E x.val 1) (M.E y.val 1) _ (sortW_cell hSW ((hm.cell 13).trans hv) h1) x.isLt y.isLt hn (sortW_cell hSW (hc x.val x.isLt 1 (by omega)) (h2 _ _ rfl)) (sortW_cell hSW (hc y.val y.isLt 1 (by omega)) (h2 _ _ rfl))).mono ?_
 rintro e w' ⟨rfl, q, rfl⟩
 exact ⟨rfl, q, #[], (by rw [grow_empty])⟩
theorem Tryz.enters1 : ∀ args w, (callFunc 107 args).run Tryz.prog w = .ok (.enter 107 args) w := enters_of Tryz.func107 (by kernel_rfl) rfl
theorem Tryz.enters2 : ∀ args w, (callFunc 109 args).run Tryz.prog w = .ok (.enter 109 args) w := enters_of Tryz.func109 (by kernel_rfl) rfl
structure LoF (M : MetD) (vF vS : Value) (p t : Int) (w : World) (k : Nat) (v : Value) (wr : World) : Prop where
 b : RowKit.Below w.heap.size w wr
 m : Blk wr w.heap.size 29 #[.int .i64 M.places, .int .i64 M.any.a0, .int .i64 M.any.a1, .int .i64 M.any.a2, .int .i64 M.any.a3, .int .i64 M.any.a4, .int .i64 M.any.a5, .bool M.any.i, .bool M.any.s, .int .i64 M.mw, .int .i64 M.ms, .int .i64 M.mc, vF, vS]
 s : Blk wr (w.heap.size + 1) 152 M.any.cells
 o : wr.ownsRow (w.heap.size + 2) 3 1 v (M.cov p t k).length ((M.cov p t k).map encN)
 n : v = .slice none 0 0 ↔ M.cov p t k = []
 z : w.heap.size + 2 ≤ wr.heap.size
theorem LoF.grow {M : MetD} {vF vS : Value} {p t : Int} {w : World} {k : Nat} {v : Value} {wr w2 : World} (h : LoF M vF vS p t w k v wr) (hb : RowKit.Below wr.heap.size wr w2) : LoF M vF vS p t w k v w2 :=
 ⟨bthen h.b hb, h.m.below hb, h.s.below hb, ownsRow_below h.o hb, h.n, Nat.le_trans h.z hb.size⟩
theorem LoF.skip {M : MetD} {vF vS : Value} {p t : Int} {w : World} {k : Nat} {v : Value} {wr : World} (h : LoF M vF vS p t w k v wr) (hc : M.covP p t k = false) : LoF M vF vS p t w (k + 1) v wr := by
 have e : M.cov p t (k + 1) = M.cov p t k := by rw [M.cov_succ, hc]; simp
 exact ⟨h.b, h.m, h.s, by rw [e]; exact h.o, by rw [e]; exact h.n, h.z⟩
theorem LoF.take {M : MetD} {vF vS : Value} {p t : Int} {w : World} {k : Nat} {v v' : Value} {wr w2 : World} (h : LoF M vF vS p t w k v wr) (hc : M.covP p t k = true) (h1 : w2.ownsRow (w.heap.size + 2) 3 1 v' (M.cov p t k ++ [k]).length ((M.cov p t k ++ [k]).map encN))
  (h2g : wr.grownBy w2 v.ownBlock) (h3 : v' ≠ .slice none 0 0) : LoF M vF vS p t w (k + 1) v' w2 := by
 have h2 := below_grown h2g h.z (fun b hb => owns_base h.o hb)
 have e : M.cov p t (k + 1) = M.cov p t k ++ [k] := by rw [M.cov_succ, hc]; simp
 exact ⟨h.b.trans (h2.mono (by omega)), h.m.under h2 (by omega), h.s.under h2 (by omega), by rw [e]; exact h1, by rw [e]; simp [h3], Nat.le_trans h.z h2.size⟩
theorem owns_slice {w : World} {base : Nat} {e : TypeId} {size : Nat} {v : Value} {n : Nat} {xs : List Value} {l : List Nat} (h : w.ownsRow base e size v n xs) (hn : v = .slice none 0 0 → l = []) (hl : l.length = n := by rfl) : ∃ A c, v = .slice A n c := by
 rcases h.2 with ⟨rfl, -⟩ | ⟨g, cap, cur, rfl, -⟩
 ·have := hn rfl
  subst this
  exact ⟨none, 0, by rw [← hl]; rfl⟩
 ·exact ⟨_, _, rfl⟩
theorem stab_length (key : Nat → Int) (l : List Nat) : (stab key l).length = l.length := by unfold stab; exact List.length_mergeSort l
theorem But.under {g B : Nat} {a b c : World} (h : But g a b) (h2 : RowKit.Below B b c) (hB : a.heap.size ≤ B) : But g a c :=
 ⟨h2.os.trans h.os, h2.tape.trans h.tape, h2.output.trans h.output, Nat.le_trans h.size h2.size, fun k hk hg => (h2.block k (by omega)).trans (h.block k hk hg)⟩
theorem But.drew {g : Nat} {a b : World} (h : But g a b) : But g a b.drew := ⟨h.os, h.tape, h.output, h.size, h.block⟩
theorem But.grown {g : Nat} {a b c : World} {o : Option Nat} (h : But g a b) (hg : b.grownBy c o) (ho : ∀ q, some q = o → a.heap.size ≤ q) : But g a c :=
 ⟨hg.os.trans h.os, hg.tape.trans h.tape, hg.output.trans h.output, Nat.le_trans h.size hg.size, fun k hk hn => (hg.block k (Nat.lt_of_lt_of_le hk h.size) (fun e => by have := ho k e; omega)).trans (h.block k hk hn)⟩
theorem Blk.grown' {W W' : World} {n : Nat} {t : TypeId} {cs : Array Value} {o : Option Nat} (h : Blk W n t cs) (hg : W.grownBy W' o) (hne : ∀ b, some b = o → b ≠ n) : Blk W' n t cs :=
 (hg.block n h.lt (fun e => hne n e rfl)).trans h
def MetD.skyP (M : MetD) (l : List Nat) (j : Nat) : Sk := M.skyF (l.take j)
structure LoG (M : MetD) (p t : Int) (w w2 : World) (vs : Value) (j : Nat) (v : Value) (wr : World) : Prop where
 c : But (w.heap.size + 1) w2 wr
 s : Blk wr (w.heap.size + 1) 152 (M.skyP (M.ordF p t) j).cells
 o : wr.ownsRow w2.heap.size 3 1 v (M.oddF M.any ((M.ordF p t).take j)).length ((M.oddF M.any ((M.ordF p t).take j)).map encN)
 n : v = .slice none 0 0 ↔ M.oddF M.any ((M.ordF p t).take j) = []
 k : (M.skyP (M.ordF p t) j).inr = true
structure LoG0 (M : MetD) (vF vS : Value) (p t : Int) (w w2 : World) (vs : Value) : Prop where
 b : RowKit.Below w.heap.size w w2
 m : Blk w2 w.heap.size 29 #[.int .i64 M.places, .int .i64 M.any.a0, .int .i64 M.any.a1, .int .i64 M.any.a2, .int .i64 M.any.a3, .int .i64 M.any.a4, .int .i64 M.any.a5, .bool M.any.i, .bool M.any.s, .int .i64 M.mw, .int .i64 M.ms, .int .i64 M.mc, vF, vS]
 i : Ints w2 vs ((M.ordF p t).map castI)
 o : ∀ b, some b = vs.ownBlock → w.heap.size + 2 ≤ b
 z : w.heap.size + 2 ≤ w2.heap.size
theorem LoG.start (M : MetD) (vF vS : Value) (p t : Int) (w : World) {v : Value} {wr w2 : World} (h : LoF M vF vS p t w M.n v wr) (hk : M.any.inr = true) (hi : Ints w2 v ((stab (fun i => M.D i 3) (M.cov p t M.n)).map castI)) (hg : wr.grownBy w2 v.ownBlock) :
  LoG0 M vF vS p t w w2 v ∧ LoG M p t w w2 v 0 (.slice none 0 0) w2 := by
 have hb := below_grown hg h.z (fun b hb => owns_base h.o hb)
 refine ⟨⟨h.b.trans (hb.mono (by omega)), h.m.under hb (by omega), hi, fun b hb => owns_base h.o hb, Nat.le_trans h.z hb.size⟩, ⟨But.refl _ _, ?_, World.ownsRow_nil _ _ _ _, by simp [MetD.oddF], hk⟩⟩
 exact h.s.under hb (by omega)
theorem But.cell {g : Nat} {w w' : World} (h : But g w w') {a : Addr} {v : Value} (hc : w.cell? a = some v) (hne : a.block ≠ g) : w'.cell? a = some v := by
 rw [← hc]; exact World.cell?_of_block (w := w) (h.block a.block (blk_lt hc) hne)
theorem owns_lt {w : World} {base : Nat} {e : TypeId} {size : Nat} {v : Value} {n : Nat} {xs : List Value} (h : w.ownsRow base e size v n xs) {b : Nat} (hb : some b = v.ownBlock) : b < w.heap.size := by
 rcases h.2 with ⟨rfl, -⟩ | ⟨g, cap, cur, rfl, h2, h3, -⟩
 ·cases hb
 ·have : b = g := by simpa [Value.ownBlock] using hb
  subst this
  rcases Nat.lt_or_ge b w.heap.size with h' | h'
  ·exact h'
  ·rw [Array.getElem?_eq_none h'] at h3; cases h3
theorem owns_but {g : Nat} {w w' : World} {base : Nat} {e : TypeId} {size : Nat} {v : Value} {n : Nat} {xs : List Value} (h : w.ownsRow base e size v n xs) (hb : But g w w') (hg : g < base) : w'.ownsRow base e size v n xs := by
 obtain ⟨h1, h2⟩ := h
 refine ⟨h1, ?_⟩
 rcases h2 with h2 | ⟨q, cap, cur, hv, hq, hh, r⟩
 ·exact .inl h2
 ·have hlt : q < w.heap.size := by
   rcases Nat.lt_or_ge q w.heap.size with h' | h'
   ·exact h'
   ·rw [Array.getElem?_eq_none h'] at hh; cases hh
  exact .inr ⟨q, cap, cur, hv, hq, by rw [hb.block q hlt (by omega)]; exact hh, r⟩
theorem nth_cast (l : List Nat) (j : Nat) (h : j < l.length) : nth (l.map castI) j = ((l.getD j 0 : Nat) : Int) := by
 unfold nth; simp [castI, h]
theorem getD_mem (l : List Nat) (j : Nat) (h : j < l.length) : l.getD j 0 ∈ l := by
 simp [List.getD, h]
theorem take_getD (l : List Nat) (j : Nat) (h : j < l.length) : l.take (j + 1) = l.take j ++ [l.getD j 0] := by
 rw [List.take_succ]; simp [h]
theorem MetD.oddF_snoc (M : MetD) (i : Nat) : ∀ (l : List Nat) (x : Sk), M.oddF x (l ++ [i]) = M.oddF x l ++ (if (l.foldl M.stepF x).odd (M.fc i) then [i] else [])
 | [], x => by cases hc : x.odd (M.fc i) <;> simp [MetD.oddF, hc]
 | k :: l, x => by cases hc : x.odd (M.fc k) <;> simp [MetD.oddF, hc, M.oddF_snoc i l] <;> rfl
theorem MetD.oddF_len (M : MetD) : ∀ (l : List Nat) (x : Sk), (M.oddF x l).length ≤ l.length
 | [], _ => by simp [MetD.oddF]
 | k :: l, x => by
  have := M.oddF_len l (M.stepF x k)
  cases hc : x.odd (M.fc k) <;> simp [MetD.oddF, hc] <;> omega
theorem LoG.next {M : MetD} {p t : Int} {w w2 : World} {vs : Value} {j : Nat} {v : Value} {wr : World} (h : LoG M p t w w2 vs j v wr) (hM : M.Ok) (hj : j < (M.ordF p t).length) {i : Nat} (hi : i = (M.ordF p t).getD j 0) (hin : i < M.n) {x : Sk} (hx : M.skyP (M.ordF p t) j = x) {v' : Value} {w5 : World}
  (c : But (w.heap.size + 1) w2 w5) (s : Blk w5 (w.heap.size + 1) 152 (M.stepF x i).cells)
  (o : (x.odd (M.fc i) = false ∧ v' = v ∧ w5.ownsRow w2.heap.size 3 1 v (M.oddF M.any ((M.ordF p t).take j)).length ((M.oddF M.any ((M.ordF p t).take j)).map encN)) ∨
   (x.odd (M.fc i) = true ∧ v' ≠ .slice none 0 0 ∧ w5.ownsRow w2.heap.size 3 1 v' (M.oddF M.any ((M.ordF p t).take j) ++ [i]).length ((M.oddF M.any ((M.ordF p t).take j) ++ [i]).map encN))) :
  LoG M p t w w2 vs (j + 1) v' w5 := by
 have e1 : M.skyP (M.ordF p t) (j + 1) = M.stepF x i := by
  unfold MetD.skyP MetD.skyF at *
  rw [take_getD _ _ hj, List.foldl_append, hx, hi]; rfl
 have e2 : M.oddF M.any ((M.ordF p t).take (j + 1)) = M.oddF M.any ((M.ordF p t).take j) ++ (if x.odd (M.fc i) then [i] else []) := by
  rw [take_getD _ _ hj, M.oddF_snoc, ← hi]
  rw [show ((M.ordF p t).take j).foldl M.stepF M.any = x from hx]
 have hk := h.k
 rw [hx] at hk
 rcases o with ⟨o1, rfl, o2⟩ | ⟨o1, o2, o3⟩
 ·rw [o1] at e2
  simp only [Bool.false_eq_true, if_false, List.append_nil] at e2
  exact ⟨c, by rw [e1]; exact s, by rw [e2]; exact o2, by rw [e2]; exact h.n, by rw [e1]; exact hM.stepF hk hin⟩
 ·rw [o1] at e2
  simp only [if_true] at e2
  exact ⟨c, by rw [e1]; exact s, by rw [e2]; exact o3, by rw [e2]; simp [o2], by rw [e1]; exact hM.stepF hk hin⟩
structure LoI (M : MetD) (vF vS : Value) (p t : Int) (w wa : World) (v : Value) : Prop where
 b : RowKit.Below w.heap.size w wa
 m : Blk wa w.heap.size 29 #[.int .i64 M.places, .int .i64 M.any.a0, .int .i64 M.any.a1, .int .i64 M.any.a2, .int .i64 M.any.a3, .int .i64 M.any.a4, .int .i64 M.any.a5, .bool M.any.i, .bool M.any.s, .int .i64 M.mw, .int .i64 M.ms, .int .i64 M.mc, vF, vS]
 s : Blk wa (w.heap.size + 1) 152 (M.skyF (M.ordF p t)).cells
 o : wa.ownsRow (w.heap.size + 2) 3 1 v (M.odd p t).length ((M.odd p t).map encN)
 n : v = .slice none 0 0 ↔ M.odd p t = []
 k : (M.skyF (M.ordF p t)).inr = true
 z : w.heap.size + 2 ≤ wa.heap.size
theorem LoG.fin (M : MetD) (vF vS : Value) (p t : Int) (w : World) {w2 : World} {vs : Value} {j : Nat} {v : Value} {wr : World} (h0 : LoG0 M vF vS p t w w2 vs) (h : LoG M p t w w2 vs j v wr) (hj : (M.ordF p t).length = j) : LoI M vF vS p t w wr v := by
 have et : (M.ordF p t).take j = M.ordF p t := by rw [List.take_of_length_le (by omega)]
 have es : M.skyP (M.ordF p t) j = M.skyF (M.ordF p t) := by unfold MetD.skyP; rw [et]
 have ho := h.o
 have hn := h.n
 have hs := h.s
 have hk := h.k
 rw [et] at ho hn
 rw [es] at hs hk
 exact ⟨But.below h0.b (by have := h0.z; omega) h.c (by omega), h0.m.but h.c (by omega), hs, ownsRow_base ho h0.z, hn, hk, Nat.le_trans h0.z h.c.size⟩
structure LoH (M : MetD) (p t : Int) (wa : World) (k : Nat) (v : Value) (wr : World) : Prop where
 b : RowKit.Below wa.heap.size wa wr
 o : wr.ownsRow wa.heap.size 3 1 v (M.sen p t k).length ((M.sen p t k).map encN)
 n : v = .slice none 0 0 ↔ M.sen p t k = []
theorem LoH.grow {M : MetD} {p t : Int} {wa : World} {k : Nat} {v : Value} {wr w2 : World} (h : LoH M p t wa k v wr) (hb : RowKit.Below wr.heap.size wr w2) : LoH M p t wa k v w2 :=
 ⟨bthen h.b hb, ownsRow_below h.o hb, h.n⟩
theorem LoH.skip {M : MetD} {p t : Int} {wa : World} {k : Nat} {v : Value} {wr : World} (h : LoH M p t wa k v wr) (hc : M.senP p t k = false) : LoH M p t wa (k + 1) v wr := by
 have e : M.sen p t (k + 1) = M.sen p t k := by rw [M.sen_succ, hc]; simp
 exact ⟨h.b, by rw [e]; exact h.o, by rw [e]; exact h.n⟩
theorem LoH.take {M : MetD} {p t : Int} {wa : World} {k : Nat} {v v' : Value} {wr w2 : World} (h : LoH M p t wa k v wr) (hc : M.senP p t k = true) (h1 : w2.ownsRow wa.heap.size 3 1 v' (M.sen p t k ++ [k]).length ((M.sen p t k ++ [k]).map encN))
  (h2g : wr.grownBy w2 v.ownBlock) (h3 : v' ≠ .slice none 0 0) : LoH M p t wa (k + 1) v' w2 := by
 have e : M.sen p t (k + 1) = M.sen p t k ++ [k] := by rw [M.sen_succ, hc]; simp
 exact ⟨h.b.trans (below_grown h2g h.b.size (fun b hb => owns_base h.o hb)), by rw [e]; exact h1, by rw [e]; simp [h3]⟩
theorem owns_keep {w w' : World} {base : Nat} {e : TypeId} {size : Nat} {v : Value} {n : Nat} {xs : List Value} (h : w.ownsRow base e size v n xs) (hb : ∀ b, some b = v.ownBlock → w'.heap[b]? = w.heap[b]?) : w'.ownsRow base e size v n xs := by
 obtain ⟨h1, h2⟩ := h
 refine ⟨h1, ?_⟩
 rcases h2 with h2 | ⟨q, cap, cur, hv, hq, hh, r⟩
 ·exact .inl h2
 ·exact .inr ⟨q, cap, cur, hv, hq, by rw [hb q (by rw [hv]; rfl)]; exact hh, r⟩
def MetD.skyQ (M : MetD) (p t : Int) (j : Nat) : Sk := ((M.ordS p t).take j).foldl (M.stepS t) (M.skyF (M.ordF p t))
structure LoK0 (M : MetD) (vF vS : Value) (p t : Int) (w wb : World) (v v9 : Value) : Prop where
 b : RowKit.Below w.heap.size w wb
 m : Blk wb w.heap.size 29 #[.int .i64 M.places, .int .i64 M.any.a0, .int .i64 M.any.a1, .int .i64 M.any.a2, .int .i64 M.any.a3, .int .i64 M.any.a4, .int .i64 M.any.a5, .bool M.any.i, .bool M.any.s, .int .i64 M.mw, .int .i64 M.ms, .int .i64 M.mc, vF, vS]
 i : Ints wb v9 ((M.ordS p t).map castI)
 o9 : ∀ b, some b = v9.ownBlock → w.heap.size + 2 ≤ b
 o : wb.ownsRow (w.heap.size + 2) 3 1 v (M.odd p t).length ((M.odd p t).map encN)
 n : v = .slice none 0 0 ↔ M.odd p t = []
 z : w.heap.size + 2 ≤ wb.heap.size
structure LoK (M : MetD) (p t : Int) (w wb : World) (j : Nat) (wr : World) : Prop where
 c : But (w.heap.size + 1) wb wr
 s : Blk wr (w.heap.size + 1) 152 (M.skyQ p t j).cells
 k : (M.skyQ p t j).inr = true
theorem LoK.start (M : MetD) (vF vS : Value) (p t : Int) (w : World) {wa wr wb : World} {v v9 : Value} (h0 : LoI M vF vS p t w wa v) (h : LoH M p t wa M.m v9 wr) (hi : Ints wb v9 ((stab (fun i => M.E i 1) (M.sen p t M.m)).map castI)) (hg : wr.grownBy wb v9.ownBlock) :
  LoK0 M vF vS p t w wb v v9 ∧ LoK M p t w wb 0 wb := by
 have hb := below_grown hg h.b.size (fun b hb => owns_base h.o hb)
 have hB : RowKit.Below wa.heap.size wa wb := h.b.trans hb
 have hz := h0.z
 refine ⟨⟨bthen h0.b hB, h0.m.below hB, hi, fun b hb => Nat.le_trans hz (owns_base h.o hb), owns_keep h0.o (fun b hb => hB.block b (owns_lt h0.o hb)), h0.n, Nat.le_trans hz hB.size⟩, ⟨But.refl _ _, h0.s.below hB, h0.k⟩⟩
theorem LoK.next {M : MetD} {p t : Int} {w wb : World} {j : Nat} {wr : World} (h : LoK M p t w wb j wr) (hM : M.Ok) (hj : j < (M.ordS p t).length) {i : Nat} (hi : i = (M.ordS p t).getD j 0) (hin : i < M.m) (hit : M.E i 1 ≤ t) {x : Sk} (hx : M.skyQ p t j = x) {w5 : World}
  (c : But (w.heap.size + 1) wb w5) (s : Blk w5 (w.heap.size + 1) 152 (M.stepS t x i).cells) : LoK M p t w wb (j + 1) w5 := by
 have e1 : M.skyQ p t (j + 1) = M.stepS t x i := by
  unfold MetD.skyQ at *
  rw [take_getD _ _ hj, List.foldl_append, hx, hi]; rfl
 have hk := h.k
 rw [hx] at hk
 exact ⟨c, by rw [e1]; exact s, by rw [e1]; exact hM.stepS hk hin hit⟩
theorem LoK.fin (M : MetD) (vF vS : Value) (p t : Int) (w : World) {wb wr : World} {v v9 : Value} {j : Nat} (h0 : LoK0 M vF vS p t w wb v v9) (h : LoK M p t w wb j wr) (hj : (M.ordS p t).length = j) :
  RowKit.Below w.heap.size w wr ∧ Blk wr (w.heap.size + 1) 152 (M.may p t).cells ∧ wr.ownsRow (w.heap.size + 2) 3 1 v (M.odd p t).length ((M.odd p t).map encN) := by
 have et : M.skyQ p t j = M.may p t := by unfold MetD.skyQ MetD.may; rw [List.take_of_length_le (by omega)]
 have hs := h.s
 rw [et] at hs
 exact ⟨But.below h0.b (by have := h0.z; omega) h.c (by omega), hs, owns_but h0.o h.c (by omega)⟩
theorem MetD.oddF_mem (M : MetD) : ∀ (l : List Nat) (x : Sk) (y : Nat), y ∈ M.oddF x l → y ∈ l
 | [], _, _, h => by simp [MetD.oddF] at h
 | k :: l, x, y, h => by
  cases hc : x.odd (M.fc k)
  ·simp only [MetD.oddF, hc] at h
   exact List.mem_cons_of_mem _ (M.oddF_mem l _ y (by simpa using h))
  ·simp only [MetD.oddF, hc, if_true, List.mem_cons] at h
   rcases h with rfl | h
   ·exact List.mem_cons_self
   ·exact List.mem_cons_of_mem _ (M.oddF_mem l _ y h)
theorem MetD.odd_mem (M : MetD) (h : M.Ok) (p t : Int) : (∀ x ∈ M.odd p t, x < M.n) ∧ (M.odd p t).length ≤ 40 := by
 refine ⟨fun x hx => M.cov_lt (stab_mem.1 (M.oddF_mem _ _ x hx)), Nat.le_trans (M.oddF_len _ _) ?_⟩
 unfold MetD.ordF
 rw [stab_length]
 exact Nat.le_trans (M.cov_len p t M.n) h.n
theorem Ints.under' {w : World} {v : Value} {xs : List Int} {g : Nat} (h : Ints w v xs) (hg : g < w.heap.size ∨ True) (hn : ∀ b, some b = v.ownBlock → b ≠ g) (us : Array Value) : Ints (w.setRow g us) v xs := by
 obtain ⟨A, c, rfl, h1, h2, h3, h4⟩ := h
 refine ⟨A, c, rfl, h1, h2, h3, fun hp => ?_⟩
 obtain ⟨b, off, rfl, hb, hc⟩ := h4 hp
 have hne : b ≠ g := hn b rfl
 refine ⟨b, off, rfl, ?_, fun k hk => ?_⟩
 ·show b < (w.setRow g us).heap.size
  unfold World.setRow
  simpa using hb
 ·rw [← hc k hk]
  exact World.cell?_of_block (w := w) (setRow_other w g b us hne)
def siR (gT gm : Nat) (e2 e3 e4 n m1 m2 m3 p1 p2 p3 l1 h1 l2 h2 l3 h3 : Int) : Nat → Value → World → Prop
 | 0, v, _ => v = .pointer (some ⟨gT, 2, none⟩)
 | 1, v, _ => v = .pointer (some ⟨gT, 2, none⟩)
 | 2, v, _ => v = .int .i64 e2
 | 3, v, _ => v = .int .i64 n
 | 4, v, _ => v = .pointer (some ⟨gm, 9, none⟩)
 | 5, v, _ => v = .int .i64 m1
 | 6, v, _ => v = .int .i64 p1
 | 7, v, _ => v = .agg #[.int .i64 l1, .int .i64 h1]
 | 8, v, _ => v = .pointer (some ⟨gT, 2, none⟩)
 | 9, v, _ => v = .pointer (some ⟨gT, 3, none⟩)
 | 10, v, _ => v = .int .i64 e3
 | 11, v, _ => v = .int .i64 n
 | 12, v, _ => v = .pointer (some ⟨gm, 10, none⟩)
 | 13, v, _ => v = .int .i64 m2
 | 14, v, _ => v = .int .i64 p2
 | 15, v, _ => v = .agg #[.int .i64 l2, .int .i64 h2]
 | 16, v, _ => v = .pointer (some ⟨gT, 2, none⟩)
 | 17, v, _ => v = .pointer (some ⟨gT, 4, none⟩)
 | 18, v, _ => v = .int .i64 e4
 | 19, v, _ => v = .int .i64 n
 | 20, v, _ => v = .pointer (some ⟨gm, 11, none⟩)
 | 21, v, _ => v = .int .i64 m3
 | 22, v, _ => v = .int .i64 p3
 | 23, v, _ => v = .agg #[.int .i64 l3, .int .i64 h3]
 | 24, v, _ => v = .agg #[.int .i64 l1, .int .i64 h1, .int .i64 l2, .int .i64 h2, .int .i64 l3, .int .i64 h3, .bool false, .bool false]
 | _, _, _ => True
theorem siR_below {gT gm : Nat} {e2 e3 e4 n m1 m2 m3 p1 p2 p3 l1 h1 l2 h2 l3 h3 : Int} (k : Nat) (v : Value) (w w' : World) (hb : Below w.heap.size w w') (h : siR gT gm e2 e3 e4 n m1 m2 m3 p1 p2 p3 l1 h1 l2 h2 l3 h3 k v w) : siR gT gm e2 e3 e4 n m1 m2 m3 p1 p2 p3 l1 h1 l2 h2 l3 h3 k v w' := by
 unfold siR at *
 split at h <;> first | exact h
theorem may_c (M : MetD) (vF vS : Value) (p t : Int) (w : World) (hM : M.Ok) (hA : MetAt w vF vS M) (ht0 : 0 ≤ t) (ht1 : t ≤ 2000) :
  Calls Tryz.prog 97 #[.agg #[.int .i64 M.places, .int .i64 M.any.a0, .int .i64 M.any.a1, .int .i64 M.any.a2, .int .i64 M.any.a3, .int .i64 M.any.a4, .int .i64 M.any.a5, .bool M.any.i, .bool M.any.s, .int .i64 M.mw, .int .i64 M.ms, .int .i64 M.mc, vF, vS], .int .i64 p, .int .i64 t] w fun e w' => ∃ (v : Value) (ys : List Nat), e = .returned (.tuple #[.agg (M.may p t).cells, v]) ∧ Below w.heap.size w w' ∧ Ints w' v (ys.map castI) ∧ ys.Perm (M.odd p t) := by
 have mixed : Tryz.prog.follows Departure.mixedOrders = true := by kernel_rfl
 have HM := hI9 hM
 have HA := hI9 hA
 obtain ⟨⟨A, cF, rfl, hF1, hF2, -⟩, ⟨A2, cS, rfl, hS1, hS2, -⟩⟩ := hA
 clear hM
 go_enter Tryz.func97, Tryz.ntmps97
 go_wp2_with (fail)
 have _x := frm2 w #[.int .i64 M.places, .int .i64 M.any.a0, .int .i64 M.any.a1, .int .i64 M.any.a2, .int .i64 M.any.a3, .int .i64 M.any.a4, .int .i64 M.any.a5, .bool M.any.i, .bool M.any.s, .int .i64 M.mw, .int .i64 M.ms, .int .i64 M.mc, .slice A M.n cF, .slice A2 M.m cS] 29 #[.int .i64 M.any.a0, .int .i64 M.any.a1, .int .i64 M.any.a2, .int .i64 M.any.a3, .int .i64 M.any.a4, .int .i64 M.any.a5, .bool M.any.i, .bool M.any.s] 152
 have HX := hI9 _x.1
 have HS := hI9 _x.2.1
 have HB := hI9 _x.2.2.1
 have zW := _x.2.2.2
 clear _x
 generalize World.alloc (World.alloc w _) _ = W at *
 have L0 := hI9 (show LoF M (.slice A M.n cF) (.slice A2 M.m cS) p t w 0 (.slice none 0 0) W from ⟨HB.out, HX.out, HS.out, World.ownsRow_nil _ _ _ _, by simp [MetD.cov], HS.out.lt⟩)
 clear HX HS HB
 go_loopg [8, 27] M.n (fun gx v i wr => ∃ k : Nat, i = .int .i64 k ∧ k ≤ M.n ∧ M.n - k ≤ gx ∧ Hid (LoF M (.slice A M.n cF) (.slice A2 M.m cS) p t w k v wr))
 case atStart => exact ⟨0, rfl, Nat.zero_le _, Nat.le_refl _, L0⟩
 case round =>
  clear L0
  obtain ⟨k, rfl, hk, hgx, L0⟩ := hrel
  by_cases hlt : k < M.n
  ·have hltz : (k : Int) < (M.n : Int) := by omega
   obtain ⟨A', c', hA', -, -, hrec⟩ := HA.out.f
   simp only [Value.slice.injEq] at hA'
   obtain ⟨rfl, -, rfl⟩ := hA'
   obtain ⟨bf, off, rfl, hbf, hcell⟩ := hrec (by omega)
   have hcr : ∀ j, j < 12 → wr.cell? ⟨bf, off + k * 12 + j, none⟩ = some (fcV M.D M.B k j) := fun j hj => (L0.out.b.cell (p := ⟨bf, off + k * 12 + j, none⟩) hbf).trans (hcell k hlt j hj)
   have c0 : wr.cell? ⟨bf, off + k * 12, none⟩ = some (.int .i64 (M.D k 0)) := hcr 0 (by omega)
   have c1 : wr.cell? ⟨bf, off + k * 12 + 1, none⟩ = some (.int .i64 (M.D k 1)) := hcr 1 (by omega)
   have c2 : wr.cell? ⟨bf, off + k * 12 + 2, none⟩ = some (.int .i64 (M.D k 2)) := hcr 2 (by omega)
   have c3 : wr.cell? ⟨bf, off + k * 12 + 3, none⟩ = some (.int .i64 (M.D k 3)) := hcr 3 (by omega)
   have c4 : wr.cell? ⟨bf, off + k * 12 + 4, none⟩ = some (.int .i64 (M.D k 4)) := hcr 4 (by omega)
   have c5 : wr.cell? ⟨bf, off + k * 12 + 5, none⟩ = some (.int .i64 (M.D k 5)) := hcr 5 (by omega)
   have c6 : wr.cell? ⟨bf, off + k * 12 + 6, none⟩ = some (.int .i64 (M.D k 6)) := hcr 6 (by omega)
   have c7 : wr.cell? ⟨bf, off + k * 12 + 7, none⟩ = some (.int .i64 (M.D k 7)) := hcr 7 (by omega)
   have c8 : wr.cell? ⟨bf, off + k * 12 + 8, none⟩ = some (.int .i64 (M.D k 8)) := hcr 8 (by omega)
   have c9 : wr.cell? ⟨bf, off + k * 12 + 9, none⟩ = some (.int .i64 (M.D k 9)) := hcr 9 (by omega)
   have c10 : wr.cell? ⟨bf, off + k * 12 + 10, none⟩ = some (.bool (M.B k 10)) := hcr 10 (by omega)
   have c11 : wr.cell? ⟨bf, off + k * 12 + 11, none⟩ = some (.bool (M.B k 11)) := hcr 11 (by omega)
   have ft := HM.out.ft k hlt
   have hkk : k ≤ 40 := by have := HM.out.n; omega
   clear hcr hcell hrec
   have hz := L0.out.z
   have HL := hI9 (M.cov_len p t k)
   cases hcp : M.covP p t k with
   | true =>
    have hcp2 := hcp
    unfold MetD.covP at hcp2
    simp only [Bool.and_eq_true, decide_eq_true_eq] at hcp2
    have e0 : (M.D k 0 == p) = true := by simp [hcp2.1]
    have e1 := hcp2.2
    have HC := hI9 hcp
    clear hcp hcp2
    go_wp2_with (first | (go_at_call 69; (with_reducible refine (wwithin_c _ _ _ _).mono ?_); rintro e w1 ⟨rfl, rfl⟩) | (at_builtin; go_loud (refine wpl_appN rfl _ _ rfl (w.heap.size + 2) _ (M.cov p t k) rfl ((L0.out.o.alloc _).alloc _) _ k rfl ?c1 (by have := HL.out; omega) ?c2 ?_)))
    case c1 => simp [encN]
    case c2 => simp; omega
    ·intro v2 w2 O2 B2 N2
     have L2 := hI9 ((L0.out.grow (bal (bal (RowKit.Below.refl _ _) _) _)).take HC.out (by simpa using O2) B2 N2)
     clear O2 B2 N2 L0
     go_wp2
     go_roundg (M.n - (k + 1))
     case measure => omega
     case rel => exact ⟨k + 1, by first | rfl | go_num | (congr 1; omega), by omega, Nat.le_refl _, L2⟩
   | false =>
    have L2 := hI9 ((L0.out.grow (bal (RowKit.Below.refl _ _) (.cells #[.int .i64 (M.D k 0), .int .i64 (M.D k 1), .int .i64 (M.D k 2), .int .i64 (M.D k 3), .int .i64 (M.D k 4), .int .i64 (M.D k 5), .int .i64 (M.D k 6), .int .i64 (M.D k 7), .int .i64 (M.D k 8), .int .i64 (M.D k 9), .bool (M.B k 10), .bool (M.B k 11)] 98))).skip hcp)
    have hcp2 := hcp
    unfold MetD.covP at hcp2
    by_cases hp : M.D k 0 = p
    ·rw [show decide (M.D k 0 = p) = true by simp [hp], Bool.true_and] at hcp2
     have e0 : (M.D k 0 == p) = true := by simp [hp]
     have e1 := hcp2
     clear hcp hcp2 L0 hp
     go_wp2_with (first | (go_at_call 69; (with_reducible refine (wwithin_c _ _ _ _).mono ?_); rintro e w1 ⟨rfl, rfl⟩))
     go_roundg (M.n - (k + 1))
     case measure => omega
     case rel => exact ⟨k + 1, by first | rfl | go_num | (congr 1; omega), by omega, Nat.le_refl _, L2⟩
    ·have e0 : (M.D k 0 == p) = false := by simp [hp]
     clear hcp hcp2 L0 hp
     go_wp2_with (first | (go_at_call 69; (with_reducible refine (wwithin_c _ _ _ _).mono ?_); rintro e w1 ⟨rfl, rfl⟩))
     go_roundg (M.n - (k + 1))
     case measure => omega
     case rel => exact ⟨k + 1, by first | rfl | go_num | (congr 1; omega), by omega, Nat.le_refl _, L2⟩
  ·have hltz : ¬ (k : Int) < (M.n : Int) := by omega
   obtain rfl : k = M.n := by omega
   obtain ⟨A3, c3, rfl⟩ := owns_slice L0.out.o L0.out.n.1
   obtain ⟨A', c', hA', -, -, hrec⟩ := HA.out.f
   simp only [Value.slice.injEq] at hA'
   obtain ⟨rfl, -, rfl⟩ := hA'
   have hsrt := sortRow_c (n := M.n) (fun i => M.D i 3) 107 #[.pointer (some ⟨w.heap.size, 0, none⟩)] Tryz.enters1 (w.heap.size + 2) _ (M.cov p t M.n) wr L0.out.o L0.out.n.2 L0.out.n.1
    (fun x hx => M.cov_lt hx) (by have := HM.out.n; omega) (M.cov_inc p t M.n) (by have := M.cov_len p t M.n; have := HM.out.n; omega)
    (fun inst blk hb => lays1 M HM.out.n L0.out.m _ _ rfl (hrec.below L0.out.b) blk (by have := owns_base L0.out.o hb; omega) (fun b off he => by
     have := owns_base L0.out.o hb
     by_cases hn0 : 0 < M.n
     ·obtain ⟨b', off', h1, h2, -⟩ := hrec hn0
      rw [he] at h1
      simp only [Option.some.injEq, Addr.mk.injEq] at h1
      omega
     ·exact absurd inst.default.isLt (by omega)) _ inst)
   have SR := hI9 hsrt
   clear hsrt hrec
   go_wp2_with (go_at_call 106; refine SR.out.mono ?_; rintro _ w2 ⟨rfl, I2, G2⟩)
   have L1 := hI9 (LoG.start M (.slice A M.n cF) (.slice A2 M.m cS) p t w L0.out HM.out.any I2 G2)
   clear SR L0 I2 G2
   have hl3 : (M.ordF p t).length = (M.cov p t M.n).length := stab_length _ _
   go_loopg [7, 55] (M.cov p t M.n).length (fun gx v i wr => ∃ j : Nat, i = .int .i64 j ∧ j ≤ (M.cov p t M.n).length ∧ (M.cov p t M.n).length - j ≤ gx ∧ Hid (LoG M p t w w2 (.slice A3 (M.cov p t M.n).length c3) j v wr))
   case atStart => exact ⟨0, rfl, Nat.zero_le _, Nat.le_refl _, L1.out.2⟩
   case round =>
    obtain ⟨j, rfl, hj, hgx, L2⟩ := hrel
    by_cases hlt : j < (M.cov p t M.n).length
    ·have hltz : (j : Int) < ((M.cov p t M.n).length : Int) := by omega
     obtain ⟨A', c', hA', -, -, hrec⟩ := HA.out.f
     simp only [Value.slice.injEq] at hA'
     obtain ⟨rfl, -, rfl⟩ := hA'
     obtain ⟨A4, cc4, hA4, -, -, -, hcl⟩ := L1.out.1.i
     simp only [Value.slice.injEq] at hA4
     obtain ⟨rfl, -, rfl⟩ := hA4
     have hjl : j < (M.ordF p t).length := by omega
     obtain ⟨b3, o3, rfl, hb3, hcl⟩ := hcl (by rw [List.length_map]; omega)
     obtain ⟨i, hi⟩ : ∃ q, q = (M.ordF p t).getD j 0 := ⟨_, rfl⟩
     have him : i < M.n := by rw [hi]; exact M.cov_lt (stab_mem.1 (getD_mem _ _ hjl))
     have HI := hI9 hi
     obtain ⟨bf, off, rfl, hbf, hcell⟩ := hrec (by omega)
     have hb3g := L1.out.1.o b3 rfl
     have hz2 := L1.out.1.z
     have hlen : (M.cov p t M.n).length ≤ 40 := by have := M.cov_len p t M.n; have := HM.out.n; omega
     have ci : wr.cell? ⟨b3, o3 + j, none⟩ = some (.int .i64 (i : Int)) := L2.out.c.cell ((hcl j (by rw [List.length_map]; exact hjl)).trans (by rw [hi, ← nth_cast _ _ hjl])) (by show b3 ≠ _; omega)
     have cm : wr.cell? ⟨w.heap.size, 12, none⟩ = some (.slice (some ⟨bf, off, none⟩) M.n cF) := (L1.out.1.m.but L2.out.c (by omega)).cell 12
     have hcr : ∀ q, q < 12 → wr.cell? ⟨bf, off + i * 12 + q, none⟩ = some (fcV M.D M.B i q) := fun q hq => L2.out.c.cell ((L1.out.1.b.cell (p := ⟨bf, off + i * 12 + q, none⟩) hbf).trans (hcell i him q hq)) (by show bf ≠ _; omega)
     have c4 : wr.cell? ⟨bf, off + i * 12 + 4, none⟩ = some (.int .i64 (M.D i 4)) := hcr 4 (by omega)
     have c5 : wr.cell? ⟨bf, off + i * 12 + 5, none⟩ = some (.int .i64 (M.D i 5)) := hcr 5 (by omega)
     have c6 : wr.cell? ⟨bf, off + i * 12 + 6, none⟩ = some (.int .i64 (M.D i 6)) := hcr 6 (by omega)
     have c7 : wr.cell? ⟨bf, off + i * 12 + 7, none⟩ = some (.int .i64 (M.D i 7)) := hcr 7 (by omega)
     have c8 : wr.cell? ⟨bf, off + i * 12 + 8, none⟩ = some (.int .i64 (M.D i 8)) := hcr 8 (by omega)
     have c9 : wr.cell? ⟨bf, off + i * 12 + 9, none⟩ = some (.int .i64 (M.D i 9)) := hcr 9 (by omega)
     have c10 : wr.cell? ⟨bf, off + i * 12 + 10, none⟩ = some (.bool (M.B i 10)) := hcr 10 (by omega)
     have c11 : wr.cell? ⟨bf, off + i * 12 + 11, none⟩ = some (.bool (M.B i 11)) := hcr 11 (by omega)
     have x1 : (i : Int) < (M.n : Int) := by omega
     have hn40 := HM.out.n
     have hs := L2.out.s
     have hk := L2.out.k
     rcases hx : M.skyP (M.ordF p t) j with ⟨a0, a1, a2, a3, a4, a5, xi, xs⟩
     rw [hx] at hs hk
     have ok1 := Sk.inr_ok hk
     have ok2 := Sk.inr_ok (HM.out.fs i him)
     unfold Sk.ok at ok1 ok2
     have OK1 := hI9 ok1
     have OK2 := hI9 ok2
     have HS := hI9 (show Blk wr (w.heap.size + 1) 152 #[.int .i64 a0, .int .i64 a1, .int .i64 a2, .int .i64 a3, .int .i64 a4, .int .i64 a5, .bool xi, .bool xs] from hs)
     have HX := hI9 hx
     clear hi hx hs hk ok1 ok2 hcr hcell hcl hrec hjl
     go_wp2_with (fail)
     have HT := hI9 (Blk.new wr 25 #[.int .i64 (M.D i 4), .int .i64 (M.D i 5), .int .i64 (M.D i 6), .int .i64 (M.D i 7), .int .i64 (M.D i 8), .int .i64 (M.D i 9), .bool (M.B i 10), .bool (M.B i 11)])
     have HS2 := hI9 (HS.out.alloc (.cells #[.int .i64 (M.D i 4), .int .i64 (M.D i 5), .int .i64 (M.D i 6), .int .i64 (M.D i 7), .int .i64 (M.D i 8), .int .i64 (M.D i 9), .bool (M.B i 10), .bool (M.B i 11)] 25))
     have HO2 := hI9 (L2.out.o.alloc (.cells #[.int .i64 (M.D i 4), .int .i64 (M.D i 5), .int .i64 (M.D i 6), .int .i64 (M.D i 7), .int .i64 (M.D i 8), .int .i64 (M.D i 9), .bool (M.B i 10), .bool (M.B i 11)] 25))
     have HC2 := hI9 (L2.out.c.trans (But.of (bal (RowKit.Below.refl _ _) (.cells #[.int .i64 (M.D i 4), .int .i64 (M.D i 5), .int .i64 (M.D i 6), .int .i64 (M.D i 7), .int .i64 (M.D i 8), .int .i64 (M.D i 9), .bool (M.B i 10), .bool (M.B i 11)] 25))))
     have zz := L2.out.c.size
     have hgt : wr.heap.size ≠ w.heap.size + 1 := by omega
     clear HS c4 c5 c6 c7 c8 c9 c10 c11 ci cm
     have hcut := scut_c (w.heap.size + 1) a0 a1 a2 a3 a4 a5 (M.D i 4) (M.D i 5) (M.D i 6) (M.D i 7) (M.D i 8) (M.D i 9) xi xs (M.B i 10) (M.B i 11) _ HS2.out OK1.out.1 OK1.out.2.1 OK1.out.2.2 OK2.out.1 OK2.out.2.1 OK2.out.2.2
     generalize wr.alloc (.cells #[.int .i64 (M.D i 4), .int .i64 (M.D i 5), .int .i64 (M.D i 6), .int .i64 (M.D i 7), .int .i64 (M.D i 8), .int .i64 (M.D i 9), .bool (M.B i 10), .bool (M.B i 11)] 25) = W3 at *
     refine hcut.mono ?_
     clear hcut
     rintro _ w4 ⟨rfl, B4, S4⟩
     have T4 := HT.out.but B4 hgt
     have O4 := hI9 (owns_but HO2.out B4 (by omega))
     have C4 := hI9 (HC2.out.trans B4)
     clear B4 HT HS2 HO2 HC2
     cases hodd : skF a0 a1 a2 a3 a4 a5 (M.D i 4) (M.D i 5) (M.D i 6) (M.D i 7) (M.D i 8) (M.D i 9) with
     | false =>
      have HODD := hI9 hodd
      clear hodd
      have c6 := S4.cell 6
      have c7 := S4.cell 7
      have f6 := S4.frozen 6
      have f7 := S4.frozen 7
      have t6 := T4.cell 6
      have t7 := T4.cell 7
      simp only [gtA, gtS, gtZ] at c6 c7 t6 t7
      have S5 := hI9 S4
      clear S4 T4
      cases xi <;> cases xs
      all_goals
       go_wp2_with (fail)
       go_big_region_o
       go_wp2_with (fail)
       go_roundg ((M.cov p t M.n).length - (j + 1))
       case measure => omega
       case rel => exact ⟨j + 1, by first | rfl | go_num | (congr 1; omega), by omega, Nat.le_refl _, L2.out.next HM.out (by omega) HI.out him HX.out (((C4.out.set _).set _).drew) ((S5.out.set_ 6 _).set_ 7 _) (.inl ⟨HODD.out, rfl, owns_but O4.out (((But.refl _ _).set _).set _).drew (by omega)⟩)⟩
     | true =>
      have HODD := hI9 hodd
      clear hodd
      have T5 := hI9 T4
      have S6 := hI9 S4
      clear T4 S4
      go_wp2_with (at_builtin; go_loud (refine wpl_appN rfl _ _ rfl w2.heap.size _ (M.oddF M.any ((M.ordF p t).take j)) rfl (O4.out.alloc _) _ i rfl ?d1 ?d3 ?d2 ?_))
      case d1 => simp [encN]
      case d3 => exact Nat.le_trans (M.oddF_len _ _) (by rw [List.length_take]; omega)
      case d2 => simp; have := C4.out.size; omega
      ·intro v5 w5 O5 G5 N5
       have T4 := (T5.out.alloc (.cells #[.int .i64 (i : Int)] 3)).grown' G5 (fun b hb => by have := owns_lt L2.out.o hb; omega)
       have S4 := (S6.out.alloc (.cells #[.int .i64 (i : Int)] 3)).grown' G5 (fun b hb => by have := owns_base L2.out.o hb; omega)
       have C5 := hI9 ((C4.out.trans (But.of (bal (RowKit.Below.refl _ _) (.cells #[.int .i64 (i : Int)] 3)))).grown G5 (fun b hb => owns_base L2.out.o hb))
       have OO := hI9 (show w5.ownsRow w2.heap.size 3 1 v5 (M.oddF M.any ((M.ordF p t).take j) ++ [i]).length ((M.oddF M.any ((M.ordF p t).take j) ++ [i]).map encN) from by simpa using O5)
       have NN := hI9 N5
       clear T5 S6 C4 O4 O5 G5 N5
       have C4 := C5
       clear C5
       have c6 := S4.cell 6
       have c7 := S4.cell 7
       have f6 := S4.frozen 6
       have f7 := S4.frozen 7
       have t6 := T4.cell 6
       have t7 := T4.cell 7
       simp only [gtA, gtS, gtZ] at c6 c7 t6 t7
       have S5 := hI9 S4
       clear S4 T4
       cases xi <;> cases xs
       all_goals
        go_wp2_with (fail)
        go_big_region_o
        go_wp2_with (fail)
        go_roundg ((M.cov p t M.n).length - (j + 1))
        case measure => omega
        case rel => exact ⟨j + 1, by first | rfl | go_num | (congr 1; omega), by omega, Nat.le_refl _, L2.out.next HM.out (by omega) HI.out him HX.out (((C4.out.set _).set _).drew) ((S5.out.set_ 6 _).set_ 7 _) (.inr ⟨HODD.out, NN.out, owns_but OO.out (((But.refl _ _).set _).set _).drew (by omega)⟩)⟩
    ·have hltz : ¬ (j : Int) < ((M.cov p t M.n).length : Int) := by omega
     obtain rfl : j = (M.cov p t M.n).length := by omega
     have FA := hI9 (LoG.fin M (.slice A M.n cF) (.slice A2 M.m cS) p t w L1.out.1 L2.out hl3)
     clear L1 L2
     have hzA := FA.out.z
     have hmA : wr.cell? ⟨w.heap.size, 13, none⟩ = some (.slice A2 M.m cS) := FA.out.m.cell 13
     go_wp2_with (fail)
     clear hmA
     have L0 := hI9 (show LoH M p t wr 0 (.slice none 0 0) wr from ⟨RowKit.Below.refl _ _, World.ownsRow_nil _ _ _ _, by simp [MetD.sen]⟩)
     generalize wr = wa at *
     go_loopg [9, 93] M.m (fun gx v i wr => ∃ k : Nat, i = .int .i64 k ∧ k ≤ M.m ∧ M.m - k ≤ gx ∧ Hid (LoH M p t wa k v wr))
     case atStart => exact ⟨0, rfl, Nat.zero_le _, Nat.le_refl _, L0⟩
     case round =>
      clear L0
      obtain ⟨k, rfl, hk3, hgx3, L0⟩ := hrel
      by_cases hlt : k < M.m
      ·have hltz : (k : Int) < (M.m : Int) := by omega
       obtain ⟨A', c', hA', -, -, hrec⟩ := HA.out.s
       simp only [Value.slice.injEq] at hA'
       obtain ⟨rfl, -, rfl⟩ := hA'
       obtain ⟨bf, off, rfl, hbf, hcell⟩ := hrec (by omega)
       have hcr : ∀ j, j < 7 → wr.cell? ⟨bf, off + k * 7 + j, none⟩ = some (siV M.E M.C k j) := fun j hj => ((bthen FA.out.b L0.out.b).cell (p := ⟨bf, off + k * 7 + j, none⟩) hbf).trans (hcell k hlt j hj)
       have c0 : wr.cell? ⟨bf, off + k * 7, none⟩ = some (.int .i64 (M.E k 0)) := hcr 0 (by omega)
       have c1 : wr.cell? ⟨bf, off + k * 7 + 1, none⟩ = some (.int .i64 (M.E k 1)) := hcr 1 (by omega)
       have c2 : wr.cell? ⟨bf, off + k * 7 + 2, none⟩ = some (.int .i64 (M.E k 2)) := hcr 2 (by omega)
       have c3 : wr.cell? ⟨bf, off + k * 7 + 3, none⟩ = some (.int .i64 (M.E k 3)) := hcr 3 (by omega)
       have c4 : wr.cell? ⟨bf, off + k * 7 + 4, none⟩ = some (.int .i64 (M.E k 4)) := hcr 4 (by omega)
       have c5 : wr.cell? ⟨bf, off + k * 7 + 5, none⟩ = some (.bool (M.C k 5)) := hcr 5 (by omega)
       have c6 : wr.cell? ⟨bf, off + k * 7 + 6, none⟩ = some (.bool (M.C k 6)) := hcr 6 (by omega)
       have hkk : k ≤ 40 := by have := HM.out.m; omega
       clear hcr hcell hrec
       have hz := L0.out.b.size
       have HL := hI9 (M.sen_len p t k)
       cases hcp : M.senP p t k with
       | true =>
        have hcp2 := hcp
        unfold MetD.senP at hcp2
        simp only [Bool.and_eq_true, decide_eq_true_eq] at hcp2
        have e0 : (M.E k 0 == p) = true := by simp [hcp2.1]
        have e1 : M.E k 1 ≤ t := hcp2.2
        have HC := hI9 hcp
        clear hcp hcp2
        go_wp2_with (at_builtin; go_loud (refine wpl_appN rfl _ _ rfl wa.heap.size _ (M.sen p t k) rfl ((L0.out.o.alloc _).alloc _) _ k rfl ?e1 (by have := HL.out; omega) ?e2 ?_))
        case e1 => simp [encN]
        case e2 => simp; omega
        ·intro v2 w5 O2 B2 N2
         have L2 := hI9 ((L0.out.grow (bal (bal (RowKit.Below.refl _ _) _) _)).take HC.out (by simpa using O2) B2 N2)
         clear O2 B2 N2 L0
         go_wp2
         go_roundg (M.m - (k + 1))
         case measure => omega
         case rel => exact ⟨k + 1, by first | rfl | go_num | (congr 1; omega), by omega, Nat.le_refl _, L2⟩
       | false =>
        have L2 := hI9 ((L0.out.grow (bal (RowKit.Below.refl _ _) (.cells #[.int .i64 (M.E k 0), .int .i64 (M.E k 1), .int .i64 (M.E k 2), .int .i64 (M.E k 3), .int .i64 (M.E k 4), .bool (M.C k 5), .bool (M.C k 6)] 101))).skip hcp)
        have hcp2 := hcp
        unfold MetD.senP at hcp2
        by_cases hp : M.E k 0 = p
        ·rw [show decide (M.E k 0 = p) = true by simp [hp], Bool.true_and] at hcp2
         have e0 : (M.E k 0 == p) = true := by simp [hp]
         have e1 : ¬ M.E k 1 ≤ t := by simpa using hcp2
         have e2 : t < M.E k 1 := by omega
         clear hcp hcp2 L0 hp
         go_wp2_with (fail)
         go_roundg (M.m - (k + 1))
         case measure => omega
         case rel => exact ⟨k + 1, by first | rfl | go_num | (congr 1; omega), by omega, Nat.le_refl _, L2⟩
        ·have e0 : (M.E k 0 == p) = false := by simp [hp]
         clear hcp hcp2 L0 hp
         go_wp2_with (fail)
         go_roundg (M.m - (k + 1))
         case measure => omega
         case rel => exact ⟨k + 1, by first | rfl | go_num | (congr 1; omega), by omega, Nat.le_refl _, L2⟩
      ·have hltz : ¬ (k : Int) < (M.m : Int) := by omega
       obtain rfl : k = M.m := by omega
       obtain ⟨A', c', hA', -, -, hrec⟩ := HA.out.s
       simp only [Value.slice.injEq] at hA'
       obtain ⟨rfl, -, rfl⟩ := hA'
       obtain ⟨A5, c5, rfl⟩ := owns_slice L0.out.o L0.out.n.1
       have hwb := bthen FA.out.b L0.out.b
       have hsrt := sortRow_c (n := M.m) (fun i => M.E i 1) 109 #[.pointer (some ⟨w.heap.size, 0, none⟩)] Tryz.enters2 wa.heap.size _ (M.sen p t M.m) wr L0.out.o L0.out.n.2 L0.out.n.1
        (fun x hx => (M.sen_lt hx).1) (by have := HM.out.m; omega) (M.sen_inc p t M.m) (by have := M.sen_len p t M.m; have := HM.out.m; omega)
        (fun inst blk hb => lays2 M (by have := HM.out.m; omega) (FA.out.m.below L0.out.b) _ _ rfl (hrec.below hwb) blk (by have := owns_base L0.out.o hb; have := FA.out.z; omega) (fun b off he => by
         have := owns_base L0.out.o hb
         have := FA.out.z
         by_cases hn0 : 0 < M.m
         ·obtain ⟨b', off', h1, h2, -⟩ := hrec hn0
          rw [he] at h1
          simp only [Option.some.injEq, Addr.mk.injEq] at h1
          omega
         ·exact absurd inst.default.isLt (by omega)) _ inst)
       have SR := hI9 hsrt
       clear hsrt hrec hwb
       go_wp2_with (go_at_call 106; refine SR.out.mono ?_; rintro _ wb ⟨rfl, I2, G2⟩)
       have L1 := hI9 (LoK.start M (.slice A M.n cF) (.slice A2 M.m cS) p t w FA.out L0.out I2 G2)
       clear SR L0 I2 G2 FA
       have hl5 : (M.ordS p t).length = (M.sen p t M.m).length := stab_length _ _
       go_loopg [118] (M.sen p t M.m).length (fun gx i wr => ∃ j : Nat, i = .int .i64 j ∧ j ≤ (M.sen p t M.m).length ∧ (M.sen p t M.m).length - j ≤ gx ∧ Hid (LoK M p t w wb j wr))
       case atStart => exact ⟨0, rfl, Nat.zero_le _, Nat.le_refl _, L1.out.2⟩
       case round =>
        obtain ⟨j, rfl, hj, hgx, L2⟩ := hrel
        by_cases hlt : j < (M.sen p t M.m).length
        ·have hltz : (j : Int) < ((M.sen p t M.m).length : Int) := by omega
         obtain ⟨A', c', hA', -, -, hrec⟩ := HA.out.s
         simp only [Value.slice.injEq] at hA'
         obtain ⟨rfl, -, rfl⟩ := hA'
         obtain ⟨A4, cc4, hA4, -, -, -, hcl⟩ := L1.out.1.i
         simp only [Value.slice.injEq] at hA4
         obtain ⟨rfl, -, rfl⟩ := hA4
         have hjl : j < (M.ordS p t).length := by omega
         obtain ⟨b3, o3, rfl, hb3, hcl⟩ := hcl (by rw [List.length_map]; omega)
         obtain ⟨i, hi⟩ : ∃ q, q = (M.ordS p t).getD j 0 := ⟨_, rfl⟩
         have himt : i < M.m ∧ M.E i 1 ≤ t := by rw [hi]; exact M.sen_lt (stab_mem.1 (getD_mem _ _ hjl))
         obtain ⟨him, hit⟩ := himt
         have HI := hI9 hi
         obtain ⟨bf, off, rfl, hbf, hcell⟩ := hrec (by omega)
         have hb3g := L1.out.1.o9 b3 rfl
         have hz2 := L1.out.1.z
         have hlen : (M.sen p t M.m).length ≤ 20 := by have := M.sen_len p t M.m; have := HM.out.m; omega
         have ci : wr.cell? ⟨b3, o3 + j, none⟩ = some (.int .i64 (i : Int)) := L2.out.c.cell ((hcl j (by rw [List.length_map]; exact hjl)).trans (by rw [hi, ← nth_cast _ _ hjl])) (by show b3 ≠ _; omega)
         have HMB := hI9 (L1.out.1.m.but L2.out.c (by omega))
         have cm : wr.cell? ⟨w.heap.size, 13, none⟩ = some (.slice (some ⟨bf, off, none⟩) M.m cS) := HMB.out.cell 13
         have hcr : ∀ q, q < 7 → wr.cell? ⟨bf, off + i * 7 + q, none⟩ = some (siV M.E M.C i q) := fun q hq => L2.out.c.cell ((L1.out.1.b.cell (p := ⟨bf, off + i * 7 + q, none⟩) hbf).trans (hcell i him q hq)) (by show bf ≠ _; omega)
         have c0 : wr.cell? ⟨bf, off + i * 7, none⟩ = some (.int .i64 (M.E i 0)) := hcr 0 (by omega)
         have c1 : wr.cell? ⟨bf, off + i * 7 + 1, none⟩ = some (.int .i64 (M.E i 1)) := hcr 1 (by omega)
         have c2 : wr.cell? ⟨bf, off + i * 7 + 2, none⟩ = some (.int .i64 (M.E i 2)) := hcr 2 (by omega)
         have c3 : wr.cell? ⟨bf, off + i * 7 + 3, none⟩ = some (.int .i64 (M.E i 3)) := hcr 3 (by omega)
         have c4 : wr.cell? ⟨bf, off + i * 7 + 4, none⟩ = some (.int .i64 (M.E i 4)) := hcr 4 (by omega)
         have c5 : wr.cell? ⟨bf, off + i * 7 + 5, none⟩ = some (.bool (M.C i 5)) := hcr 5 (by omega)
         have c6 : wr.cell? ⟨bf, off + i * 7 + 6, none⟩ = some (.bool (M.C i 6)) := hcr 6 (by omega)
         have x1 : (i : Int) < (M.m : Int) := by omega
         have sa := HM.out.sa i him
         have hm20 := HM.out.m
         have hs := L2.out.s
         have hk := L2.out.k
         rcases hx : M.skyQ p t j with ⟨a0, a1, a2, a3, a4, a5, xi, xs⟩
         rw [hx] at hs hk
         have ok1 := Sk.inr_ok hk
         have ok2 := Sk.inr_ok (HM.out.si (t := t) him hit)
         unfold Sk.ok at ok1 ok2
         have OK1 := hI9 ok1
         have OK2 := hI9 ok2
         have HS := hI9 (show Blk wr (w.heap.size + 1) 152 #[.int .i64 a0, .int .i64 a1, .int .i64 a2, .int .i64 a3, .int .i64 a4, .int .i64 a5, .bool xi, .bool xs] from hs)
         have HX := hI9 hx
         obtain ⟨nn, hnn⟩ : ∃ q, q = t - M.E i 1 := ⟨_, rfl⟩
         have znn : t - M.E i 1 = nn := hnn.symm
         have hn1 : 0 ≤ nn := by omega
         have hn2 : nn ≤ 2000 := by omega
         clear hi hx hs hk ok1 ok2 hcr hcell hcl hrec hjl hnn
         go_wp2_with (fail)
         have HT := hI9 (Blk.new wr 101 #[.int .i64 (M.E i 0), .int .i64 (M.E i 1), .int .i64 (M.E i 2), .int .i64 (M.E i 3), .int .i64 (M.E i 4), .bool (M.C i 5), .bool (M.C i 6)])
         have HS2 := hI9 (HS.out.alloc (.cells #[.int .i64 (M.E i 0), .int .i64 (M.E i 1), .int .i64 (M.E i 2), .int .i64 (M.E i 3), .int .i64 (M.E i 4), .bool (M.C i 5), .bool (M.C i 6)] 101))
         have HM2 := hI9 (HMB.out.alloc (.cells #[.int .i64 (M.E i 0), .int .i64 (M.E i 1), .int .i64 (M.E i 2), .int .i64 (M.E i 3), .int .i64 (M.E i 4), .bool (M.C i 5), .bool (M.C i 6)] 101))
         have HC2 := hI9 (L2.out.c.trans (But.of (bal (RowKit.Below.refl _ _) (.cells #[.int .i64 (M.E i 0), .int .i64 (M.E i 1), .int .i64 (M.E i 2), .int .i64 (M.E i 3), .int .i64 (M.E i 4), .bool (M.C i 5), .bool (M.C i 6)] 101))))
         have zz := L2.out.c.size
         have hgt : wr.heap.size ≠ w.heap.size + 1 := by omega
         clear HS HMB c0 c1 c2 c3 c4 c5 c6 ci cm
         generalize wr.alloc (.cells #[.int .i64 (M.E i 0), .int .i64 (M.E i 1), .int .i64 (M.E i 2), .int .i64 (M.E i 3), .int .i64 (M.E i 4), .bool (M.C i 5), .bool (M.C i 6)] 101) = W3 at *
         obtain ⟨p1, hp1⟩ : ∃ q, q = (t - M.E i 1) * M.mw := ⟨_, rfl⟩
         obtain ⟨p2, hp2⟩ : ∃ q, q = (t - M.E i 1) * M.ms := ⟨_, rfl⟩
         obtain ⟨p3, hp3⟩ : ∃ q, q = (t - M.E i 1) * M.mc := ⟨_, rfl⟩
         have hsi : M.si t i = ⟨neL (M.E i 2) p1 300, neH (M.E i 2) p1 300, neL (M.E i 3) p2 20000, neH (M.E i 3) p2 20000, neL (M.E i 4) p3 20000, neH (M.E i 4) p3 20000, false, false⟩ := by unfold MetD.si; rw [hp1, hp2, hp3]
         have ok2 := OK2.out
         rw [hsi] at ok2
         have HSI := hI9 hsi
         clear OK2
         have OK2 := hI9 ok2
         clear hsi ok2
         have mw := HM.out.mw
         have ms := HM.out.ms
         have mc := HM.out.mc
         have d1 := mul_bd (a := t - M.E i 1) (b := M.mw) (A := 2000) (B := 20000) (by omega) (by omega) (by omega) (by omega)
         have d2 := mul_bd (a := t - M.E i 1) (b := M.ms) (A := 2000) (B := 20000) (by omega) (by omega) (by omega) (by omega)
         have d3 := mul_bd (a := t - M.E i 1) (b := M.mc) (A := 2000) (B := 20000) (by omega) (by omega) (by omega) (by omega)
         rw [← hp1] at d1
         rw [← hp2] at d2
         rw [← hp3] at d3
         have EQ1 := hI9 (show wrap64 (nn * M.mw) = p1 by rw [← znn, ← hp1]; exact wrap64_in (by omega) (by omega))
         have EQ2 := hI9 (show wrap64 (nn * M.ms) = p2 by rw [← znn, ← hp2]; exact wrap64_in (by omega) (by omega))
         have EQ3 := hI9 (show wrap64 (nn * M.mc) = p3 by rw [← znn, ← hp3]; exact wrap64_in (by omega) (by omega))
         have v2 := HM.out.sw i him
         have v3 := HM.out.ss i him
         have v4 := HM.out.sc i him
         have N1 := hI9 (fun w1 => near_c (M.E i 2) p1 300 w1 (by omega) (by omega) (by omega) (by omega) (by omega) (by omega))
         have N2 := hI9 (fun w1 => near_c (M.E i 3) p2 20000 w1 (by omega) (by omega) (by omega) (by omega) (by omega) (by omega))
         have N3 := hI9 (fun w1 => near_c (M.E i 4) p3 20000 w1 (by omega) (by omega) (by omega) (by omega) (by omega) (by omega))
         clear hp1 hp2 hp3 d1 d2 d3 mw ms mc v2 v3 v4
         have HC := hI9 (fun w1 (hb : RowKit.Below W3.heap.size W3 w1) => scut_c (w.heap.size + 1) a0 a1 a2 a3 a4 a5 (neL (M.E i 2) p1 300) (neH (M.E i 2) p1 300) (neL (M.E i 3) p2 20000) (neH (M.E i 3) p2 20000) (neL (M.E i 4) p3 20000) (neH (M.E i 4) p3 20000) xi xs false false w1 (HS2.out.below hb)
          OK1.out.1 OK1.out.2.1 OK1.out.2.2 OK2.out.1 OK2.out.2.1 OK2.out.2.2)
         generalize neL (M.E i 2) p1 300 = l1 at *
         generalize neH (M.E i 2) p1 300 = h1 at *
         generalize neL (M.E i 3) p2 20000 = l2 at *
         generalize neH (M.E i 3) p2 20000 = h2 at *
         generalize neL (M.E i 4) p3 20000 = l3 at *
         generalize neH (M.E i 4) p3 20000 = h3 at *
         refine wp_region_spec 25 (siR wr.heap.size w.heap.size (M.E i 2) (M.E i 3) (M.E i 4) nn M.mw M.ms M.mc p1 p2 p3 l1 h1 l2 h2 l3 h3) (fun i => false) (by kernel_rfl) (by kernel_rfl) siR_below ?hop1 ?htail1
         case hop1 =>
          simp only [List.take_succ_cons, List.take_zero, allOps]
          refine ⟨?_, ?_, ?_, ?_, ?_, ?_, ?_, ?_, ?_, ?_, ?_, ?_, ?_, ?_, ?_, ?_, ?_, ?_, ?_, ?_, ?_, ?_, ?_, ?_, ?_, trivial⟩
          all_goals intro u A w1 hA hb hd
          all_goals simp only [putAll, dstOf, gtA, gtS, gtZ, Option.bind_some, Option.bind, Act.put, List.setIfInBounds_toArray, List.set_cons_succ, List.set_cons_zero] at hA; subst hA
          all_goals have HB1 := hI9 hb
          ·clear hb hd
           go_wp2
           exact ⟨_, rfl, Below.refl _ _, rfl, fun h => absurd h (by decide)⟩
          ·have d0 : u 0 = _ := hd 0 (by omega) (by kernel_rfl)
           clear hb hd
           rw [d0]
           clear d0
           go_wp2
           exact ⟨_, rfl, Below.refl _ _, rfl, fun h => absurd h (by decide)⟩
          ·have d1 : u 1 = _ := hd 1 (by omega) (by kernel_rfl)
           clear hb hd
           rw [d1]
           clear d1
           have c := (HT.out.below HB1.out).cell 2
           go_wp2
           exact ⟨_, rfl, Below.refl _ _, rfl, fun h => absurd h (by decide)⟩
          ·clear hb hd
           go_wp2
           exact ⟨_, rfl, Below.refl _ _, rfl, fun h => absurd h (by decide)⟩
          ·clear hb hd
           go_wp2
           exact ⟨_, rfl, Below.refl _ _, rfl, fun h => absurd h (by decide)⟩
          ·have d4 : u 4 = _ := hd 4 (by omega) (by kernel_rfl)
           clear hb hd
           rw [d4]
           clear d4
           have c := (HM2.out.below HB1.out).cell 9
           go_wp2
           exact ⟨_, rfl, Below.refl _ _, rfl, fun h => absurd h (by decide)⟩
          ·have d3 : u 3 = _ := hd 3 (by omega) (by kernel_rfl)
           have d5 : u 5 = _ := hd 5 (by omega) (by kernel_rfl)
           clear hb hd
           rw [d3, d5]
           clear d3 d5
           go_wp2
           exact ⟨_, rfl, RowKit.Below.refl _ _, (show Value.int .i64 (wrap64 (nn * M.mw)) = .int .i64 p1 by rw [EQ1.out]), fun h => absurd h (by decide)⟩
          ·have d2 : u 2 = _ := hd 2 (by omega) (by kernel_rfl)
           have d6 : u 6 = _ := hd 6 (by omega) (by kernel_rfl)
           clear hb hd
           rw [d2, d6]
           clear d2 d6
           go_wp2_with (go_at_call 110; (with_reducible refine (N1.out _).mono ?_); rintro e w2 ⟨rfl, hb2⟩)
           exact ⟨_, rfl, hb2, rfl, fun h => absurd h (by decide)⟩
          ·clear hb hd
           go_wp2
           exact ⟨_, rfl, Below.refl _ _, rfl, fun h => absurd h (by decide)⟩
          ·have d8 : u 8 = _ := hd 8 (by omega) (by kernel_rfl)
           clear hb hd
           rw [d8]
           clear d8
           go_wp2
           exact ⟨_, rfl, Below.refl _ _, rfl, fun h => absurd h (by decide)⟩
          ·have d9 : u 9 = _ := hd 9 (by omega) (by kernel_rfl)
           clear hb hd
           rw [d9]
           clear d9
           have c := (HT.out.below HB1.out).cell 3
           go_wp2
           exact ⟨_, rfl, Below.refl _ _, rfl, fun h => absurd h (by decide)⟩
          ·clear hb hd
           go_wp2
           exact ⟨_, rfl, Below.refl _ _, rfl, fun h => absurd h (by decide)⟩
          ·clear hb hd
           go_wp2
           exact ⟨_, rfl, Below.refl _ _, rfl, fun h => absurd h (by decide)⟩
          ·have d12 : u 12 = _ := hd 12 (by omega) (by kernel_rfl)
           clear hb hd
           rw [d12]
           clear d12
           have c := (HM2.out.below HB1.out).cell 10
           go_wp2
           exact ⟨_, rfl, Below.refl _ _, rfl, fun h => absurd h (by decide)⟩
          ·have d11 : u 11 = _ := hd 11 (by omega) (by kernel_rfl)
           have d13 : u 13 = _ := hd 13 (by omega) (by kernel_rfl)
           clear hb hd
           rw [d11, d13]
           clear d11 d13
           go_wp2
           exact ⟨_, rfl, RowKit.Below.refl _ _, (show Value.int .i64 (wrap64 (nn * M.ms)) = .int .i64 p2 by rw [EQ2.out]), fun h => absurd h (by decide)⟩
          ·have d7 : u 7 = _ := hd 7 (by omega) (by kernel_rfl)
           have d10 : u 10 = _ := hd 10 (by omega) (by kernel_rfl)
           have d14 : u 14 = _ := hd 14 (by omega) (by kernel_rfl)
           clear hb hd
           rw [d7, d10, d14]
           clear d7 d10 d14
           go_wp2_with (go_at_call 110; (with_reducible refine (N2.out _).mono ?_); rintro e w2 ⟨rfl, hb2⟩)
           exact ⟨_, rfl, hb2, rfl, fun h => absurd h (by decide)⟩
          ·clear hb hd
           go_wp2
           exact ⟨_, rfl, Below.refl _ _, rfl, fun h => absurd h (by decide)⟩
          ·have d16 : u 16 = _ := hd 16 (by omega) (by kernel_rfl)
           clear hb hd
           rw [d16]
           clear d16
           go_wp2
           exact ⟨_, rfl, Below.refl _ _, rfl, fun h => absurd h (by decide)⟩
          ·have d17 : u 17 = _ := hd 17 (by omega) (by kernel_rfl)
           clear hb hd
           rw [d17]
           clear d17
           have c := (HT.out.below HB1.out).cell 4
           go_wp2
           exact ⟨_, rfl, Below.refl _ _, rfl, fun h => absurd h (by decide)⟩
          ·clear hb hd
           go_wp2
           exact ⟨_, rfl, Below.refl _ _, rfl, fun h => absurd h (by decide)⟩
          ·clear hb hd
           go_wp2
           exact ⟨_, rfl, Below.refl _ _, rfl, fun h => absurd h (by decide)⟩
          ·have d20 : u 20 = _ := hd 20 (by omega) (by kernel_rfl)
           clear hb hd
           rw [d20]
           clear d20
           have c := (HM2.out.below HB1.out).cell 11
           go_wp2
           exact ⟨_, rfl, Below.refl _ _, rfl, fun h => absurd h (by decide)⟩
          ·have d19 : u 19 = _ := hd 19 (by omega) (by kernel_rfl)
           have d21 : u 21 = _ := hd 21 (by omega) (by kernel_rfl)
           clear hb hd
           rw [d19, d21]
           clear d19 d21
           go_wp2
           exact ⟨_, rfl, RowKit.Below.refl _ _, (show Value.int .i64 (wrap64 (nn * M.mc)) = .int .i64 p3 by rw [EQ3.out]), fun h => absurd h (by decide)⟩
          ·have d15 : u 15 = _ := hd 15 (by omega) (by kernel_rfl)
           have d18 : u 18 = _ := hd 18 (by omega) (by kernel_rfl)
           have d22 : u 22 = _ := hd 22 (by omega) (by kernel_rfl)
           clear hb hd
           rw [d15, d18, d22]
           clear d15 d18 d22
           go_wp2_with (go_at_call 110; (with_reducible refine (N3.out _).mono ?_); rintro e w2 ⟨rfl, hb2⟩)
           exact ⟨_, rfl, hb2, rfl, fun h => absurd h (by decide)⟩
          ·have d7 : u 7 = _ := hd 7 (by omega) (by kernel_rfl)
           have d15 : u 15 = _ := hd 15 (by omega) (by kernel_rfl)
           have d23 : u 23 = _ := hd 23 (by omega) (by kernel_rfl)
           clear hb hd
           rw [d7, d15, d23]
           clear d7 d15 d23
           go_wp2
           exact ⟨_, rfl, Below.refl _ _, rfl, fun h => absurd h (by decide)⟩
         case htail1 =>
          intro u A w1 hA hb hd hf
          simp only [putAll, dstOf, gtA, gtS, gtZ, Option.bind_some, Option.bind, Act.put, List.setIfInBounds_toArray, List.set_cons_succ, List.set_cons_zero] at hA; subst hA
          have e0 : u 0 = _ := hd 0 (by omega)
          have e1 : u 1 = _ := hd 1 (by omega)
          have e2 : u 2 = _ := hd 2 (by omega)
          have e3 : u 3 = _ := hd 3 (by omega)
          have e4 : u 4 = _ := hd 4 (by omega)
          have e5 : u 5 = _ := hd 5 (by omega)
          have e6 : u 6 = _ := hd 6 (by omega)
          have e7 : u 7 = _ := hd 7 (by omega)
          have e8 : u 8 = _ := hd 8 (by omega)
          have e9 : u 9 = _ := hd 9 (by omega)
          have e10 : u 10 = _ := hd 10 (by omega)
          have e11 : u 11 = _ := hd 11 (by omega)
          have e12 : u 12 = _ := hd 12 (by omega)
          have e13 : u 13 = _ := hd 13 (by omega)
          have e14 : u 14 = _ := hd 14 (by omega)
          have e15 : u 15 = _ := hd 15 (by omega)
          have e16 : u 16 = _ := hd 16 (by omega)
          have e17 : u 17 = _ := hd 17 (by omega)
          have e18 : u 18 = _ := hd 18 (by omega)
          have e19 : u 19 = _ := hd 19 (by omega)
          have e20 : u 20 = _ := hd 20 (by omega)
          have e21 : u 21 = _ := hd 21 (by omega)
          have e22 : u 22 = _ := hd 22 (by omega)
          have e23 : u 23 = _ := hd 23 (by omega)
          have e24 : u 24 = _ := hd 24 (by omega)
          first | rw [e0, e1, e2, e3, e4, e5, e6, e7, e8, e9, e10, e11, e12, e13, e14, e15, e16, e17, e18, e19, e20, e21, e22, e23, e24] | simp only [e0, e1, e2, e3, e4, e5, e6, e7, e8, e9, e10, e11, e12, e13, e14, e15, e16, e17, e18, e19, e20, e21, e22, e23, e24]
          clear e0 e1 e2 e3 e4 e5 e6 e7 e8 e9 e10 e11 e12 e13 e14 e15 e16 e17 e18 e19 e20 e21 e22 e23 e24
          clear hd hf
          have hcut := HC.out w1 hb
          have HT2 := hI9 (HT.out.below hb)
          have HC3 := hI9 (HC2.out.trans (But.of hb))
          clear HT HS2 HM2 HC2 HC N1 N2 N3 EQ1 EQ2 EQ3
          by_cases hz : nn = 0
          ·have hz1 : (nn == 0) = true := by simp [hz]
           have HZ := hI9 hz
           clear hz
           go_wp2_with (go_at_call 108; refine hcut.mono ?_; clear hcut; rintro _ w4 ⟨rfl, B4, S4⟩)
           have T4 := HT2.out.but B4 hgt
           have c6 := S4.cell 6
           have c7 := S4.cell 7
           have f6 := S4.frozen 6
           have f7 := S4.frozen 7
           have t6 := T4.cell 5
           have t7 := T4.cell 6
           simp only [gtA, gtS, gtZ] at c6 c7 t6 t7
           have S5 := hI9 S4
           have C4 := hI9 (HC3.out.trans B4)
           clear S4 T4 B4
           go_big_region_o
           go_wp2_with (fail)
           go_roundg ((M.sen p t M.m).length - (j + 1))
           case measure => omega
           case rel => exact ⟨j + 1, by first | rfl | go_num | (congr 1; omega), by omega, Nat.le_refl _, L2.out.next HM.out (by omega) HI.out him hit HX.out (((C4.out.set _).set _).drew) (by unfold MetD.stepS; rw [if_pos (by have := HZ.out; omega), HSI.out]; exact (S5.out.set_ 6 _).set_ 7 _)⟩
          ·have hz1 : (nn == 0) = false := by simp [hz]
           have HZ := hI9 hz
           clear hz
           go_wp2_with (go_at_call 108; refine hcut.mono ?_; clear hcut; rintro _ w4 ⟨rfl, B4, S4⟩)
           go_roundg ((M.sen p t M.m).length - (j + 1))
           case measure => omega
           case rel => exact ⟨j + 1, by first | rfl | go_num | (congr 1; omega), by omega, Nat.le_refl _, L2.out.next HM.out (by omega) HI.out him hit HX.out (HC3.out.trans B4) (by unfold MetD.stepS; rw [if_neg (by have := HZ.out; omega), HSI.out]; exact S4)⟩
        ·have hltz : ¬ (j : Int) < ((M.sen p t M.m).length : Int) := by omega
         obtain rfl : j = (M.sen p t M.m).length := by omega
         obtain ⟨f1, f2, f3⟩ := LoK.fin M (.slice A M.n cF) (.slice A2 M.m cS) p t w L1.out.1 L2.out hl5
         have hodd := M.odd_mem HM.out p t
         have hst := sortOdd_c (w.heap.size + 2) u7 (M.odd p t) wr f3 L1.out.1.n (fun x hx => by have := hodd.1 x hx; have := HM.out.n; omega) hodd.2
         have hnt : ∀ b, some b = u7.ownBlock → b ≠ w.heap.size + 1 := fun b hb => by have := owns_base f3 hb; omega
         have hown := fun b (hb : some b = u7.ownBlock) => owns_base f3 hb
         have HST := hI9 hst
         have HB := hI9 f1
         rcases hx : M.may p t with ⟨b0, b1, b2, b3, b4, b5, bi, bs⟩
         rw [hx] at f2
         have HXM := hI9 hx
         have HS := hI9 (show Blk wr (w.heap.size + 1) 152 #[.int .i64 b0, .int .i64 b1, .int .i64 b2, .int .i64 b3, .int .i64 b4, .int .i64 b5, .bool bi, .bool bs] from f2)
         have HNT := hI9 hnt
         have HOW := hI9 hown
         have hzw := Nat.le_trans L1.out.1.z L2.out.c.size
         clear hst f1 f2 f3 hx hodd hnt hown L1 L2
         go_wp2_with (first | (go_at_call 111; refine HST.out.mono ?_; rintro _ w3 ⟨rfl, G3, I3⟩; have S3 := hI9 (HS.out.grown' G3 HNT.out)) | (refine wpl_row rfl 152 _ rfl _ rfl _ 8 S3.out Tryz.rowSet rfl ?_; simp only [Act.put]) | (refine wpList_store_row rfl 152 _ _ rfl (w.heap.size + 1) #[.int .i64 b0, .int .i64 b1, .int .i64 b2, .int .i64 b3, .int .i64 b4, .int .i64 b5, .bool bi, .bool bs] rfl rfl 152 #[.int .i64 b0, .int .i64 b1, .int .i64 b2, .int .i64 b3, .int .i64 b4, .int .i64 b5, .bool bi, .bool bs] S3.out Tryz.sizeSet rfl (one8 b0 b1 b2 b3 b4 b5 bi bs) ?_; simp only [Act.put]))
         exact bodyPost_ret (res_ct rfl _ _ #[.int .i64 b0, .int .i64 b1, .int .i64 b2, .int .i64 b3, .int .i64 b4, .int .i64 b5, .bool bi, .bool bs] 8 rfl (setRow_heap _ _ _ _ _ _ S3.out) Tryz.rowSet rfl) rfl ⟨u7, _, by rw [HXM.out]; rfl, below_row (HB.out.trans ((below_grown G3 hzw HOW.out).mono (by omega))) (by omega) _, Ints.under' I3 (.inr trivial) HNT.out _, List.mergeSort_perm _ _⟩
end Go.Proofs.YtlabfpjlckdmfaaGreat
