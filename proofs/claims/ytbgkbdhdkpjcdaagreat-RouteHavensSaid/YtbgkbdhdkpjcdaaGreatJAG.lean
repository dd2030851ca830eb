/- Texts joined: JAG. -/
import Derived.Test.YtbgkbdhdkpjcdaaGreatJAA
import Derived.Test.YtbgkbdhdkpjcdaaGreatJAE
import Derived.Laws.CopyRow
import Derived.OwnWalk
import Derived.Test.YtbgkbdhdkpjcdaaGreatJAB
set_option linter.all false
namespace Go.Proofs.YtbgkbdhdkpjcdaaGreat
open Go Go.RowKit Go.Proofs

abbrev Tab := Nat → Nat → Int
/-- A number of a table is made shorter. -/
def stpT (t : Tab) (a b : Nat) (x : Int) : Tab := fun i j => if i = a ∧ j = b then (if t a b < 0 ∨ x < t a b then x else t a b) else t i j
/-- The table of the first k legs. -/
def lgT (S : Tab) : Nat → Tab
  | 0 => fun _ _ => -1
  | k + 1 => stpT (stpT (lgT S k) (S k 0).toNat (S k 1).toNat (S k 2)) (S k 1).toNat (S k 0).toNat (S k 2)
def dgK (t : Tab) (m : Nat) : Tab := fun i j => if i = j ∧ i < m then 0 else t i j
def flS (t : Tab) (y a b : Nat) : Tab := if 0 ≤ t a y ∧ 0 ≤ t y b then stpT t a b (t a y + t y b) else t
def flB (y a : Nat) : Nat → Tab → Tab
  | 0, t => t
  | b + 1, t => flS (flB y a b t) y a b
def flA (n y : Nat) : Nat → Tab → Tab
  | 0, t => t
  | a + 1, t => flB y a n (flA n y a t)
def flO (n : Nat) : Nat → Tab → Tab
  | 0, t => t
  | y + 1, t => flA n y n (flO n y t)
/-- The times between all places. -/
def timT (S : Tab) (l n : Nat) : Tab := flO n n (dgK (lgT S l) n)
/-- The numbers of a table among the first n are times up to B, 0 for a place itself. -/
def TabIn (n : Nat) (B : Int) (t : Tab) : Prop := (∀ i, i < n → ∀ j, j < n → -1 ≤ t i j ∧ t i j ≤ B) ∧ ∀ i, i < n → t i i = 0
def TabRd (n : Nat) (B : Int) (y : Nat) (t0 t : Tab) : Prop := TabIn n (B + B) t ∧ ∀ i, i < n → t i y = t0 i y ∧ t y i = t0 y i
theorem TabRd.step {n y : Nat} {B : Int} {t0 t : Tab} (h0 : TabIn n B t0) (hB : 0 ≤ B) (hy : y < n) (h : TabRd n B y t0 t) {a b : Nat} (ha : a < n) (hb : b < n) : TabRd n B y t0 (flS t y a b) ∧ (0 ≤ t a y ∧ 0 ≤ t y b → 0 ≤ t a y + t y b ∧ t a y + t y b ≤ B + B) := by
  obtain ⟨⟨h1, h2⟩, h3⟩ := h
  have e1 := (h3 a ha).1
  have e2 := (h3 b hb).2
  have b1 := h0.1 a ha y hy
  have b2 := h0.1 y hy b hb
  have hyy := h2 y hy
  refine ⟨?_, fun _ => by omega⟩
  unfold flS
  by_cases hc : 0 ≤ t a y ∧ 0 ≤ t y b
  case neg => rw [if_neg hc]; exact ⟨⟨h1, h2⟩, h3⟩
  rw [if_pos hc]
  have hz : ∀ i j, ¬ (i = a ∧ j = b) → stpT t a b (t a y + t y b) i j = t i j := fun i j q => if_neg q
  have hs : stpT t a b (t a y + t y b) a b = if t a b < 0 ∨ t a y + t y b < t a b then t a y + t y b else t a b := if_pos ⟨rfl, rfl⟩
  have ha0 := h2 a ha
  refine ⟨⟨fun i hi j hj => ?_, fun i hi => ?_⟩, fun i hi => ⟨?_, ?_⟩⟩
  · by_cases q : i = a ∧ j = b
    · rw [q.1, q.2, hs]
      have := h1 a ha b hb
      split <;> omega
    · rw [hz i j q]; exact h1 i hi j hj
  · by_cases q : i = a ∧ i = b
    · rw [q.1, show stpT t a b (t a y + t y b) a a = stpT t a b (t a y + t y b) a b by rw [← q.2, q.1], hs]
      have : t a b = 0 := by rw [← q.2, q.1]; exact ha0
      rw [this, if_neg (by omega)]
    · rw [hz i i q]; exact h2 i hi
  · by_cases q : i = a ∧ y = b
    · obtain ⟨rfl, rfl⟩ := q
      rw [hs, if_neg (by omega)]
      exact e1
    · rw [hz i y q]; exact (h3 i hi).1
  · by_cases q : y = a ∧ i = b
    · obtain ⟨rfl, rfl⟩ := q
      rw [hs, if_neg (by omega)]
      exact e2
    · rw [hz y i q]; exact (h3 i hi).2
theorem TabRd.rowB {n y : Nat} {B : Int} {t0 t : Tab} (h0 : TabIn n B t0) (hB : 0 ≤ B) (hy : y < n) (h : TabRd n B y t0 t) {a : Nat} (ha : a < n) : ∀ b, b ≤ n → TabRd n B y t0 (flB y a b t)
  | 0, _ => h
  | b + 1, hb => (TabRd.step h0 hB hy (TabRd.rowB h0 hB hy h ha b (by omega)) ha (by omega)).1
theorem TabRd.rowA {n y : Nat} {B : Int} {t0 : Tab} (h0 : TabIn n B t0) (hB : 0 ≤ B) (hy : y < n) : ∀ a, a ≤ n → TabRd n B y t0 (flA n y a t0)
  | 0, _ => ⟨⟨fun i hi j hj => by have := h0.1 i hi j hj; show -1 ≤ t0 i j ∧ t0 i j ≤ B + B; omega, h0.2⟩, fun _ _ => ⟨rfl, rfl⟩⟩
  | a + 1, ha => TabRd.rowB h0 hB hy (TabRd.rowA h0 hB hy a (by omega)) (by omega) n (Nat.le_refl _)
theorem TabIn.flO {n : Nat} {B : Int} {t : Tab} (h : TabIn n B t) (hB : 0 ≤ B) : ∀ y, y ≤ n → TabIn n (B * 2 ^ y) (flO n y t)
  | 0, _ => by
    show TabIn n (B * 2 ^ 0) t
    simpa using h
  | y + 1, hy => by
    have ih := TabIn.flO h hB y (by omega)
    have hB' : 0 ≤ B * 2 ^ y := Int.mul_nonneg hB (Int.pow_nonneg (by omega))
    have := (TabRd.rowA (y := y) ih hB' (by omega) n (Nat.le_refl _)).1
    rw [show B * 2 ^ (y + 1) = B * 2 ^ y + B * 2 ^ y by rw [Int.pow_succ, ← Int.mul_assoc]; omega]
    exact this
/-- Valid legs. -/
structure NetOk (n : Nat) (S : Tab) (l : Nat) : Prop where
  a : ∀ k, k < l → 0 ≤ S k 0 ∧ S k 0 < n
  b : ∀ k, k < l → 0 ≤ S k 1 ∧ S k 1 < n
  ne : ∀ k, k < l → S k 0 ≠ S k 1
  t : ∀ k, k < l → 1 ≤ S k 2 ∧ S k 2 ≤ 200
theorem stpT_in {t : Tab} {a b : Nat} {x : Int} (hx : 1 ≤ x ∧ x ≤ 200) (h : ∀ i j, t i j = -1 ∨ (1 ≤ t i j ∧ t i j ≤ 200)) (i j : Nat) : stpT t a b x i j = -1 ∨ (1 ≤ stpT t a b x i j ∧ stpT t a b x i j ≤ 200) := by
  unfold stpT
  split
  · split
    · omega
    · exact h a b
  · exact h i j
theorem lgT_in {n l : Nat} {S : Tab} (h : NetOk n S l) : ∀ k, k ≤ l → ∀ i j, lgT S k i j = -1 ∨ (1 ≤ lgT S k i j ∧ lgT S k i j ≤ 200)
  | 0, _, _, _ => Or.inl rfl
  | k + 1, hk, i, j => stpT_in (h.t k (by omega)) (stpT_in (h.t k (by omega)) (lgT_in h k (by omega))) i j
theorem dgK_in {n l : Nat} {S : Tab} (h : NetOk n S l) : TabIn n 200 (dgK (lgT S l) n) := by
  refine ⟨fun i hi j hj => ?_, fun i hi => if_pos ⟨rfl, hi⟩⟩
  unfold dgK
  split
  · omega
  · have := lgT_in h l (Nat.le_refl _) i j; omega
theorem dgK_zero (t : Tab) : dgK t 0 = t := by
  funext i j; unfold dgK; rw [if_neg (by omega)]
theorem dgK_succ (t : Tab) (m : Nat) : (fun i j => if i = m ∧ j = m then 0 else dgK t m i j) = dgK t (m + 1) := by
  funext i j
  unfold dgK
  by_cases e : i = m ∧ j = m
  · rw [if_pos e, if_pos (by omega)]
  · rw [if_neg e]
    by_cases e2 : i = j ∧ i < m
    · rw [if_pos e2, if_pos (by omega)]
    · rw [if_neg e2, if_neg (by omega)]
/-- The step of Floyd in the walk: what the sum is. -/
theorem flO_step {n : Nat} {t : Tab} (h : TabIn n 200 t) (hn : n ≤ 8) {y a b : Nat} (hy : y < n) (ha : a < n) (hb : b < n) :
    (-1 ≤ flB y a b (flA n y a (flO n y t)) a y ∧ flB y a b (flA n y a (flO n y t)) a y ≤ 51200) ∧ -1 ≤ flB y a b (flA n y a (flO n y t)) y b ∧ flB y a b (flA n y a (flO n y t)) y b ≤ 51200 := by
  have h1 := TabIn.flO h (by omega) y (by omega)
  have hp : (2 : Int) ^ y ≤ 2 ^ 7 := by
    have : y ≤ 7 := by omega
    have h7 : ∀ m : Nat, m ≤ 7 → (2 : Int) ^ m ≤ 2 ^ 7 := by decide
    exact h7 y this
  have hB : (0 : Int) ≤ 200 * 2 ^ y := Int.mul_nonneg (by omega) (Int.pow_nonneg (by omega))
  have h2 := TabRd.rowB h1 hB hy (TabRd.rowA h1 hB hy a (by omega)) ha b (by omega)
  have e1 := h2.1.1 a ha y hy
  have e2 := h2.1.1 y hy b hb
  have : (2 : Int) ^ 7 = 128 := by decide
  omega
theorem timT_in {n l : Nat} {S : Tab} (h : NetOk n S l) (hn : n ≤ 8) : TabIn n 51200 (timT S l n) := by
  have h1 := TabIn.flO (dgK_in h) (by omega) n (Nat.le_refl _)
  have h7 : ∀ m : Nat, m ≤ 8 → (200 : Int) * 2 ^ m ≤ 51200 := by decide
  have := h7 n hn
  unfold timT
  exact ⟨fun i hi j hj => by have := h1.1 i hi j hj; omega, h1.2⟩

/-- A table in memory: a slice g of the rows r. -/
structure Sq (w : World) (T : TypeId) (lo hi g : Nat) (r : Nat → Nat) (n : Nat) (t : Tab) : Prop where
  gl : lo ≤ g ∧ g < hi ∧ hi ≤ w.heap.size
  rl : ∀ i, i < n → lo ≤ r i ∧ r i < hi ∧ r i ≠ g
  d : ∀ i, i < n → ∀ j, j < n → r i = r j → i = j
  o : ∀ i, i < n → ∃ c, n ≤ c ∧ c ≤ 9223372036854775807 ∧ w.cell? ⟨g, i, none⟩ = some (.slice (some ⟨r i, 0, none⟩) n c)
  b : ∀ i, i < n → ∃ cs, Blk w (r i) T cs ∧ ∀ j, j < n → cs[j]? = some (.int .i64 (t i j))
theorem cell_heap {w w' : World} {g : Nat} (h : w'.heap[g]? = w.heap[g]?) (i : Nat) : w'.cell? ⟨g, i, none⟩ = w.cell? ⟨g, i, none⟩ := by
  simp only [World.cell?, h]
theorem Sq.frame {w w' : World} {T : TypeId} {lo hi g n : Nat} {r : Nat → Nat} {t : Tab} (h : Sq w T lo hi g r n t) (hs : w.heap.size ≤ w'.heap.size) (hb : ∀ b, lo ≤ b → b < hi → w'.heap[b]? = w.heap[b]?) : Sq w' T lo hi g r n t :=
  ⟨⟨h.gl.1, h.gl.2.1, Nat.le_trans h.gl.2.2 hs⟩, h.rl, h.d, fun i hi => (h.o i hi).imp fun c q => ⟨q.1, q.2.1, (cell_heap (hb g h.gl.1 h.gl.2.1) i).trans q.2.2⟩, fun i hi => (h.b i hi).imp fun cs q => ⟨(hb (r i) (h.rl i hi).1 (h.rl i hi).2.1).trans q.1, q.2⟩⟩
theorem Sq.below {w w' : World} {T : TypeId} {lo hi g n : Nat} {r : Nat → Nat} {t : Tab} (h : Sq w T lo hi g r n t) (hb : Below w.heap.size w w') : Sq w' T lo hi g r n t :=
  h.frame hb.size fun b _ h2 => hb.block b (Nat.lt_of_lt_of_le h2 h.gl.2.2)
theorem Sq.alloc {w : World} {T : TypeId} {lo hi g n : Nat} {r : Nat → Nat} {t : Tab} (h : Sq w T lo hi g r n t) (o : Obj) : Sq (w.alloc o) T lo hi g r n t := h.below (bal (Below.refl _ _) o)
theorem Sq.far {w : World} {T : TypeId} {lo hi g n : Nat} {r : Nat → Nat} {t : Tab} (h : Sq w T lo hi g r n t) {k i : Nat} (hk : k < lo ∨ hi ≤ k) (u : Value) : Sq (w.setCell ⟨k, i, none⟩ u) T lo hi g r n t :=
  h.frame (by simp) fun b h1 h2 => Below.heap_setCell w ⟨k, i, none⟩ u b (by show b ≠ k; omega)
theorem Sq.set_ {w : World} {T : TypeId} {lo hi g n : Nat} {r : Nat → Nat} {t : Tab} (h : Sq w T lo hi g r n t) {a b : Nat} (ha : a < n) (x : Int) : Sq (w.setCell ⟨r a, b, none⟩ (.int .i64 x)) T lo hi g r n (fun i j => if i = a ∧ j = b then x else t i j) := by
  refine ⟨⟨h.gl.1, h.gl.2.1, by simpa using h.gl.2.2⟩, h.rl, h.d, fun i hi => ?_, fun i hi => ?_⟩
  · obtain ⟨c, q1, q2, q3⟩ := h.o i hi
    exact ⟨c, q1, q2, (cell_heap (Below.heap_setCell w ⟨r a, b, none⟩ _ g (by show g ≠ r a; exact Ne.symm (h.rl a ha).2.2)) i).trans q3⟩
  · obtain ⟨cs, q1, q2⟩ := h.b i hi
    by_cases e : i = a
    · subst e
      refine ⟨_, q1.set_ b (.int .i64 x), fun j hj => ?_⟩
      rw [Array.getElem?_setIfInBounds]
      by_cases e : b = j
      · subst e
        have := (Array.getElem?_eq_some_iff.1 (q2 b hj)).1
        rw [if_pos rfl, if_pos this, if_pos ⟨rfl, rfl⟩]
      · rw [if_neg e, q2 j hj, if_neg (fun q => e q.2.symm)]
    · refine ⟨cs, q1.far' (i := b) (f := r a) (fun q => e (h.d i hi a ha q)) (.int .i64 x), fun j hj => ?_⟩
      rw [q2 j hj, if_neg (fun q => e q.1)]
theorem Sq.cell {w : World} {T : TypeId} {lo hi g n : Nat} {r : Nat → Nat} {t : Tab} (h : Sq w T lo hi g r n t) {a b : Nat} (ha : a < n) (hb : b < n) : w.cell? ⟨r a, b, none⟩ = some (.int .i64 (t a b)) := by
  obtain ⟨cs, q1, q2⟩ := h.b a ha
  rw [q1.cell b]
  exact q2 b hb
theorem Sq.fr {w : World} {T : TypeId} {lo hi g n : Nat} {r : Nat → Nat} {t : Tab} (h : Sq w T lo hi g r n t) {a : Nat} (ha : a < n) (b : Nat) : w.frozen? ⟨r a, b, none⟩ = false := by
  obtain ⟨cs, q1, q2⟩ := h.b a ha
  exact q1.frozen b
/-- What a world is behind a number that is made shorter. -/
def shW (w : World) (ra b : Nat) (t x : Int) : World := if t < 0 ∨ x < t then w.setCell ⟨ra, b, none⟩ (.int .i64 x) else w
theorem Sq.sh {w : World} {T : TypeId} {lo hi g n : Nat} {r : Nat → Nat} {t : Tab} (h : Sq w T lo hi g r n t) {a b : Nat} (ha : a < n) (x : Int) : Sq (shW w (r a) b (t a b) x) T lo hi g r n (stpT t a b x) := by
  unfold shW
  by_cases e : t a b < 0 ∨ x < t a b
  · rw [if_pos e]
    have := h.set_ (b := b) ha x
    rw [show (fun i j => if i = a ∧ j = b then x else t i j) = stpT t a b x by funext i j; unfold stpT; rw [if_pos e]] at this
    exact this
  · rw [if_neg e]
    rw [show stpT t a b x = t by
      funext i j; unfold stpT; rw [if_neg e]
      by_cases q : i = a ∧ j = b
      · rw [if_pos q, q.1, q.2]
      · rw [if_neg q]]
    exact h
theorem shW_size (w : World) (ra b : Nat) (t x : Int) : (shW w ra b t x).heap.size = w.heap.size := by unfold shW; split <;> simp
theorem shW_heap (w : World) (ra b k : Nat) (t x : Int) (hk : k ≠ ra) : (shW w ra b t x).heap[k]? = w.heap[k]? := by
  unfold shW; split
  · exact Below.heap_setCell w ⟨ra, b, none⟩ _ k hk
  · rfl
theorem Below.sh {B : Nat} {w w' : World} (h : Below B w w') {ra : Nat} (hr : B ≤ ra) (b : Nat) (t x : Int) : Below B w (shW w' ra b t x) := by
  unfold shW; split
  · exact bset h hr _
  · exact h
theorem Blk.sh {w : World} {k : Nat} {T : TypeId} {cs : Array Value} (h : Blk w k T cs) {ra : Nat} (hr : k ≠ ra) (b : Nat) (t x : Int) : Blk (shW w ra b t x) k T cs := (shW_heap w ra b k t x hr).trans h
theorem Sq.shFar {w : World} {T : TypeId} {lo hi g n : Nat} {r : Nat → Nat} {t : Tab} (h : Sq w T lo hi g r n t) {ra : Nat} (hr : ra < lo ∨ hi ≤ ra) (b : Nat) (s x : Int) : Sq (shW w ra b s x) T lo hi g r n t :=
  h.frame (by rw [shW_size]; exact Nat.le_refl _) fun k h1 h2 => shW_heap w ra b k s x (by omega)
end Go.Proofs.YtbgkbdhdkpjcdaaGreat

namespace Go.Proofs.YtbgkbdhdkpjcdaaGreat
open Go Go.RowKit Go.Proofs
set_option maxRecDepth 100000
set_option maxHeartbeats 8000000
theorem mul64_c (n : Nat) (h1 : 1 ≤ n) (h2 : n ≤ 8) (w : World) :
   Calls Tryz.prog 222 #[.int .u64 1, .int .u64 n] w fun e w' => e = .returned (.tuple #[.int .u64 0, .int .u64 n]) ∧ w' = w := by
  obtain rfl | rfl | rfl | rfl | rfl | rfl | rfl | rfl : n = 1 ∨ n = 2 ∨ n = 3 ∨ n = 4 ∨ n = 5 ∨ n = 6 ∨ n = 7 ∨ n = 8 := by omega
  all_goals
    go_enter Tryz.func222, Tryz.ntmps222
    go_wp2_with (fail)
    go_ret2
    exact ⟨by kernel_rfl, rfl⟩
theorem mul_c (n : Nat) (h1 : 1 ≤ n) (h2 : n ≤ 8) (w : World) :
   Calls Tryz.prog 205 #[.int .u64 1, .int .u64 n] w fun e w' => e = .returned (.tuple #[.int .u64 0, .int .u64 n]) ∧ w' = w := by
  go_enter Tryz.func205, Tryz.ntmps205
  go_wp2_with (first | (refine (mul64_c n h1 h2 _).mono ?_; rintro e w1 ⟨rfl, rfl⟩))
  go_ret2
  exact ⟨rfl, rfl⟩
theorem Tryz.inUx : Tryz.prog.underlying 35 = some (.slice 3) := by kernel_rfl
theorem Tryz.inIx : (Tryz.prog.info? 3).map (fun i => (i.zero, i.size, i.bytes)) = some (some (.int .i64 0), 1, 8) := by kernel_rfl
theorem blk_of_owns {w : World} {base g n : Nat} {T : TypeId} {xs : List Value} (h : w.ownsRow base T 1 (.slice (some ⟨g, 0, none⟩) n n) n xs) : Blk w g T xs.toArray := by
  obtain ⟨h0, h⟩ := h
  rcases h with ⟨h, -⟩ | ⟨g', cap, cur, hv, h1, h2, h3, h4, h5, h6⟩
  · cases h
  · simp only [Value.slice.injEq, Option.some.injEq, Addr.mk.injEq, and_true] at hv
    obtain ⟨rfl, -, rfl⟩ := hv
    have : cur = xs.toArray := by
      rw [← h6, List.take_of_length_le (by simp [h5])]
    rw [← this]
    exact h2
theorem wpl_mki {ops : Array Oper} {rest : List Oper} {o : Oper} {a : Act} {w : World} {Q : Exit → Act → World → Prop} (hgd : o.guard = none) (l c : Operand) (n : Nat) (hn : n ≤ 1000) (ho : o.op = .makeSlice 35 l c) (hl : a.eval l = .int .i64 n) (hc : a.eval c = .int .i64 n)
    (h : ∀ w', Below w.heap.size w w' → w.heap.size < w'.heap.size → Blk w' w.heap.size 3 (List.replicate n (Value.int .i64 0)).toArray → wpList Tryz.prog ops Q rest (a.put o.dst (.slice (some ⟨w.heap.size, 0, none⟩) n n)) w') : wpList Tryz.prog ops Q (o :: rest) a w := by
  have hI := Tryz.inIx
  cases hi : Tryz.prog.info? 3 with
  | none => rw [hi] at hI; cases hI
  | some i =>
    rw [hi] at hI
    simp only [Option.map_some, Option.some.injEq, Prod.mk.injEq] at hI
    obtain ⟨i1, i2, i3⟩ := hI
    refine wpList_make_full w hgd l c 35 ho w.heap.size 3 i (.int .i64 0) 1 Tryz.inUx hi i1 i2 .i64 .i64 n n n hl hc rfl rfl (by rw [i3]; omega) (by unfold maxLen; omega) (Nat.le_refl _) (fun w' h1 h2 => ?_)
    have e : (madeCells (Value.cells (.int .i64 0)) (n * 1)).toList = List.replicate n (Value.int .i64 0) := by
      unfold madeCells
      rw [Array.toList_map, Array.toList_range, Nat.mul_one]
      apply List.ext_getElem?
      intro t
      rw [List.getElem?_map, List.getElem?_replicate]
      by_cases ht : t < n
      · rw [List.getElem?_range ht, if_pos ht]
        show some ((#[Value.int .i64 0])[t % 1]!) = _
        rw [Nat.mod_one]
        rfl
      · rw [if_neg ht, List.getElem?_eq_none (by simpa using ht)]; rfl
    rw [e] at h1
    have hb := blk_of_owns h1
    exact h w' (below_of_none h2) hb.lt hb
theorem wpl_copyI {ops : Array Oper} {rest : List Oper} {o : Oper} {a : Act} {w : World} {Q : Exit → Act → World → Prop} (hgd : o.guard = none) (d s : Operand) (ho : o.op = .call { callee := .builtin .copy, args := #[d, s], argTypes := #[35, 35] })
    (g off dl dc : Nat) (hd : a.eval d = .slice (some ⟨g, off, none⟩) dl dc) (p q0 sl sc : Nat) (hs : a.eval s = .slice (some ⟨p, q0, none⟩) sl sc) (cur : Array Value) (hg : Blk w g 3 cur)
    (cs : List Value) (hn : cs.length = Nat.min sl dl) (hsrc : ∀ j v, cs[j]? = some v → w.cell? ⟨p, q0 + j, none⟩ = some v) (hfit : off + cs.length ≤ cur.size) (h1 : ∀ v ∈ cs, v.oneCell' = true)
    (h : ∀ w', Hid (w' = w.setRow g (cur.toList.take off ++ cs ++ cur.toList.drop (off + cs.length)).toArray) → wpList Tryz.prog ops Q rest (a.put o.dst (goInt cs.length)) w') : wpList Tryz.prog ops Q (o :: rest) a w := by
  refine wpList_plain hgd fun K' hK' => ?_
  have hI := Tryz.inIx
  have hrun := run_copy_row (P := Tryz.prog) w 35 35 o.type 3 g off dl dc ⟨p, q0, none⟩ sl sc cur 3 cs Tryz.inUx (by
    cases hi : Tryz.prog.info? 3 with
    | none => rw [hi] at hI; cases hI
    | some i => rw [hi] at hI; simp only [Option.map_some, Option.some.injEq, Prod.mk.injEq] at hI ⊢; exact hI.2.1) hg hn (fun j v q => by
      have hadd : (⟨p, q0, none⟩ : Addr).add j = ⟨p, q0 + j, none⟩ := by unfold Addr.add; split <;> simp_all
      rw [hadd]; exact hsrc j v q) hfit h1
  unfold Oper.wp
  simp [execOp, ho, resolve, invoke, builtin, hd, hs, hrun, Result.andThen]
  refine hK' _ _ (h _ ?_)
  rw [List.append_assoc]
  exact Lib.hid rfl
/-- k numbers x, then zeros: n in all. -/
def repL (n k : Nat) (x : Int) : List Value := List.replicate k (.int .i64 x) ++ List.replicate (n - k) (.int .i64 0)
theorem repL_copy (n k m : Nat) (x : Int) (h : k + m ≤ n) (hk : m ≤ k) : (repL n k x).take k ++ List.replicate m (.int .i64 x) ++ (repL n k x).drop (k + m) = repL n (k + m) x := by
  unfold repL
  rw [List.take_left' (by simp), List.append_assoc]
  rw [← List.replicate_append_replicate, List.append_assoc]
  congr 2
  rw [List.drop_append, List.length_replicate, show k + m - k = m by omega, List.drop_eq_nil_of_le (by simp), List.nil_append, List.drop_replicate]
  congr 1
  omega
theorem mulZ_c (n : Nat) (h1 : 1 ≤ n) (h2 : n ≤ 8) (w : World) :
   Calls Tryz.prog 205 #[.int .u64 1, .int .u64 (n : Int)] w fun e w' => e = .returned (.tuple #[.int .u64 0, .int .u64 (n : Int)]) ∧ w' = w := mul_c n h1 h2 w
theorem below_row' {B g : Nat} {w0 w : World} (hb : Below B w0 w) (hBg : B ≤ g) (cs : Array Value) : Below B w0 (w.setRow g cs) :=
  ⟨hb.os, hb.tape, hb.output, by rw [show (w.setRow g cs).heap.size = w.heap.size by simp [World.setRow]]; exact hb.size, fun k hk => (setRow_other w g k cs (by omega)).trans (hb.block k hk)⟩
theorem yields_mv {P : Program} {ops : Array Oper} {o : Oper} {a : Act} (hg : o.guard = none) (x : Operand) (ho : o.op = .move x) (v : Value) (hx : a.eval x = v) : Yields P ops o v a := by
  refine .inl ⟨by simp [Region.wanted, hg], fun w => ?_⟩
  simp only [execOp, ho, hx]
  simp [Sem.run_pure]
def rpR (g n m : Nat) : Nat → Value → World → Prop
  | 0, v, _ => v = .int .i64 (m : Int)
  | 1, v, _ => v = .slice (some ⟨g, 0, none⟩) n n
  | 2, v, _ => v = .int .i64 (m : Int)
  | 3, v, _ => v = .slice (some ⟨g, m, none⟩) (n - m) (n - m)
  | 4, v, _ => v = .slice (some ⟨g, 0, none⟩) n n
  | 5, v, _ => v = .int .i64 (m : Int)
  | 6, v, _ => v = .slice (some ⟨g, 0, none⟩) m n
  | _, _, _ => True
theorem rpR_below {g n m : Nat} (k : Nat) (v : Value) (w w' : World) (hb : Below w.heap.size w w') (h : rpR g n m k v w) : rpR g n m k v w' := by
  unfold rpR at *
  split at h <;> first | exact h
theorem rep_c (x : Int) (n gx : Nat) (w : World) (h : Blk w gx 3 #[.int .i64 x]) (h1 : 1 ≤ n) (h2 : n ≤ 8) :
   Calls Tryz.prog 172 #[.slice (some ⟨gx, 0, none⟩) 1 1, .int .i64 n] w fun e w' => ∃ g, e = .returned (.slice (some ⟨g, 0, none⟩) n n) ∧ Below w.heap.size w w' ∧ w.heap.size ≤ g ∧ Blk w' g 3 (List.replicate n (.int .i64 x)).toArray := by
  have hn0 : ¬ (n : Int) < 0 := by omega
  have hw1 : IntKind.u64.wrap (n : Int) = (n : Int) := by unfold IntKind.wrap; simp [IntKind.bits, IntKind.signed]; omega
  have HX := Lib.hid h
  clear h
  go_enter Tryz.func172, Tryz.ntmps172
  go_wp2_with (first | (refine (mulZ_c n h1 h2 _).mono ?_; rintro e w_0 ⟨rfl, rfl⟩) | (refine wpl_mki rfl _ _ n (by omega) rfl rfl rfl ?_))
  intro w2 hb2 hs2 hB2
  have HX2 := Lib.hid (HX.out.below hb2)
  have HB := Lib.hid hb2
  obtain ⟨gN, hg⟩ : ∃ q, w_0.heap.size = q := ⟨_, rfl⟩
  have HLE := Lib.hid hg
  rw [hg] at hs2 hB2 ⊢
  have HBN := Lib.hid (show Below gN w_0 w2 from hg ▸ hb2)
  have hgx : gx < gN := by have := HX.out.lt; omega
  have HG := Lib.hid (show Blk w2 gN 3 (repL n 0 x).toArray from by simpa [repL] using hB2)
  clear hB2 hb2 hw1 hn0 hg
  go_wp2_with (refine wpl_copyI rfl _ _ rfl gN 0 n n rfl gx 0 1 1 rfl _ HG.out [.int .i64 x] ?c1 ?c2 ?c3 ?c4 ?_)
  case c1 => show 1 = min 1 n; omega
  case c2 =>
    intro j v hj
    rcases j with _ | j
    · simp only [List.getElem?_cons_zero, Option.some.injEq] at hj
      subst hj
      exact HX2.out.cell 0
    · simp at hj
  case c3 => simp [repL]; omega
  case c4 =>
    intro v hv
    rw [List.mem_singleton.1 hv]; rfl
  intro w3 hw3
  have HG1 := Lib.hid (show Blk w3 gN 3 (repL n 1 x).toArray from by
    rw [hw3.out]
    refine Eq.trans (setRow_heap w2 gN _ _ _ _ HG.out) ?_
    congr 2
    simp [repL])
  have HB1 := Lib.hid (show Below gN w_0 w3 from by rw [hw3.out]; exact below_row' HBN.out (Nat.le_refl _) _)
  clear hw3
  clear HX2 HB HBN HG hs2
  go_wp2_with (fail)
  go_loopg [8] n (fun gy v wr => ∃ k : Nat, v = .int .i64 k ∧ 1 ≤ k ∧ k ≤ n ∧ n - k ≤ gy ∧ Hid (Below gN w_0 wr) ∧ Hid (Blk wr gN 3 (repL n k x).toArray))
  case atStart => exact ⟨1, rfl, by omega, by omega, by omega, HB1, HG1⟩
  case round =>
    clear HB1 HG1
    obtain ⟨k, rfl, k1, k2, hgy, HB1, HG1⟩ := hrel
    by_cases hlt : k < n
    · have hltz : (k : Int) < (n : Int) := by omega
      go_wp2_with (fail)
      refine wp_region_specL 7 [0] (rpR gN n k) (fun i => false) (by kernel_rfl) (by kernel_rfl) (by decide) rpR_below ?hop1 ?htail1
      case hop1 =>
        simp only [List.take_succ_cons, List.take_zero, allOps]
        refine ⟨?_, ?_, ?_, ?_, ?_, ?_, ?_, trivial⟩
        all_goals intro u A w1 hA hb hd
        all_goals simp only [putAll, dstOf, List.getElem?_toArray, List.getElem?_cons_succ, List.getElem?_cons_zero, Option.bind_some, Option.bind, Act.put, List.setIfInBounds_toArray, List.set_cons_succ, List.set_cons_zero] at hA; subst hA
        all_goals have HB1 := Lib.hid hb
        · clear hb hd
          refine OpOk.late rfl ?_
          (refine ⟨_, yields_mv rfl _ rfl _ rfl, ?_⟩; rfl)
        · refine OpOk.now rfl ?_
          clear hb hd
          go_wp2
          exact ⟨_, rfl, Below.refl _ _, rfl, fun h => absurd h (by decide)⟩
        · refine OpOk.now rfl ?_
          clear hb hd
          go_wp2
          exact ⟨_, rfl, Below.refl _ _, rfl, fun h => absurd h (by decide)⟩
        · refine OpOk.now rfl ?_
          have d1 : u 1 = _ := hd 1 (by omega) (by kernel_rfl)
          have d2 : u 2 = _ := hd 2 (by omega) (by kernel_rfl)
          clear hb hd
          rw [d1, d2]
          clear d1 d2
          go_wp2
          exact ⟨_, rfl, Below.refl _ _, rfl, fun h => absurd h (by decide)⟩
        · refine OpOk.now rfl ?_
          clear hb hd
          go_wp2
          exact ⟨_, rfl, Below.refl _ _, rfl, fun h => absurd h (by decide)⟩
        · refine OpOk.now rfl ?_
          clear hb hd
          go_wp2
          exact ⟨_, rfl, Below.refl _ _, rfl, fun h => absurd h (by decide)⟩
        · refine OpOk.now rfl ?_
          have d4 : u 4 = _ := hd 4 (by omega) (by kernel_rfl)
          have d5 : u 5 = _ := hd 5 (by omega) (by kernel_rfl)
          clear hb hd
          rw [d4, d5]
          clear d4 d5
          go_wp2
          exact ⟨_, rfl, Below.refl _ _, rfl, fun h => absurd h (by decide)⟩
      case htail1 =>
        intro u A w1 hA hb hd hf
        simp only [putAll, dstOf, List.getElem?_toArray, List.getElem?_cons_succ, List.getElem?_cons_zero, Option.bind_some, Option.bind, Act.put, List.setIfInBounds_toArray, List.set_cons_succ, List.set_cons_zero] at hA; subst hA
        have e0 : u 0 = _ := hd 0 (by omega)
        have e1 : u 1 = _ := hd 1 (by omega)
        have e2 : u 2 = _ := hd 2 (by omega)
        have e3 : u 3 = _ := hd 3 (by omega)
        have e4 : u 4 = _ := hd 4 (by omega)
        have e5 : u 5 = _ := hd 5 (by omega)
        have e6 : u 6 = _ := hd 6 (by omega)
        first | rw [e0, e1, e2, e3, e4, e5, e6] | simp only [e0, e1, e2, e3, e4, e5, e6]
        clear e0 e1 e2 e3 e4 e5 e6
        clear hd hf
        have HG2 := Lib.hid (HG1.out.below hb)
        have hlt2 := HG1.out.lt
        have HB2 := Lib.hid (HB1.out.trans (hb.mono (Nat.le_of_lt hlt2)))
        clear HB1 HG1
        refine wpl_copyI rfl _ _ rfl gN k (n - k) (n - k) rfl gN 0 k n rfl _ HG2.out (List.replicate (min k (n - k)) (.int .i64 x)) ?d1 ?d2 ?d3 ?d4 ?_
        case d1 => simp
        case d2 =>
          intro j v hj
          rw [List.getElem?_replicate] at hj
          split at hj
          · rename_i hjk
            simp only [Option.some.injEq] at hj
            subst hj
            have := HG2.out.cell (0 + j)
            rw [this]
            simp only [repL, List.getElem?_toArray, Nat.zero_add]
            rw [List.getElem?_append_left (by simp; omega), List.getElem?_replicate, if_pos (by omega)]
          · cases hj
        case d3 => simp [repL]; omega
        case d4 =>
          intro v hv
          rw [List.eq_of_mem_replicate hv]; rfl
        intro w3 hw3
        have HG3 := Lib.hid (show Blk w3 gN 3 (repL n (k + min k (n - k)) x).toArray from by
          rw [hw3.out]
          refine Eq.trans (setRow_heap w1 gN _ _ _ _ HG2.out) ?_
          rw [List.length_replicate, repL_copy n k _ x (by omega) (by omega)])
        have HB3 := Lib.hid (show Below gN w_0 w3 from by rw [hw3.out]; exact below_row' HB2.out (Nat.le_refl _) _)
        clear hw3 HG2 HB2
        have hk3 : (k : Int) + ((List.replicate (min k (n - k)) (Value.int .i64 x)).length : Int) = ((k + min k (n - k) : Nat) : Int) := by simp
        go_wp2_with (fail)
        dsimp only [NoPanic]
        go_wp2_with (fail)
        go_roundg (n - (k + min k (n - k)))
        case measure => omega
        case rel => exact ⟨k + min k (n - k), by first | rfl | go_num | (congr 1; simp; omega), by omega, by omega, Nat.le_refl _, HB3, HG3⟩
    · obtain rfl : n = k := by omega
      go_wp2_with (fail)
      go_ret
      exact ⟨_, rfl, by rw [HLE.out]; exact HB1.out, by rw [HLE.out]; exact Nat.le_refl _, by simpa [repL] using HG1.out⟩
end Go.Proofs.YtbgkbdhdkpjcdaaGreat
