/- Texts joined: JAF. -/
import Derived.Test.YtbgkbdhdkpjcdaaGreatJAE
import Derived.Lib.OwnBridge
set_option linter.all false
namespace Go.Proofs.YtbgkbdhdkpjcdaaGreat
open Go Go.Shelf Go.RowKit Go.Lib Go.Sort Go.Proofs
set_option maxRecDepth 100000
set_option maxHeartbeats 4000000

/-- Indices by key, equal keys as they stand. -/
def stab (key : Nat → Int) (xs : List Nat) : List Nat := xs.mergeSort (fun x y => !keyLt key (fun i => (i : Int)) y x)
def encN (i : Nat) : Value := .int .i64 (i : Int)

theorem sortNil_c (g : Nat) (cb : Array Value) (w : World) :
    Calls Tryz.prog 125 #[.slice none 0 0, .func (.func g) #[] cb] w fun e w' => e = .returned (.tuple #[]) ∧ w' = w := by
  have h1 : Calls Tryz.prog 189 #[.slice none 0 0, .int .i64 0, .int .i64 0, .func (.func g) #[] cb] w fun e w' => e = .returned (.tuple #[]) ∧ w' = w := by
    go_enter Tryz.func189, Tryz.ntmps189
    go_wp2
    refine wp_loop_rounds 1 ?_
    rw [rounds_succ]
    go_wp2
    go_end0
    exact ⟨rfl, rfl⟩
  have H1 := Lib.hid h1
  clear h1
  have h2 : Calls Tryz.prog 164 #[.slice none 0 0, .int .i64 0, .func (.func g) #[] cb] w fun e w' => e = .returned (.tuple #[]) ∧ w' = w := by
    go_enter Tryz.func164, Tryz.ntmps164
    go_wp2
    refine wp_loop_rounds 1 ?_
    rw [rounds_succ]
    go_wp2_with (go_at_call 189; refine H1.out.mono ?_; rintro _ w1 ⟨rfl, rfl⟩)
    refine wp_loop_rounds 1 ?_
    rw [rounds_succ]
    go_wp2
    go_end0
    exact ⟨rfl, rfl⟩
  have H2 := Lib.hid h2
  clear h2
  go_enter Tryz.func125, Tryz.ntmps125
  go_wp2_with (go_at_call 164; refine H2.out.mono ?_; rintro _ w1 ⟨rfl, rfl⟩)
  go_end0
  exact ⟨rfl, rfl⟩

theorem sw_grown {α : Type} [Inhabited α] {enc : α → Value} {w0 W : World} {blk off : Nat} {dk : Array α} (h : SW enc w0 blk off dk W) : w0.grownBy W (some blk) := by
  obtain ⟨m, os, rfl⟩ := h
  refine ⟨rfl, rfl, rfl, ?_, fun k hk hn => ?_⟩
  · unfold sortWorld; rw [size_grow, size_putRow]; show w0.heap.size ≤ w0.heap.size + _; omega
  · unfold sortWorld
    rw [heap_grow_old _ _ (by rw [size_putRow]; exact hk)]
    have hne : k ≠ blk := fun e => hn (by rw [e])
    show ((Sort.ahead w0 m).heap.modify blk _)[k]? = _
    rw [Array.getElem?_modify, if_neg (Ne.symm hne)]
    rfl
theorem sortW_cell {α : Type} [Inhabited α] {enc : α → Value} {w0 W : World} {blk off : Nat} {dk : Array α} (h : SW enc w0 blk off dk W) {a : Addr} {v : Value} (hc : w0.cell? a = some v) (hne : a.block ≠ blk) : W.cell? a = some v := by
  rw [← hc]
  exact World.cell?_of_block (w := w0) ((sw_grown h).block a.block (blk_lt hc) (fun e => hne (by simpa using e)))

theorem cmpI_lt (x y : Int) : decide (cmpI x y < 0) = decide (x < y) := by
  unfold cmpI
  by_cases h : x < y
  · simp [h]
  · by_cases h2 : y < x <;> simp [h, h2]

theorem stab_of {n : Nat} [Inhabited (Fin n)] (key : Nat → Int) {d d' : Array (Fin n)} (hp : PermIn 0 d.size d d') (hs : SortedIn (keyLt (fun i : Fin n => key i.val) (fun i => (i.val : Int))) 0 d.size d') :
    d'.toList.map (·.val) = stab key (d.toList.map (·.val)) := by
  have h := sorted_unique_holds (keyLt_swo _ _) (fun x y h1 h2 => by
    unfold keyLt at h1 h2
    simp only [Bool.or_eq_false_iff, Bool.and_eq_false_iff, decide_eq_false_iff_not] at h1 h2
    exact Fin.ext (by omega)) d d' hp hs
  rw [h]
  unfold stab
  exact List.map_mergeSort (fun a _ b _ => rfl)

theorem fins (n : Nat) : ∀ (xs : List Nat), (∀ x ∈ xs, x < n) → ∃ zs : List (Fin n), zs.map (·.val) = xs
  | [], _ => ⟨[], rfl⟩
  | x :: xs, h => by
    obtain ⟨zs, hz⟩ := fins n xs (fun y hy => h y (List.mem_cons_of_mem _ hy))
    exact ⟨⟨x, h x (by simp)⟩ :: zs, by simp [hz]⟩
def castI (i : Nat) : Int := (i : Int)

theorem sortRow_c {n : Nat} (key : Nat → Int) (g : Nat) (cb : Array Value) (eg : ∀ args w, (callFunc g args).run Tryz.prog w = .ok (.enter g args) w) (base : Nat) (v : Value) (xs : List Nat) (w : World)
    (hown : w.ownsRow base 3 1 v xs.length (xs.map encN)) (hnil : xs = [] → v = .slice none 0 0) (hv : v = .slice none 0 0 → xs = []) (hlt : ∀ x ∈ xs, x < n) (hn : n ≤ 1000000) (hinc : xs.Pairwise (· < ·)) (h40 : xs.length ≤ 40)
    (hcmp : ∀ (_ : Inhabited (Fin n)) blk, some blk = v.ownBlock → CmpLays1 Tryz.prog g cb (fun i : Fin n => encN i.val) (fun x y => cmpI (key x.val) (key y.val)) blk 0 xs.length w) :
    Calls Tryz.prog 125 #[v, .func (.func g) #[] cb] w fun e w' => e = .returned (.tuple #[]) ∧ Ints w' v ((stab key xs).map castI) ∧ w.grownBy w' v.ownBlock := by
  by_cases he : xs = []
  · subst he
    obtain rfl := hnil rfl
    refine (sortNil_c g cb w).mono ?_
    rintro _ _ ⟨rfl, rfl⟩
    refine ⟨rfl, ?_, ⟨rfl, rfl, rfl, Nat.le_refl _, fun _ _ _ => rfl⟩⟩
    refine ⟨none, 0, ?_, ?_, by omega, fun x hx => ?_, fun h => ?_⟩
    · simp [stab]
    · simp [stab]
    · simp [stab] at hx
    · simp [stab] at h
  · have hvne : v ≠ .slice none 0 0 := fun e => he (hv e)
    obtain ⟨x0, hx0⟩ : ∃ x, x ∈ xs := by
      cases xs with
      | nil => exact absurd rfl he
      | cons a l => exact ⟨a, by simp⟩
    letI inst : Inhabited (Fin n) := ⟨⟨x0, hlt x0 hx0⟩⟩
    obtain ⟨zs, hz⟩ := fins n xs hlt
    subst hz
    have hl : (zs.map (·.val)).length = zs.length := List.length_map _
    rw [List.map_map, hl] at hown
    rw [hl] at h40
    obtain ⟨b, cap, rfl, hb1, hb2, hb3, hb4, hb5, hH⟩ := holds_of_ownsRow (enc := fun i : Fin n => encN i.val) hown hvne
    have hsz : zs.toArray.size = zs.length := by simp
    have hc := hcmp inst b rfl
    rw [hl] at hc
    have hR : Row1 (fun i : Fin n => encN i.val) w b 0 zs.toArray := ⟨fun _ => rfl, hH, hb2⟩
    refine (sortStable_c (fun i : Fin n => encN i.val) (fun x y => cmpI (key x.val) (key y.val)) g cb b 0 cap zs.length zs.toArray w eg (by rw [hsz]; exact hc) hR hsz (by omega) (fun i => key i.val) (fun i => (i.val : Int)) (fun x y => cmpI_lt _ _) ?_ h40).mono ?_
    · intro i j hij hj
      have hi2 : i < zs.length := by omega
      rw [List.pairwise_map] at hinc
      have := List.pairwise_iff_getElem.1 hinc i j hi2 hj hij
      simp only [List.getElem!_toArray, getElem!_pos, hi2, hj]
      omega
    · rintro _ w' ⟨rfl, d', S', hp, hs⟩
      refine ⟨rfl, ?_, sw_grown S'⟩
      rw [← hsz] at hp hs
      have e := stab_of key hp hs
      rw [show zs.toArray.toList = zs from rfl] at e
      rw [← e]
      have hd : d'.size = zs.length := by rw [hp.1, hsz]
      have hH2 := S'.holds hb2 hH hp.1
      refine ⟨some ⟨b, 0, none⟩, cap, ?_, ?_, ?_, fun x hx => ?_, fun h => ⟨b, 0, rfl, S'.lt hb2, fun k hk => ?_⟩⟩
      · simp [hd]
      · simp [hd]; omega
      · unfold maxLen at hb4; omega
      · simp only [List.mem_map] at hx
        obtain ⟨a, ⟨c, -, rfl⟩, rfl⟩ := hx
        unfold I64 castI
        have := c.isLt
        omega
      · simp only [List.length_map] at hk
        have hk2 : k < d'.size := by simpa using hk
        rw [(hH2 k hk2).1]
        unfold nth
        simp [encN, castI, hk2]
end Go.Proofs.YtbgkbdhdkpjcdaaGreat

namespace Go.Proofs.YtbgkbdhdkpjcdaaGreat
open Go Go.RowKit Go.Proofs

structure Sk where
  a0 : Int
  a1 : Int
  a2 : Int
  a3 : Int
  a4 : Int
  a5 : Int
  i : Bool
  s : Bool
def Sk.ok (x : Sk) : Prop := vspan x.a0 x.a1 = true ∧ vspan x.a2 x.a3 = true ∧ vspan x.a4 x.a5 = true
def Sk.cells (x : Sk) : Array Value := #[.int .i64 x.a0, .int .i64 x.a1, .int .i64 x.a2, .int .i64 x.a3, .int .i64 x.a4, .int .i64 x.a5, .bool x.i, .bool x.s]
def Sk.cut (x b : Sk) : Sk := ⟨cuL x.a0 x.a1 b.a0 b.a1, cuH x.a0 x.a1 b.a0 b.a1, cuL x.a2 x.a3 b.a2 b.a3, cuH x.a2 x.a3 b.a2 b.a3, cuL x.a4 x.a5 b.a4 b.a5, cuH x.a4 x.a5 b.a4 b.a5, x.i, x.s⟩
def Sk.odd (x b : Sk) : Bool := skF x.a0 x.a1 x.a2 x.a3 x.a4 x.a5 b.a0 b.a1 b.a2 b.a3 b.a4 b.a5
/-- What is read of a met: forecasts (0 place, 1 from, 2 to, 3 issued, 4 .. 9 spans; 10 ice, 11 storm), sights (0 place, 1 at, 2 wind, 3 see, 4 ceiling; 5 ice, 6 storm). -/
structure MetD where
  places : Int
  any : Sk
  mw : Int
  ms : Int
  mc : Int
  n : Nat
  D : Nat → Nat → Int
  B : Nat → Nat → Bool
  m : Nat
  E : Nat → Nat → Int
  C : Nat → Nat → Bool
def fcV (D : Nat → Nat → Int) (B : Nat → Nat → Bool) (i j : Nat) : Value := if j < 10 then .int .i64 (D i j) else .bool (B i j)
def siV (E : Nat → Nat → Int) (C : Nat → Nat → Bool) (i j : Nat) : Value := if j < 5 then .int .i64 (E i j) else .bool (C i j)
def MetD.fc (M : MetD) (i : Nat) : Sk := ⟨M.D i 4, M.D i 5, M.D i 6, M.D i 7, M.D i 8, M.D i 9, M.B i 10, M.B i 11⟩
def MetD.covP (M : MetD) (p t : Int) (i : Nat) : Bool := decide (M.D i 0 = p) && inB t (M.D i 1) (M.D i 2 - 1)
def MetD.cov (M : MetD) (p t : Int) (k : Nat) : List Nat := (List.range k).filter (M.covP p t)
def MetD.ordF (M : MetD) (p t : Int) : List Nat := stab (fun i => M.D i 3) (M.cov p t M.n)
def MetD.stepF (M : MetD) (x : Sk) (i : Nat) : Sk := { x.cut (M.fc i) with i := x.i && M.B i 10, s := x.s && M.B i 11 }
def MetD.skyF (M : MetD) (l : List Nat) : Sk := l.foldl M.stepF M.any
def MetD.oddF (M : MetD) : Sk → List Nat → List Nat
  | _, [] => []
  | x, i :: l => if x.odd (M.fc i) then i :: M.oddF (M.stepF x i) l else M.oddF (M.stepF x i) l
def MetD.senP (M : MetD) (p t : Int) (i : Nat) : Bool := decide (M.E i 0 = p) && decide (M.E i 1 ≤ t)
def MetD.sen (M : MetD) (p t : Int) (k : Nat) : List Nat := (List.range k).filter (M.senP p t)
def MetD.ordS (M : MetD) (p t : Int) : List Nat := stab (fun i => M.E i 1) (M.sen p t M.m)
def MetD.si (M : MetD) (t : Int) (i : Nat) : Sk := ⟨neL (M.E i 2) ((t - M.E i 1) * M.mw) 300, neH (M.E i 2) ((t - M.E i 1) * M.mw) 300, neL (M.E i 3) ((t - M.E i 1) * M.ms) 20000, neH (M.E i 3) ((t - M.E i 1) * M.ms) 20000,
  neL (M.E i 4) ((t - M.E i 1) * M.mc) 20000, neH (M.E i 4) ((t - M.E i 1) * M.mc) 20000, false, false⟩
def MetD.stepS (M : MetD) (t : Int) (x : Sk) (i : Nat) : Sk := if t - M.E i 1 = 0 then { x.cut (M.si t i) with i := M.C i 5, s := M.C i 6 } else x.cut (M.si t i)
def MetD.may (M : MetD) (p t : Int) : Sk := (M.ordS p t).foldl (M.stepS t) (M.skyF (M.ordF p t))
def MetD.odd (M : MetD) (p t : Int) : List Nat := M.oddF M.any (M.ordF p t)

/-- A met that Check accepts. -/
def Sk.inr (x : Sk) : Bool := insB x.a0 x.a1 300 && (insB x.a2 x.a3 20000 && insB x.a4 x.a5 20000)
structure MetD.Ok (M : MetD) : Prop where
  places : 1 ≤ M.places ∧ M.places ≤ 8
  any : M.any.inr = true
  mw : 0 ≤ M.mw ∧ M.mw ≤ 20000
  ms : 0 ≤ M.ms ∧ M.ms ≤ 20000
  mc : 0 ≤ M.mc ∧ M.mc ≤ 20000
  n : M.n ≤ 40
  m : M.m ≤ 20
  fp : ∀ i, i < M.n → 0 ≤ M.D i 0 ∧ M.D i 0 ≤ M.places - 1
  ff : ∀ i, i < M.n → 0 ≤ M.D i 1 ∧ M.D i 1 ≤ 2000
  ft : ∀ i, i < M.n → 0 ≤ M.D i 2 ∧ M.D i 2 ≤ 2000
  fi : ∀ i, i < M.n → 0 ≤ M.D i 3 ∧ M.D i 3 ≤ 2000
  fl : ∀ i, i < M.n → M.D i 1 < M.D i 2
  fs : ∀ i, i < M.n → (M.fc i).inr = true
  sp : ∀ i, i < M.m → 0 ≤ M.E i 0 ∧ M.E i 0 ≤ M.places - 1
  sa : ∀ i, i < M.m → 0 ≤ M.E i 1 ∧ M.E i 1 ≤ 2000
  sw : ∀ i, i < M.m → 0 ≤ M.E i 2 ∧ M.E i 2 ≤ 300
  ss : ∀ i, i < M.m → 0 ≤ M.E i 3 ∧ M.E i 3 ≤ 20000
  sc : ∀ i, i < M.m → 0 ≤ M.E i 4 ∧ M.E i 4 ≤ 20000

theorem insB_iff {lo hi m : Int} : insB lo hi m = true ↔ vspan lo hi = true ∧ 0 ≤ lo ∧ lo ≤ m ∧ hi ≤ m := by
  unfold insB; simp only [Bool.and_eq_true, decide_eq_true_eq, inB_iff]
  exact ⟨fun ⟨a, ⟨b, c⟩, d⟩ => ⟨a, b, c, d⟩, fun ⟨a, b, c, d⟩ => ⟨a, ⟨b, c⟩, d⟩⟩
theorem Sk.inr_ok {x : Sk} (h : x.inr = true) : x.ok := by
  unfold Sk.inr at h
  simp only [Bool.and_eq_true] at h
  exact ⟨(insB_iff.1 h.1).1, (insB_iff.1 h.2.1).1, (insB_iff.1 h.2.2).1⟩
/-- A cut of a span in a range by another one is one in the range. -/
theorem cu_ok {al ah bl bh m : Int} (ha : insB al ah m = true) (hb : insB bl bh m = true) : insB (cuL al ah bl bh) (cuH al ah bl bh) m = true := by
  rw [insB_iff, vspan_iff'] at *
  unfold cuL cuH
  split <;> omega
theorem Sk.cut_inr {x b : Sk} (h : x.inr = true) (hb : b.inr = true) : (x.cut b).inr = true := by
  unfold Sk.inr at *
  simp only [Bool.and_eq_true] at *
  exact ⟨cu_ok h.1 hb.1, cu_ok h.2.1 hb.2.1, cu_ok h.2.2 hb.2.2⟩
theorem ne_ok {n d m : Int} (h0 : 0 ≤ n) (h1 : n ≤ m) (h2 : 0 ≤ d) (h3 : m ≤ 1000000) : insB (neL n d m) (neH n d m) m = true := by
  rw [insB_iff, vspan_iff']
  unfold neL neH
  omega
theorem MetD.Ok.stepF {M : MetD} (h : M.Ok) {x : Sk} (hx : x.inr = true) {i : Nat} (hi : i < M.n) : (M.stepF x i).inr = true := by
  have := Sk.cut_inr hx (h.fs i hi)
  exact this
theorem MetD.Ok.si {M : MetD} (h : M.Ok) {t : Int} {i : Nat} (hi : i < M.m) (ht : M.E i 1 ≤ t) : (M.si t i).inr = true := by
  have a := h.sw i hi
  have b := h.ss i hi
  have c := h.sc i hi
  have d : 0 ≤ t - M.E i 1 := by omega
  have e1 := Int.mul_nonneg d h.mw.1
  have e2 := Int.mul_nonneg d h.ms.1
  have e3 := Int.mul_nonneg d h.mc.1
  unfold Sk.inr MetD.si
  simp only [Bool.and_eq_true]
  exact ⟨ne_ok a.1 a.2 e1 (by omega), ne_ok b.1 b.2 e2 (by omega), ne_ok c.1 c.2 e3 (by omega)⟩
theorem MetD.Ok.stepS {M : MetD} (h : M.Ok) {t : Int} {x : Sk} (hx : x.inr = true) {i : Nat} (hi : i < M.m) (ht : M.E i 1 ≤ t) : (M.stepS t x i).inr = true := by
  have := Sk.cut_inr hx (h.si hi ht)
  unfold MetD.stepS
  split
  · exact this
  · exact this

theorem stab_mem {key : Nat → Int} {l : List Nat} {x : Nat} : x ∈ stab key l ↔ x ∈ l := by unfold stab; exact List.mem_mergeSort
theorem MetD.cov_lt {M : MetD} {p t : Int} {k i : Nat} (h : i ∈ M.cov p t k) : i < k := by
  unfold MetD.cov at h; exact List.mem_range.1 (List.mem_filter.1 h).1
theorem MetD.sen_lt {M : MetD} {p t : Int} {k i : Nat} (h : i ∈ M.sen p t k) : i < k ∧ M.E i 1 ≤ t := by
  unfold MetD.sen at h
  have h2 := (List.mem_filter.1 h).2
  unfold MetD.senP at h2
  simp only [Bool.and_eq_true, decide_eq_true_eq] at h2
  exact ⟨List.mem_range.1 (List.mem_filter.1 h).1, h2.2⟩
theorem MetD.cov_succ (M : MetD) (p t : Int) (k : Nat) : M.cov p t (k + 1) = M.cov p t k ++ (if M.covP p t k then [k] else []) := by
  unfold MetD.cov; rw [List.range_succ, List.filter_append]; simp [List.filter]; cases M.covP p t k <;> rfl
theorem MetD.sen_succ (M : MetD) (p t : Int) (k : Nat) : M.sen p t (k + 1) = M.sen p t k ++ (if M.senP p t k then [k] else []) := by
  unfold MetD.sen; rw [List.range_succ, List.filter_append]; simp [List.filter]; cases M.senP p t k <;> rfl
theorem MetD.cov_len (M : MetD) (p t : Int) (k : Nat) : (M.cov p t k).length ≤ k := by
  unfold MetD.cov; exact Nat.le_trans (List.length_filter_le _ _) (by simp)
theorem MetD.sen_len (M : MetD) (p t : Int) (k : Nat) : (M.sen p t k).length ≤ k := by
  unfold MetD.sen; exact Nat.le_trans (List.length_filter_le _ _) (by simp)
theorem MetD.cov_inc (M : MetD) (p t : Int) (k : Nat) : (M.cov p t k).Pairwise (· < ·) := List.Pairwise.filter _ List.pairwise_lt_range
theorem MetD.sen_inc (M : MetD) (p t : Int) (k : Nat) : (M.sen p t k).Pairwise (· < ·) := List.Pairwise.filter _ List.pairwise_lt_range
end Go.Proofs.YtbgkbdhdkpjcdaaGreat

namespace Go.Proofs.YtbgkbdhdkpjcdaaGreat
open Go Go.RowKit Go.Proofs
set_option maxRecDepth 100000
set_option maxHeartbeats 4000000

theorem sky_c (x : Sk) (w : World) : Calls Tryz.prog 76 #[.agg #[.int .i64 x.a0, .int .i64 x.a1, .int .i64 x.a2, .int .i64 x.a3, .int .i64 x.a4, .int .i64 x.a5, .bool x.i, .bool x.s]] w fun e w' => e = .returned (.bool x.inr) ∧ Below w.heap.size w w' := by
  obtain ⟨a0, a1, a2, a3, a4, a5, xi, xs⟩ := x
  have h1 := fun w1 => inside_c a0 a1 300 w1
  have h2 := fun w1 => inside_c a2 a3 20000 w1
  have h3 := fun w1 => inside_c a4 a5 20000 w1
  show Calls _ _ _ _ fun e w' => e = .returned (.bool (insB a0 a1 300 && (insB a2 a3 20000 && insB a4 a5 20000))) ∧ Below w.heap.size w w'
  dsimp only
  generalize insB a0 a1 300 = B1 at *
  generalize insB a2 a3 20000 = B2 at *
  generalize insB a4 a5 20000 = B3 at *
  have H1 := Lib.hid h1
  have H2 := Lib.hid h2
  have H3 := Lib.hid h3
  clear h1 h2 h3
  cases B1 <;> cases B2 <;> cases B3
  all_goals
    go_enter Tryz.func76, Tryz.ntmps76
    go_wp2_with (fail)
    have bHX : Blk (w.alloc (.cells #[.int .i64 a0, .int .i64 a1, .int .i64 a2, .int .i64 a3, .int .i64 a4, .int .i64 a5, .bool xi, .bool xs] 25)) (w.heap.size) 25 #[.int .i64 a0, .int .i64 a1, .int .i64 a2, .int .i64 a3, .int .i64 a4, .int .i64 a5, .bool xi, .bool xs] := (by repeat (first | (refine Blk.newAt _ _ _ ?_; first | rfl | (simp; done)) | refine Blk.alloc ?_ _))
    have bHB : Below w.heap.size w (w.alloc (.cells #[.int .i64 a0, .int .i64 a1, .int .i64 a2, .int .i64 a3, .int .i64 a4, .int .i64 a5, .bool xi, .bool xs] 25)) := (by repeat' (first | exact Below.refl _ _ | assumption | refine Below.drew ?_ | refine bdn ?_ _ | refine bal ?_ _ | refine Below.setCell ?_ (by first | (simp; done) | omega | (simp; omega)) _))
    generalize (w.alloc (.cells #[.int .i64 a0, .int .i64 a1, .int .i64 a2, .int .i64 a3, .int .i64 a4, .int .i64 a5, .bool xi, .bool xs] 25)) = W at *
    have zW := bHX.lt
    have HX := Lib.hid bHX
    have HB := Lib.hid bHB
    clear bHX bHB
    have zHX := HX.out.lt
    have cHX0 := HX.out.cell 0
    have cHX1 := HX.out.cell 1
    go_wp2_with (first | (go_at_call 123; (with_reducible refine (H1.out _).mono ?_); rintro e w1 ⟨rfl, hb1⟩; have nHX := Lib.hid (HX.out.below hb1); have nHB := Lib.hid (bthen HB.out hb1); have zz1 := hb1.size; clear HX HB hb1; have HX := nHX; have HB := nHB; clear nHX nHB; (try clear zHX); have zHX := HX.out.lt; (try clear cHX2); have cHX2 := HX.out.cell 2; (try clear cHX3); have cHX3 := HX.out.cell 3) | (go_at_call 123; (with_reducible refine (H2.out _).mono ?_); rintro e w1 ⟨rfl, hb1⟩; have nHX := Lib.hid (HX.out.below hb1); have nHB := Lib.hid (bthen HB.out hb1); have zz1 := hb1.size; clear HX HB hb1; have HX := nHX; have HB := nHB; clear nHX nHB; (try clear zHX); have zHX := HX.out.lt; (try clear cHX4); have cHX4 := HX.out.cell 4; (try clear cHX5); have cHX5 := HX.out.cell 5) | (go_at_call 123; (with_reducible refine (H3.out _).mono ?_); rintro e w1 ⟨rfl, hb1⟩; have nHX := Lib.hid (HX.out.below hb1); have nHB := Lib.hid (bthen HB.out hb1); have zz1 := hb1.size; clear HX HB hb1; have HX := nHX; have HB := nHB; clear nHX nHB))
    go_ret
    exact ⟨rfl, HB.out⟩

def flyB (we se ce : Int) (ic st : Bool) (lw ls lc : Int) (li lt : Bool) : Bool := decide (we ≤ lw) && (decide (ls ≤ se) && (decide (lc ≤ ce) && ((!ic || li) && (!st || lt))))
theorem flyable_c (we se ce : Int) (ic st : Bool) (lw ls lc : Int) (li lt : Bool) (w : World) : Calls Tryz.prog 119 #[.agg #[.int .i64 we, .int .i64 se, .int .i64 ce, .bool ic, .bool st], .agg #[.int .i64 lw, .int .i64 ls, .int .i64 lc, .bool li, .bool lt]] w
    fun e w' => e = .returned (.bool (flyB we se ce ic st lw ls lc li lt)) ∧ Below w.heap.size w w' := by
  unfold flyB
  by_cases h1 : we ≤ lw
  · by_cases h2 : ls ≤ se
    · by_cases h3 : lc ≤ ce
      · cases ic <;> cases st <;> cases li <;> cases lt
        all_goals
          go_enter Tryz.func119, Tryz.ntmps119
          go_wp2
          go_ret
          exact ⟨ret_bool (by simp [h1, h2, h3]), (by repeat' (first | exact Below.refl _ _ | assumption | refine Below.drew ?_ | refine bdn ?_ _ | refine bal ?_ _ | refine Below.setCell ?_ (by first | (simp; done) | omega | (simp; omega)) _))⟩
      · have h3' : ce < lc := by omega
        go_enter Tryz.func119, Tryz.ntmps119
        go_wp2
        go_ret
        exact ⟨ret_bool (by rw [show decide (lc ≤ ce) = false from decide_eq_false (by omega)]; simp), (by repeat' (first | exact Below.refl _ _ | assumption | refine Below.drew ?_ | refine bdn ?_ _ | refine bal ?_ _ | refine Below.setCell ?_ (by first | (simp; done) | omega | (simp; omega)) _))⟩
    · have h2' : se < ls := by omega
      go_enter Tryz.func119, Tryz.ntmps119
      go_wp2
      go_ret
      exact ⟨ret_bool (by rw [show decide (ls ≤ se) = false from decide_eq_false (by omega)]; simp), (by repeat' (first | exact Below.refl _ _ | assumption | refine Below.drew ?_ | refine bdn ?_ _ | refine bal ?_ _ | refine Below.setCell ?_ (by first | (simp; done) | omega | (simp; omega)) _))⟩
  · have h1' : lw < we := by omega
    go_enter Tryz.func119, Tryz.ntmps119
    go_wp2
    go_ret
    exact ⟨ret_bool (by rw [show decide (we ≤ lw) = false from decide_eq_false (by omega)]; simp), (by repeat' (first | exact Below.refl _ _ | assumption | refine Below.drew ?_ | refine bdn ?_ _ | refine bal ?_ _ | refine Below.setCell ?_ (by first | (simp; done) | omega | (simp; omega)) _))⟩

theorem worst_c (x : Sk) (w : World) : Calls Tryz.prog 120 #[.agg #[.int .i64 x.a0, .int .i64 x.a1, .int .i64 x.a2, .int .i64 x.a3, .int .i64 x.a4, .int .i64 x.a5, .bool x.i, .bool x.s]] w
    fun e w' => e = .returned (.agg #[.int .i64 x.a1, .int .i64 x.a2, .int .i64 x.a4, .bool x.i, .bool x.s]) ∧ Below w.heap.size w w' := by
  obtain ⟨a0, a1, a2, a3, a4, a5, xi, xs⟩ := x
  go_enter Tryz.func120, Tryz.ntmps120
  go_wp2
  exact bodyPost_ret (res_c rfl _ _ _ 5 rfl (Blk.newA _ _ _ (by simp)) Tryz.rowWe rfl) rfl ⟨rfl, (by repeat' (first | exact Below.refl _ _ | assumption | refine Below.drew ?_ | refine bdn ?_ _ | refine bal ?_ _ | refine Below.setCell ?_ (by first | (simp; done) | omega | (simp; omega)) _))⟩
theorem Tryz.rowWhere : RowTy Tryz.prog 118 3 := ⟨by kernel_rfl, by kernel_rfl⟩
theorem wat_c (p t : Int) (w : World) : Calls Tryz.prog 73 #[.int .i64 p, .int .i64 t] w fun e w' => e = .returned (.agg #[.int .i64 p, .int .i64 t, .int .i64 t]) ∧ Below w.heap.size w w' := by
  go_enter Tryz.func73, Tryz.ntmps73
  go_wp2
  exact bodyPost_ret (res_c rfl _ _ _ 3 rfl (Blk.new _ _ _) Tryz.rowWhere rfl) rfl ⟨rfl, (by repeat' (first | exact Below.refl _ _ | assumption | refine Below.drew ?_ | refine bdn ?_ _ | refine bal ?_ _ | refine Below.setCell ?_ (by first | (simp; done) | omega | (simp; omega)) _))⟩
end Go.Proofs.YtbgkbdhdkpjcdaaGreat
