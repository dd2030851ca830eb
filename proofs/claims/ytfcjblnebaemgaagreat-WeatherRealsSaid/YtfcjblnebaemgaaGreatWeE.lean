/- A slice of indices is put in order by a key, equal ones as they stood. -/
import Derived.Test.YtfcjblnebaemgaaGreatWeD
import Derived.Lib.OwnBridge
set_option linter.all false
namespace Go.Proofs.YtfcjblnebaemgaaGreat
open Go Go.Shelf Go.RowKit Go.Lib Go.Sort Go.Proofs
set_option maxRecDepth 100000
set_option maxHeartbeats 4000000

/-- Indices by key, equal keys as they stand. -/
def stab (key : Nat → Int) (xs : List Nat) : List Nat := xs.mergeSort (fun x y => !keyLt key (fun i => (i : Int)) y x)
def encN (i : Nat) : Value := .int .i64 (i : Int)

theorem sortNil_c (g : Nat) (cb : Array Value) (w : World) :
    Calls Tryz.prog 46 #[.slice none 0 0, .func (.func g) #[] cb] w fun e w' => e = .returned (.tuple #[]) ∧ w' = w := by
  have h1 : Calls Tryz.prog 85 #[.slice none 0 0, .int .i64 0, .int .i64 0, .func (.func g) #[] cb] w fun e w' => e = .returned (.tuple #[]) ∧ w' = w := by
    go_enter Tryz.func85, Tryz.ntmps85
    go_wp2
    refine wp_loop_rounds 1 ?_
    rw [rounds_succ]
    go_wp2
    go_end0
    exact ⟨rfl, rfl⟩
  have H1 := Lib.hid h1
  clear h1
  have h2 : Calls Tryz.prog 69 #[.slice none 0 0, .int .i64 0, .func (.func g) #[] cb] w fun e w' => e = .returned (.tuple #[]) ∧ w' = w := by
    go_enter Tryz.func69, Tryz.ntmps69
    go_wp2
    refine wp_loop_rounds 1 ?_
    rw [rounds_succ]
    go_wp2_with (go_at_call 85; refine H1.out.mono ?_; rintro _ w1 ⟨rfl, rfl⟩)
    refine wp_loop_rounds 1 ?_
    rw [rounds_succ]
    go_wp2
    go_end0
    exact ⟨rfl, rfl⟩
  have H2 := Lib.hid h2
  clear h2
  go_enter Tryz.func46, Tryz.ntmps46
  go_wp2_with (go_at_call 69; refine H2.out.mono ?_; rintro _ w1 ⟨rfl, rfl⟩)
  go_end0
  exact ⟨rfl, rfl⟩

theorem sw_grown {α : Type} [Inhabited α] {enc : α → Value} {w0 W : World} {blk off : Nat} {dk : Array α} (h : SW enc w0 blk off dk W) : w0.grownBy W (some blk) := by
  obtain ⟨m, os, rfl⟩ := h
  refine ⟨rfl, rfl, rfl, ?_, fun k hk hn => ?_⟩
  · unfold sortWorld; rw [size_grow, size_putRow]; show w0.heap.size ≤ w0.heap.size + _; omega
  · unfold sortWorld
    rw [heap_grow_old _ _ (by rw [size_putRow]; exact hk)]
    have hne : k ≠ blk := fun e => hn (by rw [e])
    show ((Sort.ahead w0 m).heap.modify blk _)[k]? = _
    rw [Array.getElem?_modify, if_neg (Ne.symm hne)]
    rfl
theorem sortW_cell {α : Type} [Inhabited α] {enc : α → Value} {w0 W : World} {blk off : Nat} {dk : Array α} (h : SW enc w0 blk off dk W) {a : Addr} {v : Value} (hc : w0.cell? a = some v) (hne : a.block ≠ blk) : W.cell? a = some v := by
  rw [← hc]
  exact World.cell?_of_block (w := w0) ((sw_grown h).block a.block (blk_lt hc) (fun e => hne (by simpa using e)))

theorem cmpI_lt (x y : Int) : decide (cmpI x y < 0) = decide (x < y) := by
  unfold cmpI
  by_cases h : x < y
  · simp [h]
  · by_cases h2 : y < x <;> simp [h, h2]

theorem stab_of {n : Nat} [Inhabited (Fin n)] (key : Nat → Int) {d d' : Array (Fin n)} (hp : PermIn 0 d.size d d') (hs : SortedIn (keyLt (fun i : Fin n => key i.val) (fun i => (i.val : Int))) 0 d.size d') :
    d'.toList.map (·.val) = stab key (d.toList.map (·.val)) := by
  have h := sorted_unique_holds (keyLt_swo _ _) (fun x y h1 h2 => by
    unfold keyLt at h1 h2
    simp only [Bool.or_eq_false_iff, Bool.and_eq_false_iff, decide_eq_false_iff_not] at h1 h2
    exact Fin.ext (by omega)) d d' hp hs
  rw [h]
  unfold stab
  exact List.map_mergeSort (fun a _ b _ => rfl)

theorem fins (n : Nat) : ∀ (xs : List Nat), (∀ x ∈ xs, x < n) → ∃ zs : List (Fin n), zs.map (·.val) = xs
  | [], _ => ⟨[], rfl⟩
  | x :: xs, h => by
    obtain ⟨zs, hz⟩ := fins n xs (fun y hy => h y (List.mem_cons_of_mem _ hy))
    exact ⟨⟨x, h x (by simp)⟩ :: zs, by simp [hz]⟩
def castI (i : Nat) : Int := (i : Int)

theorem sortRow_c {n : Nat} (key : Nat → Int) (g : Nat) (cb : Array Value) (eg : ∀ args w, (callFunc g args).run Tryz.prog w = .ok (.enter g args) w) (base : Nat) (v : Value) (xs : List Nat) (w : World)
    (hown : w.ownsRow base 3 1 v xs.length (xs.map encN)) (hnil : xs = [] → v = .slice none 0 0) (hv : v = .slice none 0 0 → xs = []) (hlt : ∀ x ∈ xs, x < n) (hn : n ≤ 1000000) (hinc : xs.Pairwise (· < ·)) (h40 : xs.length ≤ 40)
    (hcmp : ∀ (_ : Inhabited (Fin n)) blk, some blk = v.ownBlock → CmpLays1 Tryz.prog g cb (fun i : Fin n => encN i.val) (fun x y => cmpI (key x.val) (key y.val)) blk 0 xs.length w) :
    Calls Tryz.prog 46 #[v, .func (.func g) #[] cb] w fun e w' => e = .returned (.tuple #[]) ∧ Ints w' v ((stab key xs).map castI) ∧ w.grownBy w' v.ownBlock := by
  by_cases he : xs = []
  · subst he
    obtain rfl := hnil rfl
    refine (sortNil_c g cb w).mono ?_
    rintro _ _ ⟨rfl, rfl⟩
    refine ⟨rfl, ?_, ⟨rfl, rfl, rfl, Nat.le_refl _, fun _ _ _ => rfl⟩⟩
    refine ⟨none, 0, ?_, ?_, by omega, fun x hx => ?_, fun h => ?_⟩
    · simp [stab]
    · simp [stab]
    · simp [stab] at hx
    · simp [stab] at h
  · have hvne : v ≠ .slice none 0 0 := fun e => he (hv e)
    obtain ⟨x0, hx0⟩ : ∃ x, x ∈ xs := by
      cases xs with
      | nil => exact absurd rfl he
      | cons a l => exact ⟨a, by simp⟩
    letI inst : Inhabited (Fin n) := ⟨⟨x0, hlt x0 hx0⟩⟩
    obtain ⟨zs, hz⟩ := fins n xs hlt
    subst hz
    have hl : (zs.map (·.val)).length = zs.length := List.length_map _
    rw [List.map_map, hl] at hown
    rw [hl] at h40
    obtain ⟨b, cap, rfl, hb1, hb2, hb3, hb4, hb5, hH⟩ := holds_of_ownsRow (enc := fun i : Fin n => encN i.val) hown hvne
    have hsz : zs.toArray.size = zs.length := by simp
    have hc := hcmp inst b rfl
    rw [hl] at hc
    have hR : Row1 (fun i : Fin n => encN i.val) w b 0 zs.toArray := ⟨fun _ => rfl, hH, hb2⟩
    refine (sortStable_c (fun i : Fin n => encN i.val) (fun x y => cmpI (key x.val) (key y.val)) g cb b 0 cap zs.length zs.toArray w eg (by rw [hsz]; exact hc) hR hsz (by omega) (fun i => key i.val) (fun i => (i.val : Int)) (fun x y => cmpI_lt _ _) ?_ h40).mono ?_
    · intro i j hij hj
      have hi2 : i < zs.length := by omega
      rw [List.pairwise_map] at hinc
      have := List.pairwise_iff_getElem.1 hinc i j hi2 hj hij
      simp only [List.getElem!_toArray, getElem!_pos, hi2, hj]
      omega
    · rintro _ w' ⟨rfl, d', S', hp, hs⟩
      refine ⟨rfl, ?_, sw_grown S'⟩
      rw [← hsz] at hp hs
      have e := stab_of key hp hs
      rw [show zs.toArray.toList = zs from rfl] at e
      rw [← e]
      have hd : d'.size = zs.length := by rw [hp.1, hsz]
      have hH2 := S'.holds hb2 hH hp.1
      refine ⟨some ⟨b, 0, none⟩, cap, ?_, ?_, ?_, fun x hx => ?_, fun h => ⟨b, 0, rfl, S'.lt hb2, fun k hk => ?_⟩⟩
      · simp [hd]
      · simp [hd]; omega
      · unfold maxLen at hb4; omega
      · simp only [List.mem_map] at hx
        obtain ⟨a, ⟨c, -, rfl⟩, rfl⟩ := hx
        unfold I64 castI
        have := c.isLt
        omega
      · simp only [List.length_map] at hk
        have hk2 : k < d'.size := by simpa using hk
        rw [(hH2 k hk2).1]
        unfold nth
        simp [encN, castI, hk2]
end Go.Proofs.YtfcjblnebaemgaaGreat
