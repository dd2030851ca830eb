/- Texts joined: JAB. -/
import Derived.Test.YtbgkbdhdkpjcdaaGreatJAA
import Derived.Test.YtbgkbdhdkpjcdaaGreatBas
import Derived.Deep.Slices
import Derived.ChangeArms
import Derived.ChangeSlices
import Derived.WideShapes
set_option linter.all false
namespace Go.Proofs.YtbgkbdhdkpjcdaaGreat
open Go Go.RowKit

theorem stops_lo {xs : List Int} {lo hi : Int} : lo ∈ stopsL xs lo hi := by simp [stopsL, stopsF]
theorem stops_hi {xs : List Int} {lo hi : Int} (h : lo ≤ hi) : hi ∈ stopsL xs lo hi := by
  by_cases e : lo < hi
  · simp [stopsL, e]
  · obtain rfl : lo = hi := by omega
    exact stops_lo
theorem stops_mid {xs : List Int} {lo hi x : Int} (hx : x ∈ xs) (h1 : lo < x) (h2 : x < hi) : x ∈ stopsL xs lo hi := by
  simp [stopsL, stopsF, hx, h1, h2]

/-- Two stops with a number between them, all in one part. -/
theorem between {xs : List Int} {lo hi x : Int} (h : axisB xs = true) (h0 : nth xs 0 ≤ x) (h1 : x ≤ nth xs (xs.length - 1)) (hl : lo ≤ x) (hh : x ≤ hi) :
    ∃ i s t, s ∈ stopsL xs lo hi ∧ t ∈ stopsL xs lo hi ∧ InPart xs i s ∧ InPart xs i t ∧ InPart xs i x ∧ s ≤ x ∧ x ≤ t := by
  obtain ⟨p1, p2, p3⟩ := inPart_cellP h h0 h1
  generalize cellP xs x = i at *
  have m0 := nth_mem xs i (by omega)
  have m1 := nth_mem xs (i + 1) p1
  have hs : ∃ s, s ∈ stopsL xs lo hi ∧ nth xs i ≤ s ∧ s ≤ x := by
    by_cases e : nth xs i ≤ lo
    · exact ⟨lo, stops_lo, e, hl⟩
    · by_cases e2 : nth xs i < hi
      · exact ⟨_, stops_mid m0 (by omega) e2, Int.le_refl _, p2⟩
      · exact ⟨hi, stops_hi (by omega), by omega, by omega⟩
  have ht : ∃ t, t ∈ stopsL xs lo hi ∧ t ≤ nth xs (i + 1) ∧ x ≤ t := by
    by_cases e : hi ≤ nth xs (i + 1)
    · exact ⟨hi, stops_hi (by omega), e, hh⟩
    · by_cases e2 : lo < nth xs (i + 1)
      · exact ⟨_, stops_mid m1 e2 (by omega), Int.le_refl _, p3⟩
      · exact ⟨lo, stops_lo, by omega, by omega⟩
  obtain ⟨s, s1, s2, s3⟩ := hs
  obtain ⟨t, t1, t2, t3⟩ := ht
  exact ⟨i, s, t, s1, t1, ⟨p1, s2, by omega⟩, ⟨p1, by omega, t2⟩, ⟨p1, p2, p3⟩, s3, t3⟩

end Go.Proofs.YtbgkbdhdkpjcdaaGreat

/- What the functions of package rotor return, told plainly. -/
namespace Go.Proofs.YtbgkbdhdkpjcdaaGreat
open Go Go.RowKit Go.Proofs

end Go.Proofs.YtbgkbdhdkpjcdaaGreat

/- Plain law: the greatest weight with a margin. -/
namespace Go.Proofs.YtbgkbdhdkpjcdaaGreat
open Go Go.RowKit Go.Proofs

theorem vspan_iff {l h : Int} : vspan l h = true ↔ -1000000 ≤ l ∧ l ≤ h ∧ h ≤ 1000000 := by
  unfold vspan inB; simp only [Bool.and_eq_true, decide_eq_true_eq]; omega
theorem Fits.sub {T : Tbl} {xl xh yl yh a b : Int} (h : Fits T xl xh yl yh) (h1 : xl ≤ a) (h2 : a ≤ b) (h3 : b ≤ xh) : Fits T a b yl yh := by
  have v := vspan_iff.1 h.vx
  refine ⟨h.t, vspan_iff.2 (by omega), h.vy, ?_, h.ly⟩
  have := h.lx
  unfold liesB at *
  simp only [Bool.and_eq_true, decide_eq_true_eq] at *
  omega

end Go.Proofs.YtbgkbdhdkpjcdaaGreat

namespace Go.Proofs.YtbgkbdhdkpjcdaaGreat
open Go Go.RowKit Go.Proofs
set_option maxRecDepth 100000
set_option maxHeartbeats 4000000

theorem Blk.drew {W : World} {g : Nat} {t : TypeId} {cs : Array Value} (h : Blk W g t cs) : Blk W.drew g t cs := h
end Go.Proofs.YtbgkbdhdkpjcdaaGreat

namespace Go.Proofs.YtbgkbdhdkpjcdaaGreat
open Go Go.RowKit Go.Proofs
set_option maxRecDepth 100000
set_option maxHeartbeats 4000000

/-- A pointer to a new block of these cells. -/
def NewBlk (w0 : Nat) (t : TypeId) (cs : Array Value) (v : Value) (w : World) : Prop := ∃ g, v = .pointer (some ⟨g, 0, none⟩) ∧ w0 ≤ g ∧ Blk w g t cs
theorem NewBlk.below {w0 : Nat} {t : TypeId} {cs : Array Value} {v : Value} {w w' : World} (hb : Below w.heap.size w w') (h : NewBlk w0 t cs v w) : NewBlk w0 t cs v w' := by
  obtain ⟨g, rfl, h1, h2⟩ := h; exact ⟨g, rfl, h1, h2.below hb⟩

theorem Tryz.rowSpan : RowTy Tryz.prog 23 2 := ⟨by kernel_rfl, by kernel_rfl⟩

end Go.Proofs.YtbgkbdhdkpjcdaaGreat

namespace Go.Proofs.YtbgkbdhdkpjcdaaGreat
open Go Go.RowKit Go.Proofs Go.ChangeShapes Go.WideShapes Go.Deep

/-- Cells from address A on hold n records of k cells each. -/
def RecsAt (w : World) (A : Option Addr) (n k : Nat) (V : Nat → Nat → Value) : Prop :=
  0 < n → ∃ b off, A = some ⟨b, off, none⟩ ∧ b < w.heap.size ∧ ∀ i, i < n → ∀ j, j < k → w.cell? ⟨b, off + i * k + j, none⟩ = some (V i j)
theorem RecsAt.below {w w' : World} {A : Option Addr} {n k : Nat} {V : Nat → Nat → Value} (h : RecsAt w A n k V) (hb : Below w.heap.size w w') : RecsAt w' A n k V := by
  intro hn
  obtain ⟨b, off, hA, hlt, hc⟩ := h hn
  exact ⟨b, off, hA, Nat.lt_of_lt_of_le hlt hb.size, fun i hi j hj => (hb.cell (p := ⟨b, off + i * k + j, none⟩) hlt).trans (hc i hi j hj)⟩
theorem RecsAt.cells {w : World} {A : Option Addr} {n k : Nat} {V : Nat → Nat → Value} (h : RecsAt w A n k V) : CellsAt w A (n * k) (fun q => V (q / k) (q % k)) := by
  intro hn
  have hn0 : 0 < n := Nat.pos_of_ne_zero fun h => by simp [h] at hn
  have hk0 : 0 < k := Nat.pos_of_ne_zero fun h => by simp [h] at hn
  obtain ⟨b, off, hA, hlt, hc⟩ := h hn0
  refine ⟨b, off, hA, hlt, fun q hq => ?_⟩
  have := hc (q / k) (Nat.div_lt_of_lt_mul (by rw [Nat.mul_comm]; exact hq)) (q % k) (Nat.mod_lt _ hk0)
  rw [show off + q / k * k + q % k = off + q by have := Nat.div_add_mod q k; rw [Nat.mul_comm] at this; omega] at this
  exact this
theorem RecsAt.of_owns {w : World} {base : Nat} {e : TypeId} {v : Value} {n k : Nat} {V : Nat → Nat → Value} (hk : 0 < k) (h : w.ownsRow base e k v n ((List.range (n * k)).map fun q => V (q / k) (q % k))) :
    ∃ A c, v = .slice A n c ∧ n ≤ c ∧ c ≤ 9223372036854775807 ∧ RecsAt w A n k V := by
  rcases h.2 with ⟨rfl, hz⟩ | ⟨g, cap, cur, rfl, h1, h2, h3, h4, h5, h6⟩
  · exact ⟨none, 0, by rw [hz], by omega, by omega, fun hp => by omega⟩
  · refine ⟨some ⟨g, 0, none⟩, cap, rfl, h3, by unfold maxLen at h4; omega, fun hp => ⟨g, 0, rfl, (Array.getElem?_eq_some_iff.1 h2).1, fun i hi j hj => ?_⟩⟩
    have hlt : i * k + j < n * k := by
      have : (i + 1) * k ≤ n * k := Nat.mul_le_mul_right k hi
      rw [Nat.add_mul] at this; omega
    have := h.cellAt (g := g) (i * k + j) hlt
    rw [Nat.zero_add, this]
    simp only [List.getElem?_map, List.getElem?_range hlt, Option.map_some]
    rw [Nat.mul_comm i k, Nat.mul_add_div hk, Nat.mul_add_mod, Nat.div_eq_of_lt hj, Nat.mod_eq_of_lt hj, Nat.add_zero]
theorem RecsAt.sub {w : World} {b off n k : Nat} {V : Nat → Nat → Value} (h : RecsAt w (some ⟨b, off, none⟩) n k V) (i m : Nat) (hi : i + m ≤ n) : RecsAt w (some ⟨b, off + i * k, none⟩) m k (fun j => V (i + j)) := by
  intro hm
  obtain ⟨b', off', hA, hlt, hc⟩ := h (by omega)
  simp only [Option.some.injEq, Addr.mk.injEq, and_true] at hA
  obtain ⟨rfl, rfl⟩ := hA
  refine ⟨b, off + i * k, rfl, hlt, fun q hq j hj => ?_⟩
  have := hc (i + q) (by omega) j hj
  rw [Nat.add_mul] at this
  rw [show off + i * k + q * k + j = off + (i * k + q * k) + j by omega]; exact this

section
variable {H : Type} {enc : TypeId × Value → H} {P : Program} {w : World} {base : Nat} {sp : Nat → Bool} {held : Bool}
theorem recs_trod {t e : TypeId} {k fuel : Nat} {c : Value} {x : DataW H × List MemPlace} (ht : P.underlying t = some (.slice e)) (hk : P.cellsOf e = k) (hk0 : 0 < k) (h : DataW.trod enc P w base sp held fuel t [c] = some x) :
    ∃ A n cp V, c = .slice A n cp ∧ n ≤ cp ∧ cp ≤ 9223372036854775807 ∧ (A = none → cp = 0) ∧ RecsAt w A n k V ∧ ∀ i, i < n → ∃ m y, DataW.trod enc P w base sp held m e ((List.range k).map (V i)) = some y := by
  rcases open_slice ht h with ⟨e, -⟩ | ⟨a, len, cap, m, n, D, Pl, e, -, h1, h2, h3, -, h4⟩
  · obtain rfl : c = .slice none 0 0 := by simpa using e
    exact ⟨none, 0, 0, fun _ _ => undef, rfl, Nat.le_refl _, by omega, fun _ => rfl, fun hp => by omega, fun i hi => by omega⟩
  · obtain rfl : c = .slice (some a) len cap := by simpa using e
    have hm : len ≤ m := by rw [h3]; split <;> omega
    rw [hk] at h4
    have hv : ∀ i, i < len → ∃ cs, w.cells? base (a.add (i * k)) k = some cs ∧ DataW.trod enc P w base sp held n _ cs = some (D i, Pl i) := fun i hi => h4 i (by omega)
    obtain ⟨Z, hZ⟩ := choose_lt (α := List Value) (p := fun i cs => w.cells? base (a.add (i * k)) k = some cs ∧ DataW.trod enc P w base sp held n _ cs = some (D i, Pl i)) hv
    have hc : ∀ i, i < len → (Z i).length = k ∧ ∀ j, j < k → w.cell? (a.add (i * k + j)) = some ((Z i).getD j undef) := by
      intro i hi
      obtain ⟨-, hl, hcell⟩ := World.cells?_some (hZ i hi).1
      refine ⟨hl, fun j hj => ?_⟩
      have := hcell j hj
      rw [Go.Deep.add_add] at this
      rw [this, List.getD, List.getElem?_eq_getElem (by omega)]
      rfl
    refine ⟨some a, len, cap, fun i j => (Z i).getD j undef, rfl, by omega, by unfold maxLen at h2; omega, (fun h => by cases h), fun hp => ?_, fun i hi => ⟨n, (D i, Pl i), ?_⟩⟩
    · obtain ⟨b, off, spot⟩ := a
      have h00 := (hc 0 hp).2 0 hk0
      have hspot : spot = none := by simpa [Addr.add] using World.cell?_spot h00
      subst hspot
      refine ⟨b, off, rfl, ?_, fun i hi j hj => ?_⟩
      · have := World.block_lt_of_cell? w _ h00; simpa [Addr.add] using this
      · have := (hc i hi).2 j hj
        have hadd : (⟨b, off, none⟩ : Addr).add (i * k + j) = ⟨b, off + i * k + j, none⟩ := by unfold Addr.add; split <;> simp_all [Nat.add_assoc] <;> omega
        rwa [hadd] at this
    · have : (List.range k).map (fun j => (Z i).getD j undef) = Z i := by
        apply List.ext_getElem?
        intro j
        have hl := (hc i hi).1
        by_cases hj : j < k
        · simp [hj, List.getD, List.getElem?_eq_getElem (show j < (Z i).length by omega)]
        · simp [hj, List.getElem?_eq_none (show (Z i).length ≤ j by omega)]
      rw [this]; exact (hZ i hi).2
end
end Go.Proofs.YtbgkbdhdkpjcdaaGreat
