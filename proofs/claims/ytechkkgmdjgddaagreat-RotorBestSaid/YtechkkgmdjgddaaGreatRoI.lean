/- Contracts: package rotor's check. -/
import Derived.Test.YtechkkgmdjgddaaGreatRoG
set_option linter.all false
namespace Go.Proofs.YtechkkgmdjgddaaGreat
open Go Go.RowKit Go.Proofs
set_option maxRecDepth 100000
set_option maxHeartbeats 4000000

theorem check1_c (lo hi : Int) (w : World) :
   Calls Tryz.prog 59 #[.agg #[.int .i64 lo, .int .i64 hi]] w fun e w' => e = .returned (.bool (!vspan lo hi)) ∧ Below w.heap.size w w' := by
  cases h : vspan lo hi
  all_goals
    go_enter Tryz.func59, Tryz.ntmps59
    go_wp2_with (first | (go_at_call 57; (with_reducible refine (ro_valid_c _ _ _).mono ?_); rintro e w1 ⟨rfl, hb1⟩; have hB1 := bthen (show Below w.heap.size w _ from (by repeat' (first | exact Below.refl _ _ | assumption | refine Below.drew ?_ | refine bdn ?_ _ | refine bal ?_ _ | refine Below.setCell ?_ (by first | (simp; done) | omega | (simp; omega)) _))) hb1; have hz1 := hb1.size; (try simp at hz1); obtain ⟨hc1, hf1⟩ := bcell hb1; first | (have hE1 := bthen2 hE (by repeat' (first | exact Below.refl _ _ | refine Below.drew ?_ | refine bdn ?_ _ | refine bal ?_ _ | refine Below.setCell ?_ (by first | (simp; done) | omega | (simp; omega)) _)) hb1; clear hE; have hE := hE1; clear hE1; obtain ⟨hd1, hg1⟩ := bcell hE) | (have hE := hb1)))
    go_ret
    exact ⟨rfl, (by repeat' (first | exact Below.refl _ _ | assumption | refine Below.drew ?_ | refine bdn ?_ _ | refine bal ?_ _ | refine Below.setCell ?_ (by first | (simp; done) | omega | (simp; omega)) _))⟩

theorem check2_c (x y v : Value) (xs ys : List Int) (xl xh yl yh : Int) (w : World) (hx : Ints w x xs) (hy : Ints w y ys) (h0 : 0 < xs.length) (h1 : 0 < ys.length) :
   Calls Tryz.prog 61 #[.agg #[x, y, v, .int .i64 xl, .int .i64 xh, .int .i64 yl, .int .i64 yh]] w fun e w' => e = .returned (.bool (!(liesB xs xl xh && liesB ys yl yh))) ∧ Below w.heap.size w w' := by
  have hc := fun w1 hx hy => ro_lies_c x y v xs ys xl xh yl yh w1 hx hy h0 h1
  generalize (liesB xs xl xh && liesB ys yl yh) = r at *
  have HX := Lib.hid hx
  have HY := Lib.hid hy
  have HC := Lib.hid hc
  clear hx hy hc
  cases r
  all_goals
    go_enter Tryz.func61, Tryz.ntmps61
    go_wp2_with (first | (go_at_call 62; (with_reducible refine (HC.out _ (HX.out.below (by repeat' (first | exact Below.refl _ _ | assumption | refine Below.drew ?_ | refine bdn ?_ _ | refine bal ?_ _ | refine Below.setCell ?_ (by first | (simp; done) | omega | (simp; omega)) _))) (HY.out.below (by repeat' (first | exact Below.refl _ _ | assumption | refine Below.drew ?_ | refine bdn ?_ _ | refine bal ?_ _ | refine Below.setCell ?_ (by first | (simp; done) | omega | (simp; omega)) _)))).mono ?_); rintro e w1 ⟨rfl, hb1⟩; have hB1 := bthen (show Below w.heap.size w _ from (by repeat' (first | exact Below.refl _ _ | assumption | refine Below.drew ?_ | refine bdn ?_ _ | refine bal ?_ _ | refine Below.setCell ?_ (by first | (simp; done) | omega | (simp; omega)) _))) hb1; have hz1 := hb1.size; (try simp at hz1); obtain ⟨hc1, hf1⟩ := bcell hb1; first | (have hE1 := bthen2 hE (by repeat' (first | exact Below.refl _ _ | refine Below.drew ?_ | refine bdn ?_ _ | refine bal ?_ _ | refine Below.setCell ?_ (by first | (simp; done) | omega | (simp; omega)) _)) hb1; clear hE; have hE := hE1; clear hE1; obtain ⟨hd1, hg1⟩ := bcell hE) | (have hE := hb1)))
    go_ret
    exact ⟨rfl, (by repeat' (first | exact Below.refl _ _ | assumption | refine Below.drew ?_ | refine bdn ?_ _ | refine bal ?_ _ | refine Below.setCell ?_ (by first | (simp; done) | omega | (simp; omega)) _))⟩

/-- What a table's look-up reads as. -/
structure Look where
  T : Tbl
  xl : Int
  xh : Int
  yl : Int
  yh : Int
def Look.on (k : Look) : Bool := lkE k.T k.xl k.xh k.yl k.yh
/-- A slice value that reads as a list of look-ups. -/
def Looks (w : World) (v : Value) (n : Nat) (L : Nat → Look) : Prop :=
  ∃ A c x y u, v = .slice A n c ∧ n ≤ 1000 ∧ LookedsAt w A n x y u (fun i => (L i).xl) (fun i => (L i).xh) (fun i => (L i).yl) (fun i => (L i).yh) ∧ ∀ i, i < n → TblAt w (x i) (y i) (u i) (L i).T ∧ 0 < (L i).T.X.length ∧ 0 < (L i).T.Y.length
def offL (n : Nat) (L : Nat → Look) : Bool := (List.range n).any fun i => !(L i).on

theorem looks_c (v : Value) (n : Nat) (L : Nat → Look) (w : World) (hv : Looks w v n L) :
   Calls Tryz.prog 60 #[v, .func (.func 61) #[] #[]] w fun e w' => e = .returned (.bool (offL n L)) ∧ Below w.heap.size w w' := by
  obtain ⟨A, c, x, y, u, rfl, hn, hA, hT⟩ := hv
  exact cfLooked_c A n c x y u _ _ _ _ 61 #[] (fun i => !(L i).on) w (by omega) (enters_of Tryz.func61 (by kernel_rfl) rfl) hA
    (fun W i hi hb => by
      obtain ⟨h1, h2, h3⟩ := hT i hi
      exact check2_c (x i) (y i) (u i) (L i).T.X (L i).T.Y _ _ _ _ W (h1.x.below hb) (h1.y.below hb) h2 h3)
theorem furs_c (A : Option Addr) (n c : Nat) (lo hi : Nat → Int) (w : World) (hn : n ≤ 1000) (hA : SpansAt w A n lo hi) :
   Calls Tryz.prog 58 #[.slice A n c, .func (.func 59) #[] #[]] w fun e w' => e = .returned (.bool (anyBad n lo hi)) ∧ Below w.heap.size w w' :=
  cfSpan_c A n c lo hi 59 #[] (fun i => !vspan (lo i) (hi i)) w (by omega) (enters_of Tryz.func59 (by kernel_rfl) rfl) hA
    (fun W i _ hb => check1_c (lo i) (hi i) W)

/-- What the closure of the tables does. -/
def Tables (P : Program) (g : Nat) (lb : Array Value) (n : Nat) (L : Nat → Look) (w : World) : Prop :=
  ∀ W, Below w.heap.size w W → Calls P g lb W fun e w' => ∃ v, e = .returned v ∧ Looks w' v n L ∧ Below W.heap.size W w'

def AIR (wl wh tl th el eh nl nh : Int) : Nat → Int × Int
  | 0 => (wl, wh) | 1 => (tl, th) | 2 => (el, eh) | _ => (nl, nh)
theorem airB_no {wl wh tl th el eh nl nh : Int} {k : Nat} (hk : k < 4) (h : vspan (AIR wl wh tl th el eh nl nh k).1 (AIR wl wh tl th el eh nl nh k).2 = false) : airB wl wh tl th el eh nl nh = false := by
  rcases (show k = 0 ∨ k = 1 ∨ k = 2 ∨ k = 3 by omega) with rfl | rfl | rfl | rfl <;> simp only [AIR] at h <;> simp [airB, h]
theorem airB_yes {wl wh tl th el eh nl nh : Int} (h : ∀ k, k < 4 → vspan (AIR wl wh tl th el eh nl nh k).1 (AIR wl wh tl th el eh nl nh k).2 = true) : airB wl wh tl th el eh nl nh = true := by
  have h0 := h 0 (by omega)
  have h1 := h 1 (by omega)
  have h2 := h 2 (by omega)
  have h3 := h 3 (by omega)
  simp only [AIR] at h0 h1 h2 h3
  simp [airB, h0, h1, h2, h3]

theorem SpansAt.below' {w w' : World} {A : Option Addr} {n : Nat} {lo hi : Nat → Int} (h : SpansAt w A n lo hi) (hb : Below w.heap.size w w') : SpansAt w' A n lo hi := by
  intro hn
  obtain ⟨b, off, hA, hlt, hc⟩ := h hn
  exact ⟨b, off, hA, Nat.lt_of_lt_of_le hlt hb.size, fun k hk => ⟨(hb.cell (p := ⟨b, off + k * 2, none⟩) hlt).trans (hc k hk).1, (hb.cell (p := ⟨b, off + k * 2 + 1, none⟩) hlt).trans (hc k hk).2⟩⟩
theorem Tryz.rowRot : RowTy Tryz.prog 27 26 := ⟨by kernel_rfl, by kernel_rfl⟩

theorem check_c (hx hy hv gx gy gv lx ly lv px py pv nx ny nv ax ay av cx cy cv dx dy dv : Value) (cl bu : Int) (wl wh tl th el eh nl nh : Int) (S : Tabs) (A : Option Addr) (n c : Nat) (lo hi : Nat → Int) (g : Nat) (lb : Array Value) (m : Nat) (L : Nat → Look) (w : World) (hR : RotAt w hx hy hv gx gy gv lx ly lv px py pv nx ny nv ax ay av cx cy cv dx dy dv cl bu S) (hn : n ≤ 1000)
    (hA : SpansAt w A n lo hi) (hg : ∀ args w, (callFunc g args).run Tryz.prog w = .ok (.enter g args) w) (hT : rotB S cl bu = true → Tables Tryz.prog g lb m L w) :
   Calls Tryz.prog 31 #[.agg #[hx, hy, hv, gx, gy, gv, lx, ly, lv, px, py, pv, nx, ny, nv, ax, ay, av, cx, cy, cv, dx, dy, dv, .int .i64 cl, .int .i64 bu], .agg #[.int .i64 wl, .int .i64 wh, .int .i64 tl, .int .i64 th, .int .i64 el, .int .i64 eh, .int .i64 nl, .int .i64 nh], .slice A n c, .func (.func g) #[] lb] w fun e w' => e = .returned (.int .i64 (chkE (rotB S cl bu) (airB wl wh tl th el eh nl nh) (anyBad n lo hi) (offL m L))) ∧ Below w.heap.size w w' := by
  have HR := Lib.hid hR
  have HF := Lib.hid (fun w1 (hA : SpansAt w1 A n lo hi) => furs_c A n c lo hi w1 hn hA)
  have HA := Lib.hid hA
  have HT := Lib.hid hT
  have e1 := rotE_t
  have e2 := rotE_f
  clear hR hA hT
  generalize anyBad n lo hi = bad at *
  have hM : Blk ((w.alloc (.cells #[hx, hy, hv, gx, gy, gv, lx, ly, lv, px, py, pv, nx, ny, nv, ax, ay, av, cx, cy, cv, dx, dy, dv, .int .i64 cl, .int .i64 bu] 27)).alloc (.cells #[.int .i64 wl, .int .i64 wh, .int .i64 tl, .int .i64 th, .int .i64 el, .int .i64 eh, .int .i64 nl, .int .i64 nh] 31)) w.heap.size 27 #[hx, hy, hv, gx, gy, gv, lx, ly, lv, px, py, pv, nx, ny, nv, ax, ay, av, cx, cy, cv, dx, dy, dv, .int .i64 cl, .int .i64 bu] := (by repeat (first | (refine Blk.newAt _ _ _ ?_; first | rfl | (simp; done)) | refine Blk.alloc ?_ _))
  have HM := Lib.hid hM
  clear hM
  cases hr : rotB S cl bu
  · go_enter Tryz.func31, Tryz.ntmps31
    go_wp2_with (first | (refine wpl_row rfl 27 (.tmp 4) rfl _ rfl _ 26 HM.out Tryz.rowRot rfl ?_; simp only [Act.put]) | (go_at_call 56; (with_reducible refine (Check_c _ _ _ _ _ _ _ _ _ _ _ _ _ _ _ _ _ _ _ _ _ _ _ _ _ _ S _ (HR.out.below (by repeat' (first | exact Below.refl _ _ | assumption | refine Below.drew ?_ | refine bdn ?_ _ | refine bal ?_ _ | refine Below.setCell ?_ (by first | (simp; done) | omega | (simp; omega)) _)))).mono ?_); rintro e w1 ⟨rfl, hb1⟩; have hB1 := bthen (show Below w.heap.size w _ from (by repeat' (first | exact Below.refl _ _ | assumption | refine Below.drew ?_ | refine bdn ?_ _ | refine bal ?_ _ | refine Below.setCell ?_ (by first | (simp; done) | omega | (simp; omega)) _))) hb1; have hz1 := hb1.size; (try simp at hz1); obtain ⟨hc1, hf1⟩ := bcell hb1; first | (have hE1 := bthen2 hE (by repeat' (first | exact Below.refl _ _ | refine Below.drew ?_ | refine bdn ?_ _ | refine bal ?_ _ | refine Below.setCell ?_ (by first | (simp; done) | omega | (simp; omega)) _)) hb1; clear hE; have hE := hE1; clear hE1; obtain ⟨hd1, hg1⟩ := bcell hE) | (have hE := hb1)))
    go_ret
    exact ⟨ret_int rfl, (by repeat' (first | exact Below.refl _ _ | assumption | refine Below.drew ?_ | refine bdn ?_ _ | refine bal ?_ _ | refine Below.setCell ?_ (by first | (simp; done) | omega | (simp; omega)) _))⟩
  · go_enter Tryz.func31, Tryz.ntmps31
    go_wp2_with (first | (refine wpl_row rfl 27 (.tmp 4) rfl _ rfl _ 26 HM.out Tryz.rowRot rfl ?_; simp only [Act.put]) | (go_at_call 56; (with_reducible refine (Check_c _ _ _ _ _ _ _ _ _ _ _ _ _ _ _ _ _ _ _ _ _ _ _ _ _ _ S _ (HR.out.below (by repeat' (first | exact Below.refl _ _ | assumption | refine Below.drew ?_ | refine bdn ?_ _ | refine bal ?_ _ | refine Below.setCell ?_ (by first | (simp; done) | omega | (simp; omega)) _)))).mono ?_); rintro e w1 ⟨rfl, hb1⟩; have hB1 := bthen (show Below w.heap.size w _ from (by repeat' (first | exact Below.refl _ _ | assumption | refine Below.drew ?_ | refine bdn ?_ _ | refine bal ?_ _ | refine Below.setCell ?_ (by first | (simp; done) | omega | (simp; omega)) _))) hb1; have hz1 := hb1.size; (try simp at hz1); obtain ⟨hc1, hf1⟩ := bcell hb1; first | (have hE1 := bthen2 hE (by repeat' (first | exact Below.refl _ _ | refine Below.drew ?_ | refine bdn ?_ _ | refine bal ?_ _ | refine Below.setCell ?_ (by first | (simp; done) | omega | (simp; omega)) _)) hb1; clear hE; have hE := hE1; clear hE1; obtain ⟨hd1, hg1⟩ := bcell hE) | (have hE := hb1)))
    have hBW : Below w.heap.size w (w1.alloc (.cells #[.int .i64 wl, .int .i64 wh, .int .i64 tl, .int .i64 th, .int .i64 el, .int .i64 eh, .int .i64 nl, .int .i64 nh] 29)) := bal hB1 _
    have bA := Blk.new w1 29 #[.int .i64 wl, .int .i64 wh, .int .i64 tl, .int .i64 th, .int .i64 el, .int .i64 eh, .int .i64 nl, .int .i64 nh]
    have hsz : w.heap.size ≤ w1.heap.size := hB1.size
    generalize hWW : w1.alloc (.cells #[.int .i64 wl, .int .i64 wh, .int .i64 tl, .int .i64 th, .int .i64 el, .int .i64 eh, .int .i64 nl, .int .i64 nh] 29) = W at *
    have hcell : ∀ k, k < 4 → W.cell? ⟨w1.heap.size, k * 2, none⟩ = some (.int .i64 (AIR wl wh tl th el eh nl nh k).1) ∧ W.cell? ⟨w1.heap.size, k * 2 + 1, none⟩ = some (.int .i64 (AIR wl wh tl th el eh nl nh k).2) := by
      intro k hk
      rcases (show k = 0 ∨ k = 1 ∨ k = 2 ∨ k = 3 by omega) with rfl | rfl | rfl | rfl
      all_goals exact ⟨bA.cell _, bA.cell _⟩
    have hbl := bA.lt
    have HCell := Lib.hid hcell
    have HBW := Lib.hid hBW
    clear hcell hBW hWW bA hc1 hf1 hb1 hB1 hz1 hE
    generalize w1.heap.size = b4 at *
    clear w1
    go_loopw [27] (fun s wr => ∃ k : Nat, k ≤ 4 ∧ s = .int .i64 k ∧ RowKit.Hid (Below W.heap.size W wr) ∧ RowKit.Hid (∀ j, j < k → vspan (AIR wl wh tl th el eh nl nh j).1 (AIR wl wh tl th el eh nl nh j).2 = true)) (fun s _ => 4 - (intOf s).toNat)
    case atStart => exact ⟨0, by omega, rfl, Below.refl _ _, fun j hj => absurd hj (by omega)⟩
    case round =>
      obtain ⟨k, hk, rfl, hB, hF⟩ := hrel
      have hBw : Below w.heap.size w wr := HBW.out.trans (hB.out.mono HBW.out.size)
      by_cases hlt : k < 4
      · have ⟨c0, c1⟩ := HCell.out k hlt
        replace c0 := (hB.out.cell (p := ⟨b4, k * 2, none⟩) hbl).trans c0
        replace c1 := (hB.out.cell (p := ⟨b4, k * 2 + 1, none⟩) hbl).trans c1
        have hbr : b4 < wr.heap.size := Nat.lt_of_lt_of_le hbl hB.out.size
        have hzw := hBw.size
        cases hv : vspan (AIR wl wh tl th el eh nl nh k).1 (AIR wl wh tl th el eh nl nh k).2
        · go_wp2_with (first | (go_at_call 57; (with_reducible refine (ro_valid_c _ _ _).mono ?_); rintro e w1 ⟨rfl, hb1⟩; have hB1 := bthen (show Below w.heap.size w _ from (by repeat' (first | exact Below.refl _ _ | assumption | refine Below.drew ?_ | refine bdn ?_ _ | refine bal ?_ _ | refine Below.setCell ?_ (by first | (simp; done) | omega | (simp; omega)) _))) hb1; have hz1 := hb1.size; (try simp at hz1); obtain ⟨hc1, hf1⟩ := bcell hb1; first | (have hE1 := bthen2 hE (by repeat' (first | exact Below.refl _ _ | refine Below.drew ?_ | refine bdn ?_ _ | refine bal ?_ _ | refine Below.setCell ?_ (by first | (simp; done) | omega | (simp; omega)) _)) hb1; clear hE; have hE := hE1; clear hE1; obtain ⟨hd1, hg1⟩ := bcell hE) | (have hE := hb1)))
          go_ret
          exact ⟨ret_int (by rw [airB_no hlt hv]; rfl), by assumption⟩
        · go_wp2_with (first | (go_at_call 57; (with_reducible refine (ro_valid_c _ _ _).mono ?_); rintro e w1 ⟨rfl, hb1⟩; have hB1 := bthen (show Below w.heap.size w _ from (by repeat' (first | exact Below.refl _ _ | assumption | refine Below.drew ?_ | refine bdn ?_ _ | refine bal ?_ _ | refine Below.setCell ?_ (by first | (simp; done) | omega | (simp; omega)) _))) hb1; have hz1 := hb1.size; (try simp at hz1); obtain ⟨hc1, hf1⟩ := bcell hb1; first | (have hE1 := bthen2 hE (by repeat' (first | exact Below.refl _ _ | refine Below.drew ?_ | refine bdn ?_ _ | refine bal ?_ _ | refine Below.setCell ?_ (by first | (simp; done) | omega | (simp; omega)) _)) hb1; clear hE; have hE := hE1; clear hE1; obtain ⟨hd1, hg1⟩ := bcell hE) | (have hE := hb1)))
          have hBo := hB.out
          have hzo := hBo.size
          have hBn : Below W.heap.size W w1 := bthen (show Below W.heap.size W _ from (by repeat' (first | exact Below.refl _ _ | assumption | refine Below.drew ?_ | refine bdn ?_ _ | refine bal ?_ _ | refine Below.setCell ?_ (by first | (simp; done) | omega | (simp; omega)) _))) hb1
          go_roundw
          case rel => exact ⟨k + 1, by omega, by go_num, hBn, fun j hj => by
            by_cases e : j = k
            · subst e; exact hv
            · exact hF.out j (by omega)⟩
          case measure => simp [intOf]; omega
      · obtain rfl : k = 4 := by omega
        have HAir : RowKit.Hid (airB wl wh tl th el eh nl nh = true) := airB_yes hF.out
        have HX := Lib.hid (HF.out wr (HA.out.below' hBw))
        have HTr := Lib.hid (HT.out hr)
        clear hF HCell HF
        cases hbad : bad
        · rw [hbad] at HX
          have Hbad := Lib.hid hbad
          clear hbad
          have HL := Lib.hid (fun w2 v (hv : Looks w2 v m L) => looks_c v m L w2 hv)
          have hzb := hBw.size
          cases ho : offL m L
          all_goals
            rw [ho] at HL
            have Hoff := Lib.hid ho
            clear ho
            go_wp2_with (first | (go_at_call 58; (with_reducible refine HX.out.mono ?_); rintro e w2 ⟨rfl, hb2⟩; have hB2 := bthen hBw hb2; have tok := Lib.hid hB2) | (go_at_fn g; go_loud (refine (HTr.out _ tok.out).mono ?_; rintro e w3 ⟨v, rfl, hv, hb3⟩; have HV := Lib.hid hv; clear hv; have hB3 := bthen hB2 hb3)) | (go_at_call 60; (with_reducible refine (HL.out _ _ HV.out).mono ?_); rintro e w4 ⟨rfl, hb4⟩; have hB4 := bthen hB3 hb4))
            go_ret
            exact ⟨ret_int (by (try rw [HAir.out]); (try rw [Hbad.out]); (try rw [Hoff.out]); rfl), hB4⟩
        · rw [hbad] at HX
          have Hbad := Lib.hid hbad
          clear hbad
          go_wp2_with (first | (go_at_call 58; (with_reducible refine HX.out.mono ?_); rintro e w2 ⟨rfl, hb2⟩; have hB2 := bthen hBw hb2))
          go_ret
          exact ⟨ret_int (by (try rw [HAir.out]); (try rw [Hbad.out]); rfl), hB2⟩
end Go.Proofs.YtechkkgmdjgddaaGreat
