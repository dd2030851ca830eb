/- Contracts: CheckTable of package spans. -/
import Derived.Test.YtoembbcddhlokaaSpB
set_option linter.all false
namespace Go.Proofs.Ytoembbcddhlokaa
open Go Go.RowKit Go.Proofs

theorem out_c (n : Int) (w : World) :
   Calls Try.prog 110 #[.int .i64 n] w fun e w' => e = .returned (.bool (!inB n (-1000000) 1000000)) ∧ w = w' := by
  go_enter Try.func110, Try.ntmps110
  go_wp2_with (go_at_call 101; refine (within_c _ _ _ _).mono ?_; rintro e w1 ⟨rfl, rfl⟩)
  go_ret
  exact ⟨rfl, rfl⟩

def anyOut (r : List Int) : Bool := (List.range r.length).any fun i => !inB (nth r i) (-1000000) 1000000
def rowBad (ny : Nat) (r : List Int) : Bool := (r.length : Int) != (ny : Int) || anyOut r

theorem row_c (l : Value) (xs : List Int) (bt bo : Nat) (y : Value) (ny : Nat) (w : World) (hl : Ints w l xs)
    (hy : w.cell? ⟨bt, 1, none⟩ = some y) (hyl : ∃ A c, y = .slice A ny c) (hny : ny ≤ 9223372036854775807)
    (ho : w.cell? ⟨bo, 0, none⟩ = some (.func (.func 110) #[] #[])) :
   Calls Try.prog 111 #[l, .pointer (some ⟨bt, 0, none⟩), .pointer (some ⟨bo, 0, none⟩)] w fun e w' => e = .returned (.bool (rowBad ny xs)) ∧ Below w.heap.size w w' := by
  obtain ⟨A, c, rfl, hc1, hc2, _, hA⟩ := hl
  obtain ⟨yA, yc, rfl⟩ := hyl
  have hcf := cfInt_c A xs.length c (nth xs) 110 #[] (fun i => !inB (nth xs i) (-1000000) 1000000) w (by omega) (enters_of Try.func110 (by kernel_rfl) rfl) hA
    (fun W i _ hb => (out_c (nth xs i) W).mono fun e w' ⟨he, hw⟩ => ⟨he, hw ▸ Below.refl _ _⟩)
  have hcf' : Calls Try.prog 106 #[.slice A xs.length c, .func (.func 110) #[] #[]] w fun e w' => e = .returned (.bool (anyOut xs)) ∧ Below w.heap.size w w' := hcf
  have HC := Lib.hid hcf'
  clear hcf hcf'
  have hlen : xs.length ≤ 9223372036854775807 := by omega
  cases h : ((xs.length : Int) != (ny : Int))
  · go_enter Try.func111, Try.ntmps111
    go_wp2_with (go_at_call 106; refine HC.out.mono ?_; rintro e w1 ⟨rfl, hb1⟩)
    go_ret
    exact ⟨ret_bool (by simp [rowBad, h]), hb1⟩
  · go_enter Try.func111, Try.ntmps111
    go_wp2
    go_ret
    exact ⟨ret_bool (by simp [rowBad, h]), Below.refl _ _⟩

def anyRowBad (ny : Nat) (V : List (List Int)) : Bool := (List.range V.length).any fun i => rowBad ny (nthR V i)
def tblB (T : Tbl) : Bool := axisB T.X && axisB T.Y && !((T.V.length : Int) != (T.X.length : Int)) && !anyRowBad T.Y.length T.V
def tblE (b : Bool) : Int := if b then 0 else 11
theorem tblE_t : tblE true = 0 := rfl
theorem tblE_f : tblE false = 11 := rfl

set_option maxHeartbeats 800000 in
theorem CheckTable_c (x y v : Value) (T : Tbl) (w : World) (hT : TblAt w x y v T) :
   Calls Try.prog 61 #[.agg #[x, y, v]] w fun e w' => e = .returned (.int .i64 (tblE (tblB T))) ∧ Below w.heap.size w w' := by
  have hx := hT.x
  have hy := hT.y
  have hyl := hy.len
  have hxl := hx.len
  obtain ⟨A, c, vs, rfl, hv1, hv2, hv3, hv4⟩ := hT.v
  have hcf : ∀ W, Below w.heap.size w W → W.cell? ⟨w.heap.size, 1, none⟩ = some y → W.cell? ⟨w.heap.size + 1, 0, none⟩ = some (.func (.func 110) #[] #[]) →
      Hid (Calls Try.prog 104 #[.slice A T.V.length c, .func (.func 111) #[] #[.pointer (some ⟨w.heap.size, 0, none⟩), .pointer (some ⟨w.heap.size + 1, 0, none⟩)]] W fun e w' => e = .returned (.bool (anyRowBad T.Y.length T.V)) ∧ Below W.heap.size W w') := by
    intro W hW h1 h2
    have b1 := blk_lt h1
    have b2 := blk_lt h2
    refine cfRow_c A T.V.length c vs 111 #[.pointer (some ⟨w.heap.size, 0, none⟩), .pointer (some ⟨w.heap.size + 1, 0, none⟩)] (fun i => rowBad T.Y.length (nthR T.V i)) W (by omega)
      (enters_of Try.func111 (by kernel_rfl) rfl) (hv3.below hW) ?_
    intro W' i hi hb
    obtain ⟨yA, yc, hyv, _⟩ := hy
    refine row_c (vs i) (nthR T.V i) w.heap.size (w.heap.size + 1) y T.Y.length W' (((hv4 i hi).below hW).below hb) ?_ ⟨yA, yc, hyv⟩ hyl ?_
    · exact (hb.cell (p := ⟨w.heap.size, 1, none⟩) b1).trans h1
    · exact (hb.cell (p := ⟨w.heap.size + 1, 0, none⟩) b2).trans h2
  clear hv3 hv4
  obtain ⟨xA, xc, rfl, _⟩ := id hx
  obtain ⟨yA, yc, rfl, _⟩ := id hy
  clear hT
  cases h1 : axisB T.X
  · go_enter Try.func61, Try.ntmps61
    go_wp2_with (first | (go_at_call 112; (with_reducible refine (axis_c _ T.X _ (hx.below (by repeat' (first | exact Below.refl _ _ | assumption | refine Below.drew ?_ | refine bdn ?_ _ | refine bal ?_ _ | refine Below.setCell ?_ (by first | (simp; done) | omega | (simp; omega)) _)))).mono ?_); rintro e w1 ⟨rfl, rfl⟩))
    go_ret
    exact ⟨ret_int (by simp [tblB, h1, tblE]), (by repeat' (first | exact Below.refl _ _ | assumption | refine Below.drew ?_ | refine bdn ?_ _ | refine bal ?_ _ | refine Below.setCell ?_ (by first | (simp; done) | omega | (simp; omega)) _))⟩
  · cases h2 : axisB T.Y
    · go_enter Try.func61, Try.ntmps61
      go_wp2_with (first | (go_at_call 112; (with_reducible refine (axis_c _ T.X _ (hx.below (by repeat' (first | exact Below.refl _ _ | assumption | refine Below.drew ?_ | refine bdn ?_ _ | refine bal ?_ _ | refine Below.setCell ?_ (by first | (simp; done) | omega | (simp; omega)) _)))).mono ?_); rintro e w1 ⟨rfl, rfl⟩) | (go_at_call 112; (with_reducible refine (axis_c _ T.Y _ (hy.below (by repeat' (first | exact Below.refl _ _ | assumption | refine Below.drew ?_ | refine bdn ?_ _ | refine bal ?_ _ | refine Below.setCell ?_ (by first | (simp; done) | omega | (simp; omega)) _)))).mono ?_); rintro e w1 ⟨rfl, rfl⟩))
      go_ret
      exact ⟨ret_int (by simp [tblB, h1, h2, tblE]), (by repeat' (first | exact Below.refl _ _ | assumption | refine Below.drew ?_ | refine bdn ?_ _ | refine bal ?_ _ | refine Below.setCell ?_ (by first | (simp; done) | omega | (simp; omega)) _))⟩
    · cases h3 : ((T.V.length : Int) != (T.X.length : Int))
      · have HC := hcf ((w.alloc (.cells #[.slice xA T.X.length xc, .slice yA T.Y.length yc, .slice A T.V.length c] 25)).alloc (.cells #[.func (.func 110) #[] #[]] 121)) (by repeat' (first | exact Below.refl _ _ | assumption | refine Below.drew ?_ | refine bdn ?_ _ | refine bal ?_ _ | refine Below.setCell ?_ (by first | (simp; done) | omega | (simp; omega)) _)) (by simp [World.cell?_alloc_old]) (by simpa using World.cell?_alloc_new (w.alloc (.cells #[.slice xA T.X.length xc, .slice yA T.Y.length yc, .slice A T.V.length c] 25)) #[.func (.func 110) #[] #[]] 121 0)
        clear hcf
        have h3' : (tblB T) = !anyRowBad T.Y.length T.V := by simp [tblB, h1, h2, h3]
        have H3 := Lib.hid h3'
        clear h3'
        cases h4 : anyRowBad T.Y.length T.V
        all_goals
          rw [h4] at HC H3
          clear h4
          go_enter Try.func61, Try.ntmps61
          go_wp2_with (first | (go_at_call 112; (with_reducible refine (axis_c _ T.X _ (hx.below (by repeat' (first | exact Below.refl _ _ | assumption | refine Below.drew ?_ | refine bdn ?_ _ | refine bal ?_ _ | refine Below.setCell ?_ (by first | (simp; done) | omega | (simp; omega)) _)))).mono ?_); rintro e w1 ⟨rfl, rfl⟩) | (go_at_call 112; (with_reducible refine (axis_c _ T.Y _ (hy.below (by repeat' (first | exact Below.refl _ _ | assumption | refine Below.drew ?_ | refine bdn ?_ _ | refine bal ?_ _ | refine Below.setCell ?_ (by first | (simp; done) | omega | (simp; omega)) _)))).mono ?_); rintro e w1 ⟨rfl, rfl⟩) | (go_at_call 104; refine HC.out.mono ?_; rintro e w1 ⟨rfl, hb1⟩))
          go_ret
          exact ⟨ret_int (by rw [H3.out]; rfl), bthen (by repeat' (first | exact Below.refl _ _ | assumption | refine Below.drew ?_ | refine bdn ?_ _ | refine bal ?_ _ | refine Below.setCell ?_ (by first | (simp; done) | omega | (simp; omega)) _)) hb1⟩
      · go_enter Try.func61, Try.ntmps61
        go_wp2_with (first | (go_at_call 112; (with_reducible refine (axis_c _ T.X _ (hx.below (by repeat' (first | exact Below.refl _ _ | assumption | refine Below.drew ?_ | refine bdn ?_ _ | refine bal ?_ _ | refine Below.setCell ?_ (by first | (simp; done) | omega | (simp; omega)) _)))).mono ?_); rintro e w1 ⟨rfl, rfl⟩) | (go_at_call 112; (with_reducible refine (axis_c _ T.Y _ (hy.below (by repeat' (first | exact Below.refl _ _ | assumption | refine Below.drew ?_ | refine bdn ?_ _ | refine bal ?_ _ | refine Below.setCell ?_ (by first | (simp; done) | omega | (simp; omega)) _)))).mono ?_); rintro e w1 ⟨rfl, rfl⟩))
        go_ret
        exact ⟨ret_int (by simp [tblB, h1, h2, h3, tblE]), (by repeat' (first | exact Below.refl _ _ | assumption | refine Below.drew ?_ | refine bdn ?_ _ | refine bal ?_ _ | refine Below.setCell ?_ (by first | (simp; done) | omega | (simp; omega)) _))⟩
end Go.Proofs.Ytoembbcddhlokaa
