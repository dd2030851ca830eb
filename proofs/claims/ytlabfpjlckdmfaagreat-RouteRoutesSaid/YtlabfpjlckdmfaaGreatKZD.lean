/- Texts joined: KZD. -/
import Derived.Test.YtlabfpjlckdmfaaGreatKAT
set_option linter.all false
namespace Go.Proofs.YtlabfpjlckdmfaaGreat
open Go Go.RowKit Go.Proofs
set_option maxRecDepth 100000
set_option maxHeartbeats 8000000
theorem opE_late {M : MetD} {lw ls lc p t : Int} (h : 2000 < t) : opE M lw ls lc p t ≠ 0 := by
 unfold opE
 split
 ·unfold atE
  have e : inB t 0 2000 = false := by
   cases q : inB t 0 2000
   ·rfl
   ·have := inB_iff.1 q; omega
  rw [e]
  split
  ·decide
  ·simp
 ·rename_i q; exact q
def ropR (gx gN gH : Nat) (r l : Value) (p t : Int) (B : Bool) (E : Int) : Nat → Value → World → Prop
 | 0, v, _ => v = .pointer (some ⟨gx, 0, none⟩)
 | 1, v, _ => v = .pointer (some ⟨gx, 0, none⟩)
 | 2, v, _ => v = .pointer (some ⟨gx, 0, none⟩)
 | 3, v, _ => v = .pointer (some ⟨gN, 0, none⟩)
 | 4, v, _ => v = .pointer (some ⟨gN, 0, none⟩)
 | 5, v, _ => v = .pointer (some ⟨gN, 0, none⟩)
 | 6, v, _ => v = r
 | 7, v, _ => v = .pointer (some ⟨gx, 0, none⟩)
 | 8, v, _ => v = .pointer (some ⟨gx, 0, none⟩)
 | 9, v, _ => v = .pointer (some ⟨gx, 6, none⟩)
 | 10, v, _ => v = l
 | 11, v, _ => v = .pointer (some ⟨gH, 0, none⟩)
 | 12, v, _ => v = .int .i64 p
 | 13, v, _ => v = .pointer (some ⟨gH, 1, none⟩)
 | 14, v, _ => v = .int .i64 t
 | 15, v, _ => v = .tuple #[.bool B, .int .i64 E]
 | 16, v, _ => v = .tuple #[.bool B, .int .i64 E]
 | 17, v, _ => v = .bool B
 | 18, v, _ => v = .int .i64 E
 | _, _, _ => True
theorem ropR_below {gx gN gH : Nat} {r l : Value} {p t : Int} {B : Bool} {E : Int} (k : Nat) (v : Value) (w w' : World) (hb : Below w.heap.size w w') (h : ropR gx gN gH r l p t B E k v w) : ropR gx gN gH r l p t B E k v w' := by
 unfold ropR at *
 split at h <;> first | exact h
theorem fopen_c (M : MetD) (vF vS v vN : Value) (P : Nat) (lt tt : Tab) (F : FliD) (vR : Value) (lw ls lc : Int) (li lb : Bool) (p t : Int) (bk : Bool) (w : World) (h : FliAt w v vN M vF vS P lt tt F vR lw ls lc li lb) (hM : MetAt w vF vS M) :
  Calls Tryz.prog 66 #[v, .agg #[.int .i64 p, .int .i64 t, .bool bk]] w fun e w' => e = .returned (.bool (openV M lw ls lc li lb p t)) ∧ RowKit.Below w.heap.size w w' := by
 obtain ⟨gx, vA, rfl, hx, hN, -, -, -⟩ := h
 obtain ⟨gN, gL, gT, cL, cT, rL, rT, loL, hiL, loT, hiT, rfl, n1, -, -⟩ := hN
 have hop := fun w1 h => wOpen_c M vF vS lw ls lc li lb p t w1 h
 obtain ⟨B, hB⟩ : ∃ q, q = openV M lw ls lc li lb p t := ⟨_, rfl⟩
 obtain ⟨E, hE⟩ : ∃ q, q = opE M lw ls lc p t := ⟨_, rfl⟩
 have hEB : E ≠ 0 → B = false := fun h => by rw [hB]; unfold openV; rw [← hE, decide_eq_false h]; rfl
 have hEL : 2000 < t → E ≠ 0 := fun h => by rw [hE]; exact opE_late h
 rw [← hB, ← hE] at hop
 rw [← hB]
 have HOP := hI9 hop
 have HM := hI9 hM
 have HXX := hI9 hx
 have HN := hI9 n1
 clear hop hM hx n1 hB hE
 by_cases hl : 2000 < t
 case pos =>
  obtain rfl := hEB (hEL hl)
  clear hEB hEL
  go_enter Tryz.func66, Tryz.ntmps66
  go_wp2_with (fail)
  go_ret
  exact ⟨rfl, (by repeat' (first | exact Below.refl _ _ | assumption | refine Below.drew ?_ | refine bdn ?_ _ | refine bal ?_ _ | refine Below.setCell ?_ (by first | (simp; done) | omega | (simp; omega)) _))⟩
 clear hEL
 go_enter Tryz.func66, Tryz.ntmps66
 go_wp2_with (fail)
 have _x := frm1 w #[.int .i64 p, .int .i64 t, .bool bk] 67
 have HH := hI9 _x.1
 have HB := hI9 _x.2.1
 have zW := _x.2.2
 clear _x
 generalize World.alloc w _ = W at *
 refine wp_region_specL 19 [18] (ropR gx gN w.heap.size (.agg #[.int .i64 M.places, .int .i64 M.any.a0, .int .i64 M.any.a1, .int .i64 M.any.a2, .int .i64 M.any.a3, .int .i64 M.any.a4, .int .i64 M.any.a5, .bool M.any.i, .bool M.any.s, .int .i64 M.mw, .int .i64 M.ms, .int .i64 M.mc, vF, vS]) (.agg #[.int .i64 lw, .int .i64 ls, .int .i64 lc, .bool li, .bool lb]) p t B E) (fun i => false) (by kernel_rfl) (by kernel_rfl) (by decide) ropR_below ?hop1 ?htail1
 case hop1 =>
  simp only [List.take_succ_cons, List.take_zero, allOps]
  refine ⟨?_, ?_, ?_, ?_, ?_, ?_, ?_, ?_, ?_, ?_, ?_, ?_, ?_, ?_, ?_, ?_, ?_, ?_, ?_, trivial⟩
  all_goals intro u A w1 hA hb hd
  all_goals simp only [putAll, dstOf, gtA, gtS, gtZ, Option.bind_some, Option.bind, Act.put, List.setIfInBounds_toArray, List.set_cons_succ, List.set_cons_zero] at hA; subst hA
  all_goals have HB1 := hI9 hb
  ·refine OpOk.now rfl ?_
   clear hb hd
   go_wp2
   exact ⟨_, rfl, Below.refl _ _, rfl, fun h => absurd h (by decide)⟩
  ·refine OpOk.now rfl ?_
   have d0 : u 0 = _ := hd 0 (by omega) (by kernel_rfl)
   clear hb hd
   rw [d0]
   clear d0
   go_wp2
   exact ⟨_, rfl, Below.refl _ _, rfl, fun h => absurd h (by decide)⟩
  ·refine OpOk.now rfl ?_
   have d1 : u 1 = _ := hd 1 (by omega) (by kernel_rfl)
   clear hb hd
   rw [d1]
   clear d1
   go_wp2
   exact ⟨_, rfl, Below.refl _ _, rfl, fun h => absurd h (by decide)⟩
  ·refine OpOk.now rfl ?_
   have d2 : u 2 = _ := hd 2 (by omega) (by kernel_rfl)
   clear hb hd
   rw [d2]
   clear d2
   have x0 := ((HXX.out.below HB.out).below HB1.out).cell 0
   simp only [List.getElem?_toArray, List.getElem?_cons_zero] at x0
   go_wp2
   exact ⟨_, rfl, Below.refl _ _, rfl, fun h => absurd h (by decide)⟩
  ·refine OpOk.now rfl ?_
   have d3 : u 3 = _ := hd 3 (by omega) (by kernel_rfl)
   clear hb hd
   rw [d3]
   clear d3
   go_wp2
   exact ⟨_, rfl, Below.refl _ _, rfl, fun h => absurd h (by decide)⟩
  ·refine OpOk.now rfl ?_
   have d4 : u 4 = _ := hd 4 (by omega) (by kernel_rfl)
   clear hb hd
   rw [d4]
   clear d4
   go_wp2
   exact ⟨_, rfl, Below.refl _ _, rfl, fun h => absurd h (by decide)⟩
  ·refine OpOk.now rfl ?_
   have d5 : u 5 = _ := hd 5 (by omega) (by kernel_rfl)
   clear hb hd
   rw [d5]
   clear d5
   go_wp2_with (refine wpl_mid rfl 29 _ rfl gN 0 rfl 74 _ #[.int .i64 M.places, .int .i64 M.any.a0, .int .i64 M.any.a1, .int .i64 M.any.a2, .int .i64 M.any.a3, .int .i64 M.any.a4, .int .i64 M.any.a5, .bool M.any.i, .bool M.any.s, .int .i64 M.mw, .int .i64 M.ms, .int .i64 M.mc, vF, vS] 14 ((HN.out.below HB.out).below HB1.out) Tryz.rowMet [] [.slice (some ⟨gL, 0, none⟩) P cL, .slice (some ⟨gT, 0, none⟩) P cT] rfl rfl rfl ?_; simp only [Act.put])
   exact ⟨_, rfl, Below.refl _ _, rfl, fun h => absurd h (by decide)⟩
  ·refine OpOk.now rfl ?_
   clear hb hd
   go_wp2
   exact ⟨_, rfl, Below.refl _ _, rfl, fun h => absurd h (by decide)⟩
  ·refine OpOk.now rfl ?_
   have d7 : u 7 = _ := hd 7 (by omega) (by kernel_rfl)
   clear hb hd
   rw [d7]
   clear d7
   go_wp2
   exact ⟨_, rfl, Below.refl _ _, rfl, fun h => absurd h (by decide)⟩
  ·refine OpOk.now rfl ?_
   have d8 : u 8 = _ := hd 8 (by omega) (by kernel_rfl)
   clear hb hd
   rw [d8]
   clear d8
   go_wp2
   exact ⟨_, rfl, Below.refl _ _, rfl, fun h => absurd h (by decide)⟩
  ·refine OpOk.now rfl ?_
   have d9 : u 9 = _ := hd 9 (by omega) (by kernel_rfl)
   clear hb hd
   rw [d9]
   clear d9
   go_wp2_with (refine wpl_mid rfl 31 _ rfl gx 6 rfl 79 _ #[.int .i64 lw, .int .i64 ls, .int .i64 lc, .bool li, .bool lb] 5 ((HXX.out.below HB.out).below HB1.out) Tryz.rowMin [.pointer (some ⟨gN, 0, none⟩), vR, .int .i64 F.dep, .int .i64 F.fuel, .int .i64 F.burn, .int .i64 F.res] [vA] rfl rfl rfl ?_; simp only [Act.put])
   exact ⟨_, rfl, Below.refl _ _, rfl, fun h => absurd h (by decide)⟩
  ·refine OpOk.now rfl ?_
   clear hb hd
   go_wp2
   exact ⟨_, rfl, Below.refl _ _, rfl, fun h => absurd h (by decide)⟩
  ·refine OpOk.now rfl ?_
   have d11 : u 11 = _ := hd 11 (by omega) (by kernel_rfl)
   clear hb hd
   rw [d11]
   clear d11
   have c0 := (HH.out.below HB1.out).cell 0
   simp only [List.getElem?_toArray, List.getElem?_cons_zero] at c0
   go_wp2
   exact ⟨_, rfl, Below.refl _ _, rfl, fun h => absurd h (by decide)⟩
  ·refine OpOk.now rfl ?_
   clear hb hd
   go_wp2
   exact ⟨_, rfl, Below.refl _ _, rfl, fun h => absurd h (by decide)⟩
  ·refine OpOk.now rfl ?_
   have d13 : u 13 = _ := hd 13 (by omega) (by kernel_rfl)
   clear hb hd
   rw [d13]
   clear d13
   have c1 := (HH.out.below HB1.out).cell 1
   simp only [gtA, gtS, gtZ] at c1
   go_wp2
   exact ⟨_, rfl, Below.refl _ _, rfl, fun h => absurd h (by decide)⟩
  ·refine OpOk.now rfl ?_
   have d6 : u 6 = _ := hd 6 (by omega) (by kernel_rfl)
   have d10 : u 10 = _ := hd 10 (by omega) (by kernel_rfl)
   have d12 : u 12 = _ := hd 12 (by omega) (by kernel_rfl)
   have d14 : u 14 = _ := hd 14 (by omega) (by kernel_rfl)
   clear hb hd
   rw [d6, d10, d12, d14]
   clear d6 d10 d12 d14
   go_wp2_with (go_at_call 47; (with_reducible refine (HOP.out _ ((HM.out.below HB.out).below HB1.out)).mono ?_); rintro e w2 ⟨rfl, hb2⟩)
   exact ⟨_, rfl, hb2, rfl, fun h => absurd h (by decide)⟩
  ·refine OpOk.now rfl ?_
   have d15 : u 15 = _ := hd 15 (by omega) (by kernel_rfl)
   clear hb hd
   rw [d15]
   clear d15
   go_wp2
   exact ⟨_, rfl, Below.refl _ _, rfl, fun h => absurd h (by decide)⟩
  ·refine OpOk.now rfl ?_
   have d16 : u 16 = _ := hd 16 (by omega) (by kernel_rfl)
   clear hb hd
   rw [d16]
   clear d16
   go_wp2
   exact ⟨_, rfl, Below.refl _ _, rfl, fun h => absurd h (by decide)⟩
  ·have d16 : u 16 = _ := hd 16 (by omega) (by kernel_rfl)
   clear hb hd
   rw [d16]
   clear d16
   refine OpOk.late rfl ?_
   exact ⟨_, yields_extract rfl _ _ rfl _ rfl _ rfl, rfl⟩
 case htail1 =>
  intro u A w1 hA hb hd hf
  simp only [putAll, dstOf, gtA, gtS, gtZ, Option.bind_some, Option.bind, Act.put, List.setIfInBounds_toArray, List.set_cons_succ, List.set_cons_zero] at hA; subst hA
  have e0 : u 0 = _ := hd 0 (by omega)
  have e1 : u 1 = _ := hd 1 (by omega)
  have e2 : u 2 = _ := hd 2 (by omega)
  have e3 : u 3 = _ := hd 3 (by omega)
  have e4 : u 4 = _ := hd 4 (by omega)
  have e5 : u 5 = _ := hd 5 (by omega)
  have e6 : u 6 = _ := hd 6 (by omega)
  have e7 : u 7 = _ := hd 7 (by omega)
  have e8 : u 8 = _ := hd 8 (by omega)
  have e9 : u 9 = _ := hd 9 (by omega)
  have e10 : u 10 = _ := hd 10 (by omega)
  have e11 : u 11 = _ := hd 11 (by omega)
  have e12 : u 12 = _ := hd 12 (by omega)
  have e13 : u 13 = _ := hd 13 (by omega)
  have e14 : u 14 = _ := hd 14 (by omega)
  have e15 : u 15 = _ := hd 15 (by omega)
  have e16 : u 16 = _ := hd 16 (by omega)
  have e17 : u 17 = _ := hd 17 (by omega)
  have e18 : u 18 = _ := hd 18 (by omega)
  first | rw [e0, e1, e2, e3, e4, e5, e6, e7, e8, e9, e10, e11, e12, e13, e14, e15, e16, e17, e18] | simp only [e0, e1, e2, e3, e4, e5, e6, e7, e8, e9, e10, e11, e12, e13, e14, e15, e16, e17, e18]
  clear e0 e1 e2 e3 e4 e5 e6 e7 e8 e9 e10 e11 e12 e13 e14 e15 e16 e17 e18
  clear hd hf
  have HB2 := hI9 (bthen HB.out hb)
  clear HB HH hb
  by_cases he : E = 0
  ·subst he
   go_wp2_with (fail)
   (try dsimp only [NoPanic])
   (try go_wp2_with (fail))
   go_ret
   exact ⟨ret_bool (by simp), HB2.out⟩
  ·obtain rfl := hEB he
   have hez : (E == 0) = false := by simpa using he
   go_wp2_with (fail)
   (try dsimp only [NoPanic])
   (try go_wp2_with (fail))
   go_ret
   exact ⟨ret_bool (by simp), HB2.out⟩
theorem Tryz.entBC : ∀ args w, (callFunc 63 args).run Tryz.prog w = .ok (.enter 63 args) w := enters_of Tryz.func63 (by kernel_rfl) rfl
theorem hcmp_c (p q s t : Int) (a b : Bool) (w : World) :
  Calls Tryz.prog 63 #[.agg #[.int .i64 p, .int .i64 s, .bool a], .agg #[.int .i64 q, .int .i64 t, .bool b]] w fun e w' => e = .returned (.int .i64 (cmpI s t)) ∧ RowKit.Below w.heap.size w w' := by
 have hc := fun w1 => cmpc_c s t w1
 generalize cmpI s t = r at *
 go_enter Tryz.func63, Tryz.ntmps63
 go_wp2_with (first | (go_at_call 64; (with_reducible refine (hc _).mono ?_); rintro e w1 ⟨rfl, rfl⟩))
 go_ret
 exact ⟨rfl, (by repeat' (first | exact Below.refl _ _ | assumption | refine Below.drew ?_ | refine bdn ?_ _ | refine bal ?_ _ | refine Below.setCell ?_ (by first | (simp; done) | omega | (simp; omega)) _))⟩
theorem minH_step {f : Nat → HavD} {k : Nat} (h : 1 ≤ k) : minH f k = if (f k).t < (minH f (k - 1)).t then f k else minH f (k - 1) := by
 obtain ⟨j, rfl⟩ : ∃ j, k = j + 1 := ⟨k - 1, by omega⟩
 rfl
theorem cmpI_neg {s t : Int} : cmpI s t < 0 ↔ s < t := by
 unfold cmpI
 split
 ·simp [*]
 ·split <;> simp [*]
def hvC (h : HavD) : Array Value := #[.int .i64 h.p, .int .i64 h.t, .bool h.b]
theorem minHv_c (b off n c : Nat) (f : Nat → HavD) (w : World) (h1 : 1 ≤ n) (h2 : n ≤ 3000) (hr : RecsAt w (some ⟨b, off, none⟩) n 3 (nHv f)) :
  Calls Tryz.prog 62 #[.slice (some ⟨b, off, none⟩) n c, .func (.func 63) #[] #[]] w fun e w' => e = .returned (.agg (hvC (minH f (n - 1)))) ∧ RowKit.Below w.heap.size w w' := by
 obtain ⟨b', off', e, hlb, hc⟩ := hr (by omega)
 simp only [Option.some.injEq, Addr.mk.injEq, and_true] at e
 obtain ⟨rfl, rfl⟩ := e
 have HC := hI9 hc
 clear hc hr
 have eF := Tryz.entBC
 have HCM := hI9 (fun p q s t a b w => hcmp_c p q s t a b w)
 have hb0 := bal (RowKit.Below.refl w.heap.size w) (.cells #[.int .i64 0, .int .i64 0, .bool false] 67)
 have c0 : (w.alloc (.cells #[.int .i64 0, .int .i64 0, .bool false] 67)).cell? ⟨b, off, none⟩ = some (.int .i64 (f 0).p) := (hb0.cell (p := ⟨b, off, none⟩) hlb).trans (by have := HC.out 0 (by omega) 0 (by omega); rw [Nat.zero_mul, Nat.add_zero] at this; exact this)
 have c1 : (w.alloc (.cells #[.int .i64 0, .int .i64 0, .bool false] 67)).cell? ⟨b, off + 1, none⟩ = some (.int .i64 (f 0).t) := (hb0.cell (p := ⟨b, off + 1, none⟩) hlb).trans (by have := HC.out 0 (by omega) 1 (by omega); rw [Nat.zero_mul, Nat.add_zero] at this; exact this)
 have c2 : (w.alloc (.cells #[.int .i64 0, .int .i64 0, .bool false] 67)).cell? ⟨b, off + 2, none⟩ = some (.bool (f 0).b) := (hb0.cell (p := ⟨b, off + 2, none⟩) hlb).trans (by have := HC.out 0 (by omega) 2 (by omega); rw [Nat.zero_mul, Nat.add_zero] at this; exact this)
 have hn1 : ¬ (n : Int) < 1 := by omega
 have hn0 : (0 : Int) < (n : Int) := by omega
 clear hb0
 have tok : True := trivial
 go_enter Tryz.func62, Tryz.ntmps62
 go_wp2_with (fail)
 have HB := hI9 (bal (bal (RowKit.Below.refl w.heap.size w) (.cells #[.int .i64 0, .int .i64 0, .bool false] 67)) (.cells #[.int .i64 (f 0).p, .int .i64 (f 0).t, .bool (f 0).b] 67))
 have HZ := hI9 ((Blk.new w 67 #[.int .i64 0, .int .i64 0, .bool false]).alloc (.cells #[.int .i64 (f 0).p, .int .i64 (f 0).t, .bool (f 0).b] 67))
 have HK := hI9 (Blk.newA (g := w.heap.size + 1) (w.alloc (.cells #[.int .i64 0, .int .i64 0, .bool false] 67)) 67 #[.int .i64 (f 0).p, .int .i64 (f 0).t, .bool (f 0).b] (by simp))
 generalize World.alloc (w.alloc _) _ = W at *
 clear c0 c1 c2
 (try rw [show (w.alloc (.cells #[.int .i64 0, .int .i64 0, .bool false] 67)).heap.size = w.heap.size + 1 by simp])
 go_wp2_with (fail)
 go_loopg [6] n (fun gy iv wr => ∃ k : Nat, iv = .int .i64 k ∧ 1 ≤ k ∧ k ≤ n ∧ n - k ≤ gy ∧ Hid (RowKit.Below w.heap.size w wr) ∧ Hid (Blk wr w.heap.size 67 #[.int .i64 0, .int .i64 0, .bool false]) ∧ Hid (Blk wr (w.heap.size + 1) 67 (hvC (minH f (k - 1)))))
 case atStart => exact ⟨1, rfl, Nat.le_refl _, h1, Nat.sub_le _ _, HB, HZ, HK⟩
 case round =>
  clear HB HZ HK
  obtain ⟨k, rfl, hk1, hk, hgy, HB, HZ, HK⟩ := hrel
  have hm := minH_step (f := f) hk1
  rcases hmv : minH f (k - 1) with ⟨mp, mt, mb⟩
  have HMV := hI9 hmv
  rw [hmv] at hm HK
  clear hmv
  by_cases hlt : k < n
  case pos =>
   have hltz : (k : Int) < (n : Int) := by omega
   have hkb : (k : Int) + 1 ≤ 3000 := by omega
   rcases hfv : f k with ⟨fp, ft, fb⟩
   have q0 : wr.cell? ⟨b, off + k * 3, none⟩ = some (.int .i64 (f k).p) := (HB.out.cell (p := ⟨b, off + k * 3, none⟩) hlb).trans (by have := HC.out k hlt 0 (by omega); rw [Nat.add_zero] at this; exact this)
   have q1 : wr.cell? ⟨b, off + k * 3 + 1, none⟩ = some (.int .i64 (f k).t) := (HB.out.cell (p := ⟨b, off + k * 3 + 1, none⟩) hlb).trans (HC.out k hlt 1 (by omega))
   have q2 : wr.cell? ⟨b, off + k * 3 + 2, none⟩ = some (.bool (f k).b) := (HB.out.cell (p := ⟨b, off + k * 3 + 2, none⟩) hlb).trans (HC.out k hlt 2 (by omega))
   rw [hfv] at q0 q1 q2
   dsimp only at q0 q1 q2
   rw [hfv] at hm
   have HM := hI9 hm
   have HFV := hI9 hfv
   clear hm hfv
   have hcd := cmpI_neg (s := ft) (t := mt)
   have hcc := fun w1 => HCM.out fp mp ft mt fb mb w1
   dsimp only at HM
   generalize hr : cmpI ft mt = r at *
   clear hr
   have s0 : ∀ r : After wr, r.w.cell? ⟨b, off + k * 3, none⟩ = some (.int .i64 fp) := fun r => (r.below.cell (p := ⟨b, off + k * 3, none⟩) (Nat.lt_of_lt_of_le hlb HB.out.size)).trans q0
   have s1 : ∀ r : After wr, r.w.cell? ⟨b, off + k * 3 + 1, none⟩ = some (.int .i64 ft) := fun r => (r.below.cell (p := ⟨b, off + k * 3 + 1, none⟩) (Nat.lt_of_lt_of_le hlb HB.out.size)).trans q1
   have s2 : ∀ r : After wr, r.w.cell? ⟨b, off + k * 3 + 2, none⟩ = some (.bool fb) := fun r => (r.below.cell (p := ⟨b, off + k * 3 + 2, none⟩) (Nat.lt_of_lt_of_le hlb HB.out.size)).trans q2
   have m0 : ∀ r : After wr, r.w.cell? ⟨w.heap.size + 1, 0, none⟩ = some (.int .i64 mp) := fun r => (HK.out.below r.below).cell 0
   have m1 : ∀ r : After wr, r.w.cell? ⟨w.heap.size + 1, 1, none⟩ = some (.int .i64 mt) := fun r => (HK.out.below r.below).cell 1
   have m2 : ∀ r : After wr, r.w.cell? ⟨w.heap.size + 1, 2, none⟩ = some (.bool mb) := fun r => (HK.out.below r.below).cell 2
   clear q0 q1 q2
   go_wp2_with (fail)
   refine wp_region_after (by kernel_rfl) (by kernel_rfl) ?_
   iterate 8 (go_big_quiet_step (first | (go_at_fn 63; refine qafter (hcc _))))
   refine wpQuiet_nil ?_
   rintro W2 ⟨r2, hr2⟩
   have hb2 : RowKit.Below wr.heap.size wr W2 := by rw [hr2]; exact r2.below
   clear hr2 r2
   have nB := hI9 (bthen HB.out hb2)
   have nZ := hI9 (HZ.out.below hb2)
   have nK := hI9 (HK.out.below hb2)
   clear s0 s1 s2 m0 m1 m2 HB HZ HK hb2 hcc
   by_cases hcr : r < 0
   ·have hst := hcd.1 hcr
    have HM2 := hI9 (show minH f k = ⟨fp, ft, fb⟩ by rw [HM.out, if_pos hst])
    have q0 : W2.cell? ⟨b, off + k * 3, none⟩ = some (.int .i64 fp) := (nB.out.cell (p := ⟨b, off + k * 3, none⟩) hlb).trans (by have := HC.out k hlt 0 (by omega); rw [Nat.add_zero] at this; rw [this, nHv, HFV.out])
    have q1 : W2.cell? ⟨b, off + k * 3 + 1, none⟩ = some (.int .i64 ft) := (nB.out.cell (p := ⟨b, off + k * 3 + 1, none⟩) hlb).trans (by rw [HC.out k hlt 1 (by omega), nHv, HFV.out])
    have q2 : W2.cell? ⟨b, off + k * 3 + 2, none⟩ = some (.bool fb) := (nB.out.cell (p := ⟨b, off + k * 3 + 2, none⟩) hlb).trans (by rw [HC.out k hlt 2 (by omega), nHv, HFV.out])
    have m0 := nK.out.cell 0
    have m1 := nK.out.cell 1
    have m2 := nK.out.cell 2
    have mf := fun i => nK.out.frozen i
    unfold hvC at m0 m1 m2
    simp only [gtA, gtS, gtZ] at m0 m1 m2
    go_wp2_with (fail)
    go_roundg (n - (k + 1))
    case measure => omega
    case rel => exact ⟨k + 1, by first | rfl | go_num | (congr 1; omega), by omega, by omega, Nat.le_refl _, hI9 (bset (bset (bset nB.out (by omega) _) (by omega) _) (by omega) _), hI9 (((nZ.out.far' (by omega) _).far' (by omega) _).far' (by omega) _), hI9 (by rw [show k + 1 - 1 = k by omega, HM2.out]; exact (((nK.out.set_ 0 _).set_ 1 _).set_ 2 _))⟩
   ·have HM2 := hI9 (show minH f k = ⟨mp, mt, mb⟩ by rw [HM.out, if_neg (fun h => hcr (hcd.2 h))])
    go_wp2_with (fail)
    go_roundg (n - (k + 1))
    case measure => omega
    case rel => exact ⟨k + 1, by first | rfl | go_num | (congr 1; omega), by omega, by omega, Nat.le_refl _, nB, nZ, hI9 (by rw [show k + 1 - 1 = k by omega, HM2.out]; exact nK.out)⟩
  obtain rfl : n = k := by omega
  have hnlt : ¬ (n : Int) < (n : Int) := by omega
  have m0 := HK.out.cell 0
  have m1 := HK.out.cell 1
  have m2 := HK.out.cell 2
  have z0 := HZ.out.cell 0
  have z1 := HZ.out.cell 1
  have z2 := HZ.out.cell 2
  have zf := fun i => HZ.out.frozen i
  unfold hvC at m0 m1 m2
  simp only [gtA, gtS, gtZ] at m0 m1 m2 z0 z1 z2
  clear hm
  go_wp2_with (fail)
  exact bodyPost_ret (res_c rfl _ _ #[.int .i64 mp, .int .i64 mt, .bool mb] 3 rfl (((HZ.out.set_ 0 _).set_ 1 _).set_ 2 _) Tryz.rowHav rfl) rfl ⟨by rw [HMV.out]; rfl, bset (bset (bset HB.out (Nat.le_refl _) _) (Nat.le_refl _) _) (Nat.le_refl _) _⟩
theorem hvbest_c (A : Option Addr) (c : Nat) (l : List HavD) (w : World) (h2 : l.length ≤ 3000) (hr : RecsAt w A l.length 3 (nHv (hvx l))) :
  Calls Tryz.prog 44 #[.slice A l.length c] w fun e w' => e = .returned (.tuple #[.agg (hvC ((bestL l).getD hvz)), .bool (bestL l).isSome]) ∧ RowKit.Below w.heap.size w w' := by
 unfold bestL
 by_cases h0 : l.length = 0
 case pos =>
  rw [if_pos h0, h0]
  have z0 := (Blk.new w 67 #[.int .i64 0, .int .i64 0, .bool false]).cell 0
  have z1 := (Blk.new w 67 #[.int .i64 0, .int .i64 0, .bool false]).cell 1
  have z2 := (Blk.new w 67 #[.int .i64 0, .int .i64 0, .bool false]).cell 2
  have zf := fun i => (Blk.new w 67 #[.int .i64 0, .int .i64 0, .bool false]).frozen i
  simp only [gtA, gtS, gtZ] at z0 z1 z2
  clear hr
  go_enter Tryz.func44, Tryz.ntmps44
  go_wp2_with (fail)
  exact bodyPost_ret (res_ct rfl _ _ #[.int .i64 0, .int .i64 0, .bool false] 3 rfl (Blk.new w 67 #[.int .i64 0, .int .i64 0, .bool false]) Tryz.rowHav rfl) rfl ⟨rfl, bal (RowKit.Below.refl _ _) _⟩
 rw [if_neg h0]
 obtain ⟨b, off, rfl, -, -⟩ := hr (by omega)
 have hmi := fun w1 (hb : RowKit.Below w.heap.size w w1) => minHv_c b off l.length c (hvx l) w1 (by omega) h2 (hr.below hb)
 rcases hm : minH (hvx l) (l.length - 1) with ⟨mp, mt, mb⟩
 rw [hm] at hmi
 obtain ⟨n, hn⟩ : ∃ n, n = l.length := ⟨_, rfl⟩
 rw [← hn] at hmi h0 ⊢
 have HMI := hI9 hmi
 have hnz : ((n : Int) == 0) = false := by simp; omega
 clear hr hmi hm hn
 go_enter Tryz.func44, Tryz.ntmps44
 go_wp2_with (fail)
 refine (HMI.out _ (bal (RowKit.Below.refl _ _) _)).mono ?_
 rintro e w2 ⟨rfl, hb2⟩
 have HB := hI9 (bthen (bal (RowKit.Below.refl w.heap.size w) (.cells #[.int .i64 0, .int .i64 0, .bool false] 67)) hb2)
 have HZ := hI9 ((Blk.new w 67 #[.int .i64 0, .int .i64 0, .bool false]).below hb2)
 clear hb2
 have z0 := HZ.out.cell 0
 have z1 := HZ.out.cell 1
 have z2 := HZ.out.cell 2
 have zf := fun i => HZ.out.frozen i
 simp only [gtA, gtS, gtZ] at z0 z1 z2
 unfold hvC
 go_wp2_with (fail)
 exact bodyPost_ret (res_ct rfl _ _ #[.int .i64 mp, .int .i64 mt, .bool mb] 3 rfl (((HZ.out.set_ 0 _).set_ 1 _).set_ 2 _) Tryz.rowHav rfl) rfl ⟨rfl, bset (bset (bset HB.out (Nat.le_refl _) _) (Nat.le_refl _) _) (Nat.le_refl _) _⟩
end Go.Proofs.YtlabfpjlckdmfaaGreat
