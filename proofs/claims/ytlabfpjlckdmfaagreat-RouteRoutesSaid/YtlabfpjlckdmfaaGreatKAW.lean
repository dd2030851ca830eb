/- Texts joined: KAW. -/
import Derived.Test.YtlabfpjlckdmfaaGreatKAV
import Derived.Test.YtlabfpjlckdmfaaGreatKAG
import Derived.Test.YtlabfpjlckdmfaaGreatKAU
import Derived.Test.YtlabfpjlckdmfaaGreatKZF
import Derived.Test.YtlabfpjlckdmfaaGreatKAT
import Derived.Test.YtlabfpjlckdmfaaGreatKAP
set_option linter.all false
namespace Go.Proofs.YtlabfpjlckdmfaaGreat
open Go Go.RowKit Go.Proofs
set_option maxRecDepth 100000
set_option maxHeartbeats 8000000
def FndAt (F : FliD) (P : Nat) (lt tt : Tab) (op : Nat → Int → Bool) (n0 : Nat) (best : Option (List Nat)) (q : Option Nat) (W : World) : Prop := match best with
 | none => Blk W n0 35 #[.slice none 0 0] ∧ Blk W (n0 + 1) 3 #[.int .i64 0] ∧ q = none
 | some ys => ∃ g o c, q = some g ∧ n0 + 7 ≤ g ∧ Blk W n0 35 #[.slice (some ⟨g, o, none⟩) ys.length c] ∧ Blk W (n0 + 1) 3 #[.int .i64 (F.finR lt ys - F.dep)] ∧ SlI W (.slice (some ⟨g, o, none⟩) ys.length c) ys.length (rF ys)
structure RtJ (F : FliD) (P : Nat) (lt tt : Tab) (op : Nat → Int → Bool) (w0 : World) (vN : Value) (tgt : Nat) (r : Loop) (pre : List (List Nat)) (q : Option Nat) (W : World) : Prop where
 b : RowKit.Below w0.heap.size w0 W
 sz : w0.heap.size + 7 ≤ W.heap.size
 n : Blk W (w0.heap.size + 2) 70 #[vN]
 t : Blk W (w0.heap.size + 4) 3 #[.int .i64 (tgt : Int)]
 d : W.heap[w0.heap.size + 5]? = some (.deferred (some []))
 l : W.heap[w0.heap.size + 6]? = some (.loop r)
 f : FndAt F P lt tt op w0.heap.size (F.bestR P lt tt op pre) q W
theorem SlI.frm {w w' : World} {v : Value} {n : Nat} {R : Nat → Int} (h : SlI w v n R) (hs : w.heap.size ≤ w'.heap.size) (hf : 0 < n → ∀ b off, v = .slice (some ⟨b, off, none⟩) n (match v with | .slice _ _ c => c | _ => 0) → w'.heap[b]? = w.heap[b]?) : SlI w' v n R := by
 obtain ⟨A, c, rfl, q1, q2, h⟩ := h
 refine ⟨A, c, rfl, q1, q2, fun hn => ?_⟩
 obtain ⟨b, off, rfl, hb, hc⟩ := h hn
 have e := hf hn b off rfl
 refine ⟨b, off, rfl, Nat.lt_of_lt_of_le hb hs, fun i hi j hj => ?_⟩
 rw [← hc i hi j hj]
 exact World.cell?_of_block (w := w) e
theorem FndAt.step {F : FliD} {P : Nat} {lt tt : Tab} {op : Nat → Int → Bool} {n0 : Nat} {best : Option (List Nat)} {q : Option Nat} {W W' : World} (h : FndAt F P lt tt op n0 best q W) (hs : W.heap.size ≤ W'.heap.size) (h0 : W'.heap[n0]? = W.heap[n0]?) (h1 : W'.heap[n0 + 1]? = W.heap[n0 + 1]?) (hq : ∀ b, q = some b → W'.heap[b]? = W.heap[b]?) : FndAt F P lt tt op n0 best q W' := by
 cases best with
 | none => exact ⟨h0.trans h.1, h1.trans h.2.1, h.2.2⟩
 | some ys =>
  obtain ⟨g, o, c, rfl, a1, a2, a3, a4⟩ := h
  exact ⟨g, o, c, rfl, a1, h0.trans a2, h1.trans a3, a4.frm hs fun _ b off e => by
   injection e with e
   injection e with e
   injection e with e
   subst e
   exact hq _ rfl⟩
theorem RtJ.step {F : FliD} {P : Nat} {lt tt : Tab} {op : Nat → Int → Bool} {w0 : World} {vN : Value} {tgt : Nat} {r : Loop} {pre : List (List Nat)} {q : Option Nat} {W W' : World} (h : RtJ F P lt tt op w0 vN tgt r pre q W) (hk : RtStep (w0.heap.size + 7) q W W') : RtJ F P lt tt op w0 vN tgt r pre q W' := by
 obtain ⟨k, kq⟩ := hk
 exact ⟨h.b.trans (k.mono (by omega)), Nat.le_trans h.sz k.size, (k.block _ (by omega)).trans h.n, (k.block _ (by omega)).trans h.t, (k.block _ (by omega)).trans h.d, (k.block _ (by omega)).trans h.l, h.f.step k.size (k.block _ (by omega)) (k.block _ (by omega)) kq⟩
theorem FndAt.qlt {F : FliD} {P : Nat} {lt tt : Tab} {op : Nat → Int → Bool} {n0 : Nat} {best : Option (List Nat)} {q : Option Nat} {W : World} (h : FndAt F P lt tt op n0 best q W) (hp : ∀ ys, best = some ys → 0 < ys.length) : ∀ b, q = some b → n0 + 7 ≤ b ∧ b < W.heap.size := by
 intro b e
 cases best with
 | none => rw [h.2.2] at e; cases e
 | some ys =>
  obtain ⟨g, o, c, rfl, a1, a2, a3, A, c2, e2, -, -, a4⟩ := h
  cases e
  obtain ⟨b2, o2, e3, hb, -⟩ := a4 (hp ys rfl)
  injection e2 with e2
  rw [e3] at e2
  injection e2 with e2
  injection e2 with e2
  exact ⟨a1, by omega⟩
theorem RtJ.below {F : FliD} {P : Nat} {lt tt : Tab} {op : Nat → Int → Bool} {w0 : World} {vN : Value} {tgt : Nat} {r : Loop} {pre : List (List Nat)} {q : Option Nat} {W W' : World} (h : RtJ F P lt tt op w0 vN tgt r pre q W) (hp : ∀ ys, F.bestR P lt tt op pre = some ys → 0 < ys.length) (hb : RowKit.Below W.heap.size W W') : RtJ F P lt tt op w0 vN tgt r pre q W' :=
 h.step ⟨hb.mono h.sz, fun b e => hb.block b (h.f.qlt hp b e).2⟩
theorem RtJ.put {F : FliD} {P : Nat} {lt tt : Tab} {op : Nat → Int → Bool} {w0 : World} {vN : Value} {tgt : Nat} {r : Loop} {pre : List (List Nat)} {q : Option Nat} {W : World} (h : RtJ F P lt tt op w0 vN tgt r pre q W) (hp : ∀ ys, F.bestR P lt tt op pre = some ys → 0 < ys.length) (r' : Loop) : RtJ F P lt tt op w0 vN tgt r' pre q (W.putObj (w0.heap.size + 6) (.loop r')) := by
 have hs : (W.putObj (w0.heap.size + 6) (.loop r')).heap.size = W.heap.size := by simp [World.putObj]
 have ho : ∀ b, b ≠ w0.heap.size + 6 → (W.putObj (w0.heap.size + 6) (.loop r')).heap[b]? = W.heap[b]? := fun b hb => World.putObj_heap_other hb
 refine ⟨h.b.trans (belowK_b (w := w0) (Nat.le_refl _) W _ _ _ (by omega) h.l rfl rfl), by rw [hs]; exact h.sz, (ho _ (by omega)).trans h.n, (ho _ (by omega)).trans h.t, (ho _ (by omega)).trans h.d, World.putObj_heap_same (by have := h.sz; omega), h.f.step (by rw [hs]; exact Nat.le_refl _) (ho _ (by omega)) (ho _ (by omega)) fun b e => ho b (by have := (h.f.qlt hp b e).1; omega)⟩
theorem SlI.put {W : World} {l : Nat} {r : Loop} {o' : Obj} {v : Value} {n : Nat} {R : Nat → Int} (h : SlI W v n R) (hl : W.heap[l]? = some (.loop r)) : SlI (W.putObj l o') v n R := by
 obtain ⟨A, c, rfl, q1, q2, h⟩ := h
 refine ⟨A, c, rfl, q1, q2, fun hn => ?_⟩
 obtain ⟨b, off, rfl, hb, hc⟩ := h hn
 have hne : b ≠ l := by
  rintro rfl
  by_cases k0 : 0 < n
  ·have := hc 0 hn 0 (by omega)
   simp [World.cell?, hl] at this
  ·omega
 refine ⟨b, off, rfl, by simpa [World.putObj] using hb, fun i hi j hj => ?_⟩
 rw [← hc i hi j hj]
 exact World.cell?_of_block (w := W) (World.putObj_heap_other hne)
theorem SlI.putD {W : World} {l : Nat} {ds : Option (List Deferred)} {o' : Obj} {v : Value} {n : Nat} {R : Nat → Int} (h : SlI W v n R) (hl : W.heap[l]? = some (.deferred ds)) : SlI (W.putObj l o') v n R := by
 obtain ⟨A, c, rfl, q1, q2, h⟩ := h
 refine ⟨A, c, rfl, q1, q2, fun hn => ?_⟩
 obtain ⟨b, off, rfl, hb, hc⟩ := h hn
 have hne : b ≠ l := by
  rintro rfl
  by_cases k0 : 0 < n
  ·have := hc 0 hn 0 (by omega)
   simp [World.cell?, hl] at this
  ·omega
 refine ⟨b, off, rfl, by simpa [World.putObj] using hb, fun i hi j hj => ?_⟩
 rw [← hc i hi j hj]
 exact World.cell?_of_block (w := W) (World.putObj_heap_other hne)
theorem RdK.refl (n0 B gT gN : Nat) (w : World) : RdK n0 B gT gN w w := ⟨RowKit.Below.refl _ _, rfl, rfl, fun _ _ _ => rfl⟩
theorem RdK.trans {n0 B gT gN : Nat} {a b c : World} (h : RdK n0 B gT gN a b) (k : RdK n0 B gT gN b c) : RdK n0 B gT gN a c :=
 ⟨h.1.trans k.1, k.2.1.trans h.2.1, k.2.2.1.trans h.2.2.1, fun x hx hl => (k.2.2.2 x hx (Nat.lt_of_lt_of_le hl h.1.size)).trans (h.2.2.2 x hx hl)⟩
theorem RdK.below {n0 B gT gN : Nat} {w w' : World} (hb : RowKit.Below w.heap.size w w') (h0 : n0 ≤ w.heap.size) (h1 : gT < w.heap.size) (h2 : gN < w.heap.size) : RdK n0 B gT gN w w' :=
 ⟨hb.mono h0, hb.block _ h1, hb.block _ h2, fun x _ hl => hb.block x hl⟩
theorem RdK.set {n0 B gT gN g : Nat} (w : World) (u : Value) (h0 : n0 ≤ g) (h1 : g < B) (h2 : gT ≠ g) (h3 : gN ≠ g) : RdK n0 B gT gN w (w.setCell ⟨g, 0, none⟩ u) :=
 ⟨bset (RowKit.Below.refl _ _) h0 _, Below.heap_setCell _ ⟨g, 0, none⟩ _ _ h2, Below.heap_setCell _ ⟨g, 0, none⟩ _ _ h3, fun x hx _ => Below.heap_setCell _ ⟨g, 0, none⟩ _ _ (by show x ≠ g; omega)⟩
theorem RdK.put {n0 B gT gN g : Nat} {w : World} {r : Loop} (o' : Obj) (hl : w.heap[g]? = some (.loop r)) (h0 : n0 ≤ g) (h1 : g < B) (h2 : gT ≠ g) (h3 : gN ≠ g) : RdK n0 B gT gN w (w.putObj g o') :=
 ⟨(RowKit.Below.refl n0 w).grown (grownBy_putObj' w g o') (by have := (Array.getElem?_eq_some_iff.1 hl).1; omega) (fun k e => by cases e; exact h0), World.putObj_heap_other h2, World.putObj_heap_other h3, fun x hx _ => World.putObj_heap_other (by omega)⟩
theorem FliD.bestR_pos {F : FliD} {P : Nat} {lt tt : Tab} {op : Nat → Int → Bool} {pre : List (List Nat)} : ∀ ys, F.bestR P lt tt op pre = some ys → 0 < ys.length := by
 intro ys e
 have h := F.least_best P lt tt op pre
 rw [e] at h
 have h2 := h.2.1
 unfold FliD.goodR at h2
 rw [Bool.and_eq_true] at h2
 have h3 := (FliD.nums_iff.1 (FliD.okB_iff.1 h2.1).1).1.1
 exact h3
theorem RtJ.like {F : FliD} {P : Nat} {lt tt : Tab} {op : Nat → Int → Bool} {w0 : World} {vN : Value} {tgt : Nat} {r : Loop} {pre pre2 : List (List Nat)} {q : Option Nat} {W : World} (h : RtJ F P lt tt op w0 vN tgt r pre q W) (e : F.bestR P lt tt op pre2 = F.bestR P lt tt op pre) : RtJ F P lt tt op w0 vN tgt r pre2 q W :=
 ⟨h.b, h.sz, h.n, h.t, h.d, h.l, by rw [e]; exact h.f⟩
theorem FliD.bestR_skip {F : FliD} {P : Nat} {lt tt : Tab} {op : Nat → Int → Bool} {pre : List (List Nat)} {xs : List Nat} (h : F.goodR P lt tt op xs = false) : F.bestR P lt tt op (pre ++ [xs]) = F.bestR P lt tt op pre := by
 rw [FliD.bestR_snoc]
 unfold FliD.stepRt
 rw [h, Bool.false_and, if_neg (by decide)]
theorem FliD.bestR_less {F : FliD} {P : Nat} {lt tt : Tab} {op : Nat → Int → Bool} {pre : List (List Nat)} {xs : List Nat} (h : F.betR lt (F.bestR P lt tt op pre) xs = false) : F.bestR P lt tt op (pre ++ [xs]) = F.bestR P lt tt op pre := by
 rw [FliD.bestR_snoc]
 unfold FliD.stepRt
 rw [h, Bool.and_false, if_neg (by decide)]
theorem FliD.bestR_take {F : FliD} {P : Nat} {lt tt : Tab} {op : Nat → Int → Bool} {pre : List (List Nat)} {xs : List Nat} (h : F.goodR P lt tt op xs = true) (h2 : F.betR lt (F.bestR P lt tt op pre) xs = true) : F.bestR P lt tt op (pre ++ [xs]) = some xs := by
 rw [FliD.bestR_snoc]
 unfold FliD.stepRt
 rw [h, h2, Bool.true_and, if_pos rfl]
theorem RtJ.endR {Pr : Program} {F : FliD} {P : Nat} {lt tt : Tab} {op : Nat → Int → Bool} {w0 : World} {vN : Value} {tgt : Nat} {rb r : Loop} {pre2 : List (List Nat)} {q q2 : Option Nat} {Wr W : World} {a : Act} (h : RtJ F P lt tt op w0 vN tgt rb pre2 q2 W) (hr : ({ rb with state := .ready, pending := none } : Loop) = r)
  (hk : RdK w0.heap.size (w0.heap.size + 7) (w0.heap.size + 4) (w0.heap.size + 2) Wr W) (hq : q2 = q ∨ ∃ g, q2 = some g ∧ Wr.heap.size ≤ g ∧ g < W.heap.size) :
  roundPost Pr (w0.heap.size + 5 + 1) (fun e W' => e = .returned (.bool true) ∧ RdK w0.heap.size (w0.heap.size + 7) (w0.heap.size + 2 + 2) (w0.heap.size + 2) Wr W' ∧ ∃ q2, RtJ F P lt tt op w0 vN tgt r pre2 q2 W' ∧ (q2 = q ∨ ∃ g, q2 = some g ∧ Wr.heap.size ≤ g ∧ g < W'.heap.size)) .normal a W := by
 refine round_end h.l ⟨rfl, hk.trans (RdK.put _ h.l (by omega) (by omega) (by omega) (by omega)), q2, ?_, ?_⟩
 ·rw [hr]
  exact h.put FliD.bestR_pos r
 ·simpa [World.putObj] using hq
theorem RtJ.take {F : FliD} {P : Nat} {lt tt : Tab} {op : Nat → Int → Bool} {w0 : World} {vN : Value} {tgt : Nat} {r : Loop} {pre pre2 : List (List Nat)} {q : Option Nat} {W : World} {xs : List Nat} {g o c : Nat} (h : RtJ F P lt tt op w0 vN tgt r pre q W) (e : F.bestR P lt tt op pre2 = some xs)
  (hs : SlI W (.slice (some ⟨g, o, none⟩) xs.length c) xs.length (rF xs)) (hg : w0.heap.size + 7 ≤ g) :
  RtJ F P lt tt op w0 vN tgt r pre2 (some g) ((W.setCell ⟨w0.heap.size, 0, none⟩ (.slice (some ⟨g, o, none⟩) xs.length c)).setCell ⟨w0.heap.size + 1, 0, none⟩ (.int .i64 (F.finR lt xs - F.dep))) := by
 have hc : ∀ b, b ≠ w0.heap.size → b ≠ w0.heap.size + 1 → ((W.setCell ⟨w0.heap.size, 0, none⟩ (.slice (some ⟨g, o, none⟩) xs.length c)).setCell ⟨w0.heap.size + 1, 0, none⟩ (.int .i64 (F.finR lt xs - F.dep))).heap[b]? = W.heap[b]? := fun b h1 h2 =>
  (Below.heap_setCell _ ⟨w0.heap.size + 1, 0, none⟩ _ b h2).trans (Below.heap_setCell _ ⟨w0.heap.size, 0, none⟩ _ b h1)
 obtain ⟨b0, b1⟩ : (∃ v, Blk W w0.heap.size 35 #[v]) ∧ ∃ v, Blk W (w0.heap.size + 1) 3 #[v] := by
  have hf := h.f
  cases hb : F.bestR P lt tt op pre with
  | none => rw [hb] at hf; exact ⟨⟨_, hf.1⟩, ⟨_, hf.2.1⟩⟩
  | some ys => rw [hb] at hf; obtain ⟨_, _, _, _, _, h1, h2, _⟩ := hf; exact ⟨⟨_, h1⟩, ⟨_, h2⟩⟩
 obtain ⟨v0, b0⟩ := b0
 obtain ⟨v1, b1⟩ := b1
 refine ⟨bset (bset h.b (Nat.le_refl _) _) (by omega) _, by simpa using h.sz, (hc _ (by omega) (by omega)).trans h.n, (hc _ (by omega) (by omega)).trans h.t, (hc _ (by omega) (by omega)).trans h.d, (hc _ (by omega) (by omega)).trans h.l, ?_⟩
 rw [e]
 refine ⟨g, o, c, rfl, hg, (b0.set_ 0 _).far' (by omega) _, (b1.far' (by omega) _).set_ 0 _, hs.frm (by simp) fun _ b off e => ?_⟩
 injection e with e
 injection e with e
 injection e with e
 subst e
 exact hc _ (by omega) (by omega)
end Go.Proofs.YtlabfpjlckdmfaaGreat

namespace Go.Proofs.YtlabfpjlckdmfaaGreat
open Go Go.RowKit Go.Proofs
set_option maxRecDepth 100000
set_option maxHeartbeats 8000000
theorem nfM_min {M : MetD} {lw ls lc : Int} {S : Tab} {n : Nat} {F : FliD} : nfE (netME M lw ls lc S n) M S n F = if minE M lw ls lc = 0 then nfE (netE M S n) M S n F else minE M lw ls lc := by
 cases hb : M.bad
 ·have he : M.err = 0 := by unfold MetD.err; rw [hb]; rfl
  have hp := (MetD.ok_of hb).places
  by_cases hm : minE M lw ls lc = 0
  ·have ho : opE M lw ls lc 0 0 = 0 := by
    unfold opE
    rw [if_pos hm]
    unfold atE
    have e1 : inB 0 0 (M.places - 1) = true := inB_iff.2 (by omega)
    rw [hb, e1]
    rfl
   have e : netME M lw ls lc S n = netE M S n := by unfold netME netE; rw [he, if_pos rfl, if_pos rfl, if_pos ho]
   rw [e, if_pos hm]
  ·have ho : opE M lw ls lc 0 0 = minE M lw ls lc := by unfold opE; rw [if_neg hm]
   have e : netME M lw ls lc S n = minE M lw ls lc := by unfold netME; rw [he, if_pos rfl, ho, if_neg hm]
   rw [e, if_neg hm]
   unfold nfE
   rw [if_neg hm]
 ·have he : M.err = 40 := by unfold MetD.err; rw [hb]; rfl
  have hm : minE M lw ls lc = 40 := by unfold minE; rw [hb]; rfl
  have e : netME M lw ls lc S n = 40 := by unfold netME; rw [he, if_neg (by decide)]
  rw [e, hm, if_neg (by decide)]
  rfl
theorem r5checkAll_c (M : MetD) (vF vS : Value) (lw ls lc : Int) (li lb : Bool) (A : Option Addr) (n c : Nat) (S : Tab) (F : FliD) (vR : Value) (w : World) (hM : MetAt w vF vS M) (hc1 : n ≤ c) (hc2 : c ≤ 9223372036854775807) (hL : RecsAt w A n 3 (nV S)) (hR : SlI w vR F.m F.R) :
  Calls Tryz.prog 33 #[.agg #[.int .i64 M.places, .int .i64 M.any.a0, .int .i64 M.any.a1, .int .i64 M.any.a2, .int .i64 M.any.a3, .int .i64 M.any.a4, .int .i64 M.any.a5, .bool M.any.i, .bool M.any.s, .int .i64 M.mw, .int .i64 M.ms, .int .i64 M.mc, vF, vS], .agg #[.int .i64 lw, .int .i64 ls, .int .i64 lc, .bool li, .bool lb], .slice A n c, .agg #[vR, .int .i64 F.dep, .int .i64 F.fuel, .int .i64 F.burn, .int .i64 F.res]] w fun e w' => e = .returned (.int .i64 (nfE (netME M lw ls lc S n) M S n F)) ∧ RowKit.Below w.heap.size w w' := by
 have HM := hI9 hM
 have HL := hI9 hL
 have HR := hI9 hR
 clear hM hL hR
 have HCM := hI9 (fun w1 h => rw_CheckMinima_c M vF vS lw ls lc li lb w1 h)
 have HCK := hI9 (fun w1 h1 h2 h3 => r5Check_c M vF vS A n c S F vR w1 h1 hc1 hc2 h2 h3)
 rw [nfM_min]
 generalize nfE (netE M S n) M S n F = NE at *
 generalize minE M lw ls lc = ME at *
 have tok : True := trivial
 have tok2 : True := trivial
 by_cases h0 : ME = 0
 case neg =>
  rw [if_neg h0]
  have hz : (ME != 0) = true := by simpa using h0
  clear h0
  go_enter Tryz.func33, Tryz.ntmps33
  go_wp2_with (fail)
  have _x := frm3 w #[.int .i64 M.places, .int .i64 M.any.a0, .int .i64 M.any.a1, .int .i64 M.any.a2, .int .i64 M.any.a3, .int .i64 M.any.a4, .int .i64 M.any.a5, .bool M.any.i, .bool M.any.s, .int .i64 M.mw, .int .i64 M.ms, .int .i64 M.mc, vF, vS] 29 #[.int .i64 lw, .int .i64 ls, .int .i64 lc, .bool li, .bool lb] 31 #[vR, .int .i64 F.dep, .int .i64 F.fuel, .int .i64 F.burn, .int .i64 F.res] 37
  have HX := hI9 _x.1
  have HI := hI9 _x.2.1
  have HF := hI9 _x.2.2.1
  have HB := hI9 _x.2.2.2.1
  have zW := _x.2.2.2.2
  clear _x
  generalize World.alloc (World.alloc (World.alloc w _) _) _ = W at *
  go_wp2_with (first | (have _t := tok; refine wpl_row rfl 29 (.tmp 4) rfl _ rfl _ 14 HX.out Tryz.rowMet rfl ?_; simp only [Act.put]; clear tok) | (have _t := tok2; refine wpl_row rfl 31 (.tmp 5) rfl _ rfl _ 5 HI.out Tryz.rowMin rfl ?_; simp only [Act.put]; clear tok2) | (go_at_call 37; (with_reducible refine (HCM.out _ (HM.out.below HB.out)).mono ?_); rintro e w1 ⟨rfl, hb1⟩; have nHX := hI9 (HX.out.below hb1); have nHI := hI9 (HI.out.below hb1); have nHF := hI9 (HF.out.below hb1); have nHB := hI9 (bthen HB.out hb1); have zz1 := hb1.size; clear HX HI HF HB hb1; have HX := nHX; have HI := nHI; have HF := nHF; have HB := nHB; clear nHX nHI nHF nHB))
  go_ret
  exact ⟨rfl, HB.out⟩
 subst h0
 rw [if_pos rfl]
 have tok3 : True := trivial
 have tok4 : True := trivial
 go_enter Tryz.func33, Tryz.ntmps33
 go_wp2_with (fail)
 have _x := frm3 w #[.int .i64 M.places, .int .i64 M.any.a0, .int .i64 M.any.a1, .int .i64 M.any.a2, .int .i64 M.any.a3, .int .i64 M.any.a4, .int .i64 M.any.a5, .bool M.any.i, .bool M.any.s, .int .i64 M.mw, .int .i64 M.ms, .int .i64 M.mc, vF, vS] 29 #[.int .i64 lw, .int .i64 ls, .int .i64 lc, .bool li, .bool lb] 31 #[vR, .int .i64 F.dep, .int .i64 F.fuel, .int .i64 F.burn, .int .i64 F.res] 37
 have HX := hI9 _x.1
 have HI := hI9 _x.2.1
 have HF := hI9 _x.2.2.1
 have HB := hI9 _x.2.2.2.1
 have zW := _x.2.2.2.2
 clear _x
 generalize World.alloc (World.alloc (World.alloc w _) _) _ = W at *
 go_wp2_with (first | (have _t := tok; refine wpl_row rfl 29 (.tmp 4) rfl _ rfl _ 14 HX.out Tryz.rowMet rfl ?_; simp only [Act.put]; clear tok) | (have _t := tok3; refine wpl_row rfl 29 (.tmp 4) rfl _ rfl _ 14 HX.out Tryz.rowMet rfl ?_; simp only [Act.put]; clear tok3) | (have _t := tok2; refine wpl_row rfl 31 (.tmp 5) rfl _ rfl _ 5 HI.out Tryz.rowMin rfl ?_; simp only [Act.put]; clear tok2) | (have _t := tok4; refine wpl_row rfl 37 (.tmp 7) rfl _ rfl _ 5 HF.out Tryz.rowFli rfl ?_; simp only [Act.put]; clear tok4) | (go_at_call 37; (with_reducible refine (HCM.out _ (HM.out.below HB.out)).mono ?_); rintro e w1 ⟨rfl, hb1⟩; have nHX := hI9 (HX.out.below hb1); have nHI := hI9 (HI.out.below hb1); have nHF := hI9 (HF.out.below hb1); have nHB := hI9 (bthen HB.out hb1); have zz1 := hb1.size; clear HX HI HF HB hb1; have HX := nHX; have HI := nHI; have HF := nHF; have HB := nHB; clear nHX nHI nHF nHB) | (go_at_call 10; (with_reducible refine (HCK.out _ (HM.out.below HB.out) (HL.out.below HB.out) (HR.out.below HB.out)).mono ?_); rintro e w1 ⟨rfl, hb1⟩; have nHX := hI9 (HX.out.below hb1); have nHI := hI9 (HI.out.below hb1); have nHF := hI9 (HF.out.below hb1); have nHB := hI9 (bthen HB.out hb1); have zz1 := hb1.size; clear HX HI HF HB hb1; have HX := nHX; have HI := nHI; have HF := nHF; have HB := nHB; clear nHX nHI nHF nHB))
 go_ret
 exact ⟨rfl, HB.out⟩
theorem r5end_c (A : Option Addr) (n c : Nat) (S : Tab) (P : Nat) (F : FliD) (vR : Value) (w : World) (hc1 : n ≤ c) (hc2 : c ≤ 9223372036854775807) (hL : RecsAt w A n 3 (nV S)) (hR : SlI w vR F.m F.R) (hN : NetOk P S n) (hok : F.ok P (lgT S n)) :
  Calls Tryz.prog 36 #[.slice A n c, .agg #[vR, .int .i64 F.dep, .int .i64 F.fuel, .int .i64 F.burn, .int .i64 F.res]] w fun e w' => e = .returned (.int .i64 (F.arr (lgT S n))) ∧ RowKit.Below w.heap.size w w' := by
 obtain ⟨hnu, hfl, hend⟩ := hok
 obtain ⟨hm, hd, -⟩ := FliD.nums_iff.1 hnu
 have hlb := FliD.legB_iff.2 hfl.2
 have hflc := fun w1 h1 h2 => r5flown_c A n c S P F vR w1 hc1 hc2 h1 h2 hN hm hd hfl.1
 rw [hlb] at hflc
 have HFL := hI9 hflc
 have HL := hI9 hL
 have HR := hI9 hR
 unfold FliD.arr
 obtain ⟨m, hme⟩ : ∃ m, m = F.m - 1 := ⟨_, rfl⟩
 rw [← hme]
 clear hL hR hflc hlb hnu hfl hend hd hN
 go_enter Tryz.func36, Tryz.ntmps36
 go_wp2_with (fail)
 have _x := frm1 w #[vR, .int .i64 F.dep, .int .i64 F.fuel, .int .i64 F.burn, .int .i64 F.res] 37
 have HF := hI9 _x.1
 have HB := hI9 _x.2.1
 have zW := _x.2.2
 clear _x
 generalize World.alloc w _ = W at *
 go_wp2_with (refine wpl_row rfl 37 (.tmp 3) rfl _ rfl _ 5 HF.out Tryz.rowFli rfl ?_; simp only [Act.put])
 refine (HFL.out _ (HL.out.below HB.out) (HR.out.below HB.out)).mono ?_
 rintro e w2 ⟨v, rfl, hb2, hv⟩
 obtain ⟨A2, c2, rfl, e2, e3, e4⟩ := hv (by trivial)
 obtain ⟨b2, o2, rfl, hbb, hc2⟩ := e4 (by omega)
 have cl : w2.cell? ⟨b2, o2 + m, none⟩ = some (.int .i64 (F.at_ (lgT S n) m)) := by have := hc2 m (by omega) 0 (by omega); rw [Nat.mul_one, Nat.add_zero] at this; exact this
 have hmz : IntKind.i64.wrap ((F.m : Int) - 1) = (m : Int) := by rw [IntKind.wrap_i64]; omega
 have hmz2 : (m : Int) < (F.m : Int) := by omega
 have HB2 := hI9 (bthen HB.out hb2)
 clear hc2 e4 hme hv hb2 HF HB
 go_wp2_with (fail)
 go_ret
 exact ⟨rfl, HB2.out⟩
end Go.Proofs.YtlabfpjlckdmfaaGreat

namespace Go.Proofs.YtlabfpjlckdmfaaGreat
open Go Go.RowKit Go.Proofs
set_option maxRecDepth 100000
set_option maxHeartbeats 8000000
theorem SlH.nil (w : World) : SlH w (.slice none 0 0) [] := ⟨none, 0, rfl, Nat.le_refl _, by decide, fun h => absurd h (Nat.lt_irrefl _)⟩
end Go.Proofs.YtlabfpjlckdmfaaGreat

namespace Go.Proofs.YtlabfpjlckdmfaaGreat
open Go Go.RowKit Go.Proofs
set_option maxRecDepth 100000
set_option maxHeartbeats 8000000
end Go.Proofs.YtlabfpjlckdmfaaGreat

namespace Go.Proofs.YtlabfpjlckdmfaaGreat
open Go Go.RowKit Go.Proofs
set_option maxRecDepth 100000
set_option maxHeartbeats 8000000
theorem FliD.dep_le {F : FliD} {P : Nat} {lt : Tab} (hok : F.ok P lt) : F.dep ≤ F.arr lt := by
 have hmono : ∀ i, F.flown P lt (i + 1) → F.dep ≤ F.at_ lt i := by
  intro i
  induction i with
  | zero => intro _; exact Int.le_refl _
  | succ i ih =>
   intro hf
   have := ih ⟨fun j hj => hf.1 j (by omega), fun j hj => hf.2 j (by omega)⟩
   have := hf.2 i (by omega)
   show F.dep ≤ F.at_ lt i + lt (F.R i).toNat (F.R (i + 1)).toNat
   omega
 have hm := (FliD.nums_iff.1 hok.1).1.1
 exact hmono (F.m - 1) ⟨fun j hj => hok.2.1.1 j (by omega), fun j hj => hok.2.1.2 j (by omega)⟩
end Go.Proofs.YtlabfpjlckdmfaaGreat
