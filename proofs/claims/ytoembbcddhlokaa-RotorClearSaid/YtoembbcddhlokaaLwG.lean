/- Plain law: a smaller air within another one: the wake. -/
import Derived.Test.YtoembbcddhlokaaRoS
set_option linter.all false
namespace Go.Proofs.Ytoembbcddhlokaa
open Go Go.RowKit Go.Proofs

theorem vspan_sub {a b c d : Int} (h : vspan a b = true) (h1 : a ≤ c) (h2 : c ≤ d) (h3 : d ≤ b) : vspan c d = true := by
  have := vspan_iff.1 h; exact vspan_iff.2 (by omega)
theorem Fits.sub2 {T : Tbl} {xl xh yl yh a b c d : Int} (h : Fits T xl xh yl yh) (h1 : xl ≤ a ∧ a ≤ b ∧ b ≤ xh) (h2 : yl ≤ c ∧ c ≤ d ∧ d ≤ yh) : Fits T a b c d := by
  refine ⟨h.t, vspan_sub h.vx h1.1 h1.2.1 h1.2.2, vspan_sub h.vy h2.1 h2.2.1 h2.2.2, ?_, ?_⟩
  · have := h.lx; unfold liesB at *; simp only [Bool.and_eq_true, decide_eq_true_eq] at *; omega
  · have := h.ly; unfold liesB at *; simp only [Bool.and_eq_true, decide_eq_true_eq] at *; omega
theorem Fits.lk {T : Tbl} {xl xh yl yh : Int} (h : Fits T xl xh yl yh) : lkE T xl xh yl yh = true := by unfold lkE; rw [h.lx, h.ly]; rfl
theorem bnd_sub2 {T : Tbl} {xl xh yl yh a b c d : Int} (h : Fits T xl xh yl yh) (h1 : xl ≤ a ∧ a ≤ b ∧ b ≤ xh) (h2 : yl ≤ c ∧ c ≤ d ∧ d ≤ yh) : bLo T xl xh yl yh ≤ bLo T a b c d ∧ bHi T a b c d ≤ bHi T xl xh yl yh :=
  bnd_sub h (h.sub2 h1 h2) h1.1 h1.2.2 h2.1 h2.2.2

/-- A smaller air. -/
structure Sub (wl wh tl th el eh nl nh wl' wh' tl' th' el' eh' nl' nh' : Int) : Prop where
  w : wl ≤ wl' ∧ wl' ≤ wh' ∧ wh' ≤ wh
  t : tl ≤ tl' ∧ tl' ≤ th' ∧ th' ≤ th
  e : el ≤ el' ∧ el' ≤ eh' ∧ eh' ≤ eh
  n : nl ≤ nl' ∧ nl' ≤ nh' ∧ nh' ≤ nh
theorem Sub.air {wl wh tl th el eh nl nh wl' wh' tl' th' el' eh' nl' nh' : Int} (s : Sub wl wh tl th el eh nl nh wl' wh' tl' th' el' eh' nl' nh') (h : airB wl wh tl th el eh nl nh = true) : airB wl' wh' tl' th' el' eh' nl' nh' = true := by
  unfold airB at *
  simp only [Bool.and_eq_true] at *
  exact ⟨⟨⟨vspan_sub h.1.1.1 s.w.1 s.w.2.1 s.w.2.2, vspan_sub h.1.1.2 s.t.1 s.t.2.1 s.t.2.2⟩, vspan_sub h.1.2 s.e.1 s.e.2.1 s.e.2.2⟩, vspan_sub h.2 s.n.1 s.n.2.1 s.n.2.2⟩

section
variable {S : Tabs} {cl bu wl wh tl th el eh nl nh wl' wh' tl' th' el' eh' nl' nh' : Int} (s : Sub wl wh tl th el eh nl nh wl' wh' tl' th' el' eh' nl' nh')
include s
theorem wake_sub {sl sh sl' sh' kl kh kl' kh' : Int} (hs : sl ≤ sl' ∧ sl' ≤ sh' ∧ sh' ≤ sh) (hk : kl ≤ kl' ∧ kl' ≤ kh' ∧ kh' ≤ kh) (h : wakE S cl bu wl wh tl th el eh nl nh sl sh kl kh = 0) :
    wakE S cl bu wl' wh' tl' th' el' eh' nl' nh' sl' sh' kl' kh' = 0 ∧ (wakR S cl bu wl' wh' tl' th' el' eh' nl' nh' sl' sh' kl' kh' = true → wakR S cl bu wl wh tl th el eh nl nh sl sh kl kh = true) := by
  obtain ⟨hr, fa, fc⟩ := wakE_ok h
  have hz := chkE_zero (show chkE (rotB S cl bu) (airB wl wh tl th el eh nl nh) (!vspan sl sh || !vspan kl kh) (!lkE S.a sl sh wl wh) = 0 from h)
  have hk' : vspan kl kh = true := by
    have := hz.2.2.1
    simp only [Bool.or_eq_false_iff, Bool.not_eq_false'] at this
    exact this.2
  have e : wakE S cl bu wl' wh' tl' th' el' eh' nl' nh' sl' sh' kl' kh' = 0 := by
    unfold wakE; rw [hr, s.air hz.2.1, (fa.sub2 hs s.w).vx, (fa.sub2 hs s.w).lk, vspan_sub hk' hk.1 hk.2.1 hk.2.2]; rfl
  refine ⟨e, ?_⟩
  unfold wakR wakV
  rw [h, e]
  simp only [decide_true, Bool.true_and, Bool.and_eq_true, decide_eq_true_eq]
  have a := bnd_sub2 fa hs s.w
  have c := bnd_sub2 fc hs s.w
  intro hh
  omega
end
end Go.Proofs.Ytoembbcddhlokaa
