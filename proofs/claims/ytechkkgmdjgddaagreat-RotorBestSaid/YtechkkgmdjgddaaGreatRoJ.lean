/- Contracts: the tables that package rotor looks up. -/
import Derived.Test.YtechkkgmdjgddaaGreatRoI
import Derived.Test.YtechkkgmdjgddaaGreatRoH
set_option linter.all false
namespace Go.Proofs.YtechkkgmdjgddaaGreat
open Go Go.RowKit Go.Proofs
set_option maxRecDepth 100000
set_option maxHeartbeats 4000000

/-- Two, and three, look-ups. -/
def look1 (a : Look) : Nat → Look := fun _ => a
def look2 (a b : Look) : Nat → Look | 0 => a | _ => b
def look3 (a b c : Look) : Nat → Look | 0 => a | 1 => b | _ => c
theorem offL1 (a : Look) : offL 1 (look1 a) = !a.on := by simp [offL, look1, List.range_succ]
theorem offL2 (a b : Look) : offL 2 (look2 a b) = (!a.on || !b.on) := by simp [offL, look2, List.range_succ]
theorem offL3 (a b c : Look) : offL 3 (look3 a b c) = (!a.on || (!b.on || !c.on)) := by simp [offL, look3, List.range_succ]

theorem looks1 {W : World} {B c : Nat} {t : TypeId} {x y v : Value} {a : Look} (hB : Blk W B t #[x, y, v, .int .i64 a.xl, .int .i64 a.xh, .int .i64 a.yl, .int .i64 a.yh])
    (hT : TblAt W x y v a.T) (h1 : 0 < a.T.X.length) (h2 : 0 < a.T.Y.length) : Looks W (.slice (some ⟨B, 0, none⟩) 1 c) 1 (look1 a) :=
  ⟨_, c, fun _ => x, fun _ => y, fun _ => v, rfl, by omega, fun _ => ⟨B, 0, rfl, hB.lt, fun k hk => by
    obtain rfl : k = 0 := by omega
    exact ⟨hB.cell 0, hB.cell 1, hB.cell 2, hB.cell 3, hB.cell 4, hB.cell 5, hB.cell 6⟩⟩, fun i _ => ⟨hT, h1, h2⟩⟩
theorem looks2 {W : World} {B c : Nat} {t : TypeId} {x y v x' y' v' : Value} {a b : Look}
    (hB : Blk W B t #[x, y, v, .int .i64 a.xl, .int .i64 a.xh, .int .i64 a.yl, .int .i64 a.yh, x', y', v', .int .i64 b.xl, .int .i64 b.xh, .int .i64 b.yl, .int .i64 b.yh])
    (hT : TblAt W x y v a.T) (h1 : 0 < a.T.X.length) (h2 : 0 < a.T.Y.length) (hT' : TblAt W x' y' v' b.T) (h1' : 0 < b.T.X.length) (h2' : 0 < b.T.Y.length) :
    Looks W (.slice (some ⟨B, 0, none⟩) 2 c) 2 (look2 a b) :=
  ⟨_, c, fun | 0 => x | _ => x', fun | 0 => y | _ => y', fun | 0 => v | _ => v', rfl, by omega, fun _ => ⟨B, 0, rfl, hB.lt, fun k hk => by
    rcases (show k = 0 ∨ k = 1 by omega) with rfl | rfl
    · exact ⟨hB.cell 0, hB.cell 1, hB.cell 2, hB.cell 3, hB.cell 4, hB.cell 5, hB.cell 6⟩
    · exact ⟨hB.cell 7, hB.cell 8, hB.cell 9, hB.cell 10, hB.cell 11, hB.cell 12, hB.cell 13⟩⟩, fun i hi => by
    rcases (show i = 0 ∨ i = 1 by omega) with rfl | rfl
    · exact ⟨hT, h1, h2⟩
    · exact ⟨hT', h1', h2'⟩⟩
theorem looks3 {W : World} {B cc : Nat} {t : TypeId} {x y v x' y' v' p q r : Value} {a b c : Look}
    (hB : Blk W B t #[x, y, v, .int .i64 a.xl, .int .i64 a.xh, .int .i64 a.yl, .int .i64 a.yh, x', y', v', .int .i64 b.xl, .int .i64 b.xh, .int .i64 b.yl, .int .i64 b.yh, p, q, r, .int .i64 c.xl, .int .i64 c.xh, .int .i64 c.yl, .int .i64 c.yh])
    (hT : TblAt W x y v a.T) (h1 : 0 < a.T.X.length) (h2 : 0 < a.T.Y.length) (hT' : TblAt W x' y' v' b.T) (h1' : 0 < b.T.X.length) (h2' : 0 < b.T.Y.length) (hU : TblAt W p q r c.T) (g1 : 0 < c.T.X.length) (g2 : 0 < c.T.Y.length) :
    Looks W (.slice (some ⟨B, 0, none⟩) 3 cc) 3 (look3 a b c) :=
  ⟨_, cc, fun | 0 => x | 1 => x' | _ => p, fun | 0 => y | 1 => y' | _ => q, fun | 0 => v | 1 => v' | _ => r, rfl, by omega, fun _ => ⟨B, 0, rfl, hB.lt, fun k hk => by
    rcases (show k = 0 ∨ k = 1 ∨ k = 2 by omega) with rfl | rfl | rfl
    · exact ⟨hB.cell 0, hB.cell 1, hB.cell 2, hB.cell 3, hB.cell 4, hB.cell 5, hB.cell 6⟩
    · exact ⟨hB.cell 7, hB.cell 8, hB.cell 9, hB.cell 10, hB.cell 11, hB.cell 12, hB.cell 13⟩
    · exact ⟨hB.cell 14, hB.cell 15, hB.cell 16, hB.cell 17, hB.cell 18, hB.cell 19, hB.cell 20⟩⟩, fun i hi => by
    rcases (show i = 0 ∨ i = 1 ∨ i = 2 by omega) with rfl | rfl | rfl
    · exact ⟨hT, h1, h2⟩
    · exact ⟨hT', h1', h2'⟩
    · exact ⟨hU, g1, g2⟩⟩


theorem marginT_c (hx hy hv gx gy gv lx ly lv px py pv nx ny nv ax ay av cx cy cv dx dy dv : Value) (cl bu wl wh tl th el eh nl nh : Int) (S : Tabs) (b c : Nat) (sl sh : Int) (w0 w : World) (hR : RotAt w0 hx hy hv gx gy gv lx ly lv px py pv nx ny nv ax ay av cx cy cv dx dy dv cl bu S) (hb : Below w0.heap.size w0 w) (hM : Blk w b 51 #[hx, hy, hv, gx, gy, gv, lx, ly, lv, px, py, pv, nx, ny, nv, ax, ay, av, cx, cy, cv, dx, dy, dv, .int .i64 cl, .int .i64 bu, .int .i64 wl, .int .i64 wh, .int .i64 tl, .int .i64 th, .int .i64 el, .int .i64 eh, .int .i64 nl, .int .i64 nh]) (hs : Blk w c 29 #[.int .i64 sl, .int .i64 sh]) (h1 : rightB S.h 0 100000 = true) (h2 : rightB S.g 0 100 = true) (h3 : rightB S.p 0 100000 = true) :
   Calls Tryz.prog 70 #[.pointer (some ⟨b, 0, none⟩), .pointer (some ⟨c, 0, none⟩)] w fun e w' => ∃ v, e = .returned v ∧ Looks w' v 3 (look3 ⟨S.h, wl, wh, tl, th⟩ ⟨S.g, sl, sh, nl, nh⟩ ⟨S.p, tl, th, el, eh⟩) ∧ Below w.heap.size w w' := by
  have HR := Lib.hid (hR.below hb)
  have hM2 := Lib.hid (fun r : After w => hM.below r.below)
  have hR2 := Lib.hid (fun r : After w => HR.out.below r.below)
  have HP1 := Lib.hid (lkE_pos h1)
  have HP2 := Lib.hid (lkE_pos h2)
  have HP3 := Lib.hid (lkE_pos h3)
  have c0 : ∀ r : After w, r.w.cell? ⟨c, 0, none⟩ = some (.int .i64 sl) := fun r => (hs.below r.below).cell 0
  have c1 : ∀ r : After w, r.w.cell? ⟨c, 1, none⟩ = some (.int .i64 sh) := fun r => (hs.below r.below).cell 1
  clear hR hb hM h1 h2 h3 hs
  obtain ⟨a1, n1, d1, rfl⟩ := HR.out.h.s1
  obtain ⟨a2, n2, d2, rfl⟩ := HR.out.h.s2
  obtain ⟨a3, n3, d3, rfl⟩ := HR.out.h.s3
  obtain ⟨a4, n4, d4, rfl⟩ := HR.out.g.s1
  obtain ⟨a5, n5, d5, rfl⟩ := HR.out.g.s2
  obtain ⟨a6, n6, d6, rfl⟩ := HR.out.g.s3
  obtain ⟨a7, n7, d7, rfl⟩ := HR.out.p.s1
  obtain ⟨a8, n8, d8, rfl⟩ := HR.out.p.s2
  obtain ⟨a9, n9, d9, rfl⟩ := HR.out.p.s3
  go_enter Tryz.func70, Tryz.ntmps70
  go_wp2
  refine wp_region_aftert 7 (by kernel_rfl) (by kernel_rfl) ?_
  simp only [List.take_succ_cons, List.take_zero, List.drop_succ_cons, List.drop_zero]
  repeat (first | (refine wpq_row rfl 51 (.tmp 0) rfl _ rfl _ 34 (fun _ hw => by obtain ⟨r, rfl⟩ := hw; exact hM2.out r) Tryz.rowMach rfl ?_; simp only [Act.put, List.setIfInBounds_toArray, List.set_cons_succ, List.set_cons_zero]) | go_big_quiet_step (first | (go_at_call 71; (with_reducible refine qafter (hover_c _ _ _ _ _ _ _ _ _ _ _ _ _ _ _ _ _ _ _ _ _ _ _ _ _ _ _ _ _ _ _ _ _ _ HR.out.h.s1 HR.out.h.s2 HR.out.h.s3 _))) | (go_at_call 72; (with_reducible refine qafter (ground_c _ _ _ _ _ _ _ _ _ _ _ _ _ _ _ _ _ _ _ _ _ _ _ _ _ _ _ _ _ _ _ _ _ _ HR.out.g.s1 HR.out.g.s2 HR.out.g.s3 _ _ _))) | (go_at_call 33; (with_reducible refine qafter (power_c _ _ _ _ _ _ _ _ _ _ _ _ _ _ _ _ _ _ _ _ _ _ _ _ _ _ _ _ _ _ _ _ _ _ HR.out.p.s1 HR.out.p.s2 HR.out.p.s3 _)))))
  refine wpQuiet_nil ?_
  rintro _ ⟨r, rfl⟩
  have BR := r.below
  have RR := Lib.hid (hR2.out r)
  clear c0 c1
  go_wp2
  go_ret
  exact ⟨_, rfl, looks3 (a := ⟨S.h, wl, wh, tl, th⟩) (b := ⟨S.g, sl, sh, nl, nh⟩) (c := ⟨S.p, tl, th, el, eh⟩) (Blk.new _ _ _) (RR.out.h.below (bal (Below.refl _ _) _)) HP1.out.1 HP1.out.2 (RR.out.g.below (bal (Below.refl _ _) _)) HP2.out.1 HP2.out.2 (RR.out.p.below (bal (Below.refl _ _) _)) HP3.out.1 HP3.out.2, bal BR _⟩

theorem rateT_c (hx hy hv gx gy gv lx ly lv px py pv nx ny nv ax ay av cx cy cv dx dy dv : Value) (cl bu wl wh tl th el eh nl nh : Int) (S : Tabs) (b c : Nat) (n : Int) (w0 w : World) (hR : RotAt w0 hx hy hv gx gy gv lx ly lv px py pv nx ny nv ax ay av cx cy cv dx dy dv cl bu S) (hb : Below w0.heap.size w0 w) (hM : Blk w b 51 #[hx, hy, hv, gx, gy, gv, lx, ly, lv, px, py, pv, nx, ny, nv, ax, ay, av, cx, cy, cv, dx, dy, dv, .int .i64 cl, .int .i64 bu, .int .i64 wl, .int .i64 wh, .int .i64 tl, .int .i64 th, .int .i64 el, .int .i64 eh, .int .i64 nl, .int .i64 nh]) (hs : w.cell? ⟨c, 0, none⟩ = some (.int .i64 n)) (h1 : rightB S.p 0 100000 = true) (h2 : rightB S.l 0 100000 = true) :
   Calls Tryz.prog 32 #[.pointer (some ⟨b, 0, none⟩), .pointer (some ⟨c, 0, none⟩)] w fun e w' => ∃ v, e = .returned v ∧ Looks w' v 2 (look2 ⟨S.p, tl, th, el, eh⟩ ⟨S.l, n, n, wl, wh⟩) ∧ Below w.heap.size w w' := by
  have HR := Lib.hid (hR.below hb)
  have hM2 := Lib.hid (fun r : After w => hM.below r.below)
  have hR2 := Lib.hid (fun r : After w => HR.out.below r.below)
  have HP1 := Lib.hid (lkE_pos h1)
  have HP2 := Lib.hid (lkE_pos h2)
  have c0 : ∀ r : After w, r.w.cell? ⟨c, 0, none⟩ = some (.int .i64 n) := fun r => (r.below.cell (p := ⟨c, 0, none⟩) (blk_lt hs)).trans hs
  clear hR hb hM h1 h2 hs
  obtain ⟨a1, n1, d1, rfl⟩ := HR.out.p.s1
  obtain ⟨a2, n2, d2, rfl⟩ := HR.out.p.s2
  obtain ⟨a3, n3, d3, rfl⟩ := HR.out.p.s3
  obtain ⟨a4, n4, d4, rfl⟩ := HR.out.l.s1
  obtain ⟨a5, n5, d5, rfl⟩ := HR.out.l.s2
  obtain ⟨a6, n6, d6, rfl⟩ := HR.out.l.s3
  go_enter Tryz.func32, Tryz.ntmps32
  go_wp2
  refine wp_region_aftert 6 (by kernel_rfl) (by kernel_rfl) ?_
  simp only [List.take_succ_cons, List.take_zero, List.drop_succ_cons, List.drop_zero]
  repeat (first | (refine wpq_row rfl 51 (.tmp 0) rfl _ rfl _ 34 (fun _ hw => by obtain ⟨r, rfl⟩ := hw; exact hM2.out r) Tryz.rowMach rfl ?_; simp only [Act.put, List.setIfInBounds_toArray, List.set_cons_succ, List.set_cons_zero]) | go_big_quiet_step (first | (go_at_call 33; (with_reducible refine qafter (power_c _ _ _ _ _ _ _ _ _ _ _ _ _ _ _ _ _ _ _ _ _ _ _ _ _ _ _ _ _ _ _ _ _ _ HR.out.p.s1 HR.out.p.s2 HR.out.p.s3 _))) | (go_at_call 35; (with_reducible refine qafter (one_c _ _))) | (go_at_call 34; (with_reducible refine qafter (level_c _ _ _ _ _ _ _ _ _ _ _ _ _ _ _ _ _ _ _ _ _ _ _ _ _ _ _ _ _ _ _ _ _ _ HR.out.l.s1 HR.out.l.s2 HR.out.l.s3 _ _ _)))))
  refine wpQuiet_nil ?_
  rintro _ ⟨r, rfl⟩
  have BR := r.below
  have RR := Lib.hid (hR2.out r)
  clear c0
  go_wp2
  go_ret
  exact ⟨_, rfl, looks2 (a := ⟨S.p, tl, th, el, eh⟩) (b := ⟨S.l, n, n, wl, wh⟩) (Blk.new _ _ _) (RR.out.p.below (bal (Below.refl _ _) _)) HP1.out.1 HP1.out.2 (RR.out.l.below (bal (Below.refl _ _) _)) HP2.out.1 HP2.out.2, bal BR _⟩
end Go.Proofs.YtechkkgmdjgddaaGreat
