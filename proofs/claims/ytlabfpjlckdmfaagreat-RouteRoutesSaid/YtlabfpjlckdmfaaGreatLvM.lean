import Derived.Test.YtlabfpjlckdmfaaGreatNhD
import Derived.Test.YtlabfpjlckdmfaaGreatJvM
import Derived.Test.YtlabfpjlckdmfaaGreatKAL
import Derived.Test.YtlabfpjlckdmfaaGreatKAO
set_option linter.all false
namespace Go.Proofs.YtlabfpjlckdmfaaGreat.routeRoutes
open Go Go.RowKit Go.Proofs Go.Proofs.YtlabfpjlckdmfaaGreat Go.ChangeShapes Go.WideShapes Go.ChangeAt
theorem own : ownKnob Tryz.prog.godebug = none := by kernel_rfl
set_option maxRecDepth 100000 in
theorem lifted (os : Os) (started : os.Started) (H : Type) (enc : TypeId × Value → H) :
  ReturnsInHanded {} Tryz.checked os 4 .any (Rows.routeRoutesSpec.pre6 enc Tryz.prog Tryz.f4 Rows.routeRoutesRow.domain false) (Rows.routeRoutesSpec.post enc Tryz.prog Tryz.f4 false true false false) := by
 refine returnsInHanded_of_change (C := Tryz.checked) own started (by kernel_rfl) Tryz.func4
  (ChangeSpec.witness6 (enc := enc) (C := Tryz.checked) false ⟨#[], #[.agg #[.int .i64 0, .int .i64 0, .int .i64 0, .int .i64 0, .int .i64 0, .int .i64 0, .int .i64 0, .bool false, .bool false, .int .i64 0, .int .i64 0, .int .i64 0, .slice none 0 0, .slice none 0 0, .int .i64 0, .int .i64 0, .int .i64 0, .bool false, .bool false, .slice none 0 0], .agg #[.slice none 0 0, .int .i64 0, .int .i64 0, .int .i64 0, .int .i64 0], .int .i64 0], []⟩ 8 (by kernel_rfl) (by kernel_rfl) (by kernel_rfl) (by kernel_rfl)) ?_
 intro W base args ds gs before hval0 hW hcnd _
 have hval : ∀ (j : Nat) t v, Tryz.f4.params[j]? = some t → args[j]? = some v → Value.okWide Tryz.prog W .any base t v := hval0
 have hW' := hW
 obtain ⟨p, q, hA0, hV, rfl, hfz, hnd⟩ := hW
 have hA : DataW.TrodAll enc Tryz.prog W 0 (fun _ => true) true Tryz.f4.params.toList args.toList ds p := hA0
 rw [Tryz.params4] at hA hval
 obtain ⟨v0, vs0, d0, ds0, p0, q0, hargs, rfl, rfl, h0, r0⟩ := trodAll_cons hA
 obtain ⟨v1, vs1, d1, ds1, p1, q1, rfl, rfl, rfl, h1, r1⟩ := trodAll_cons r0
 obtain ⟨v2, vs2, d2, ds2, p2, q2, rfl, rfl, rfl, h2, r2⟩ := trodAll_cons r1
 obtain ⟨rfl, rfl, rfl⟩ := trodAll_nil r2
 obtain rfl : args = #[v0, v1, v2] := by cases args; simp_all
 obtain ⟨rfl, rfl⟩ := trodVars_none hV
 obtain ⟨Mx0, vFx0, vSx0, lwx0, lsx0, lcx0, lix0, lbx0, Ax0, nx0, cx0, Sx0, rfl, hMx, hq1, hq2, hLx⟩ := plan_trod (hval 0 _ v0 rfl rfl) h0
 obtain ⟨Fx1, vRx1, rfl, hRx, -, -, -, -⟩ := flight_trod (hval 1 _ v1 rfl rfl) h1
 obtain ⟨nx2, rfl, -⟩ := int_trod_one (hval 2 _ v2 rfl rfl) h2
 clear hA0 hval0
 have hlt0 : ∀ x ∈ p0, x.block < W.heap.size := fun x hx => by
  have := hW'.lt x (by simp only [List.mem_append]; simp only [hx, true_or, or_true])
  simpa using this
 have hlt1 : ∀ x ∈ p1, x.block < W.heap.size := fun x hx => by
  have := hW'.lt x (by simp only [List.mem_append]; simp only [hx, true_or, or_true])
  simpa using this
 have hlt2 : ∀ x ∈ p2, x.block < W.heap.size := fun x hx => by
  have := hW'.lt x (by simp only [List.mem_append]; simp only [hx, true_or, or_true])
  simpa using this
 refine (RouteRoutes_c Mx0 vFx0 vSx0 lwx0 lsx0 lcx0 lix0 lbx0 Ax0 nx0 cx0 Sx0 Fx1 vRx1 nx2 W hMx hq1 hq2 hLx hRx).mono fun e W' ⟨he, hb⟩ => ?_
 subst he
 exact ⟨_, rfl, post_kept (pa := p0 ++ (p1 ++ (p2 ++ []))) (pv := []) hW' hb (fun _ _ _ => trodAll_cons_mk (shut_bool Tryz.underlying4 _) trodAll_mk0)
  (fun sp hs => trodAll_cons_mk (WideElems.Trod_stays Tryz.laidOut' (by kernel_rfl) (of_decide_eq_true (by kernel_rfl)) h0 (fun x hx => hb.same (hlt0 x hx)) (fun x hx => hs x (by simp only [List.mem_append]; simp only [hx, true_or, or_true]))) (trodAll_cons_mk (WideElems.Trod_stays Tryz.laidOut' (by kernel_rfl) (of_decide_eq_true (by kernel_rfl)) h1 (fun x hx => hb.same (hlt1 x hx)) (fun x hx => hs x (by simp only [List.mem_append]; simp only [hx, true_or, or_true]))) (trodAll_cons_mk (WideElems.Trod_stays Tryz.laidOut' (by kernel_rfl) (of_decide_eq_true (by kernel_rfl)) h2 (fun x hx => hb.same (hlt2 x hx)) (fun x hx => hs x (by simp only [List.mem_append]; simp only [hx, true_or, or_true]))) trodAll_mk0)))
  (fun _ _ => rfl) rfl (ok_one (by kernel_rfl) rfl (okWide_bool_mk Tryz.underlying4 _))⟩
theorem over : Rows.routeRoutesRow.holds Tryz.pinned (OpenSpec.ofChange Rows.routeRoutesSpec) :=
 OpenClaim.holds_of_wide 4 Tryz.f4 rfl rfl rfl rfl rfl rfl rfl ⟨rfl, rfl, rfl, rfl, rfl⟩ rfl rfl rfl rfl rfl jn Tryz.func4 jf ji jw
  (fun os started H enc _ => lifted os started H enc)
theorem proved : Rows.RouteRoutesSaid :=
 over
#print axioms proved
end Go.Proofs.YtlabfpjlckdmfaaGreat.routeRoutes
