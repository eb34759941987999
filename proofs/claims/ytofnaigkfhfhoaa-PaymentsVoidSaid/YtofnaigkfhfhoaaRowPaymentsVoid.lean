/-
  The statement PaymentsVoid, as it is given.
-/
import Derived.Test.YtofnaigkfhfhoaaRowP
import Derived.Test.YtofnaigkfhfhoaaRowP
namespace Go.Proofs.Ytofnaigkfhfhoaa
open Go.ChangeShapes Go.WideShapes Go.ChangeAt Go.RowKit Go.Joins Go.Deep

set_option maxRecDepth 20000 in
theorem paymentsVoid_lifted (os : Os) (started : os.Started) (H : Type) (enc : TypeId × Value → H) :
    ReturnsInHanded {} Try.checked os 3 .any (Rows.paymentsVoidSpec.pre6 enc Try.prog Try.f3 Rows.paymentsVoidRow.domain false) (Rows.paymentsVoidSpec.post enc Try.prog Try.f3 false true false false) := by
  refine returnsInHanded_of_change (C := Try.checked) own_knob started (by kernel_rfl) Try.func3
    (ChangeSpec.witness6 (enc := enc) (C := Try.checked) false ⟨#[], #[.agg #[.int .u8 0, .int .u8 0, .int .u8 0, .int .i64 0]], []⟩ 8 (by kernel_rfl) (by kernel_rfl) (by kernel_rfl) (by kernel_rfl)) ?_
  intro W base args ds gs before hval0 hW hcnd _
  have hval : ∀ (j : Nat) t v, Try.f3.params[j]? = some t → args[j]? = some v → Value.okWide Try.prog W .any base t v := hval0
  have hW' := hW
  obtain ⟨p, q, hA0, hV, hpq, hfz, hnd⟩ := hW
  have hA : DataW.TrodAll enc Try.prog W 0 (fun _ => true) true Try.f3.params.toList args.toList ds p := hA0
  rw [Try.params3] at hA hval
  obtain ⟨v0, v1, v2, d0, d1, d2, p0, p1, p2, rfl, rfl, rfl, h0, h1, h2⟩ := trodAll_three hA
  obtain ⟨cx2_0, cx2_1, cx2_2, cx2_3, yx2_0, yx2_1, yx2_2, yx2_3, m2, rfl, rfl, _, gx2_0, gx2_1, gx2_2, gx2_3⟩ := open_agg4 Try.underlying25 (by kernel_rfl) (by kernel_rfl) (hval 2 25 v2 rfl rfl) h2
  obtain ⟨x2_0, ex2_0, _, bx2_0⟩ := DataW.trod_int Try.underlying22 gx2_0
  obtain ⟨x2_1, ex2_1, _, bx2_1⟩ := DataW.trod_int Try.underlying22 gx2_1
  obtain ⟨x2_2, ex2_2, _, bx2_2⟩ := DataW.trod_int Try.underlying23 gx2_2
  obtain ⟨x2_3, ex2_3, _, bx2_3⟩ := DataW.trod_int Try.underlying2 gx2_3
  simp only [List.cons.injEq, and_true] at ex2_0 ex2_1 ex2_2 ex2_3
  subst ex2_0 ex2_1 ex2_2 ex2_3
  obtain ⟨nx2_0, rfl, ux2_0⟩ := lit_u8 bx2_0
  obtain ⟨nx2_1, rfl, ux2_1⟩ := lit_u8 bx2_1
  obtain ⟨nx2_2, rfl, ux2_2⟩ := lit_u8 bx2_2
  have ux2_3 := lit_i64 bx2_3
  refine (paymentsVoid_walk (w := W) ux2_0 ux2_1 ux2_2 ux2_3).mono fun e W' ⟨he, hc⟩ => ?_
  subst he
  exact ⟨_, rfl, law_post laid_out rfl (by rw [Try.params3]; intro t ht; simp at ht; (first | (subst ht; exact ⟨by kernel_rfl, of_decide_eq_true (by kernel_rfl)⟩) | (rcases ht with rfl | rfl <;> exact ⟨by kernel_rfl, of_decide_eq_true (by kernel_rfl)⟩) | (rcases ht with rfl | rfl | rfl <;> exact ⟨by kernel_rfl, of_decide_eq_true (by kernel_rfl)⟩))) (by kernel_rfl) Try.underlying4 hW' rfl hc.below⟩

theorem paymentsVoid_holds : Rows.PaymentsVoidSaid :=
  OpenClaim.holds_of_wide 3 Try.f3 rfl rfl rfl rfl rfl rfl rfl ⟨rfl, rfl, rfl, rfl, rfl⟩ rfl rfl rfl rfl rfl (by kernel_rfl) Try.func3 (joined_of (by as_aux_lemma => kernel_rfl) (by as_aux_lemma => kernel_rfl) rfl (by as_aux_lemma => kernel_rfl) (by as_aux_lemma => kernel_rfl) (by as_aux_lemma => kernel_rfl) (by as_aux_lemma => kernel_rfl) (by as_aux_lemma => kernel_rfl) rfl rfl (by as_aux_lemma => kernel_rfl))
    (of_decide_eq_true (by kernel_rfl)) (by unfold Func.isWrapper; rw [if_neg (of_decide_eq_false (by kernel_rfl))]; exact ⟨rfl, rfl⟩)
    (fun os started H enc _ => paymentsVoid_lifted os started H enc)
#print axioms paymentsVoid_holds
end Go.Proofs.Ytofnaigkfhfhoaa
