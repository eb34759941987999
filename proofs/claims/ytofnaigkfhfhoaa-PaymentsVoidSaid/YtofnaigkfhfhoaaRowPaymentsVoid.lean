/-
  The statement PaymentsVoid, as it is given.
-/
import Derived.Test.YtofnaigkfhfhoaaRowP
import Derived.Test.YtofnaigkfhfhoaaArgsL
import Derived.Test.YtofnaigkfhfhoaaPaymentsVoid
namespace Go.Proofs.Ytofnaigkfhfhoaa
open Go.ChangeShapes Go.WideShapes Go.ChangeAt Go.RowKit Go.Joins Go.Deep

set_option maxRecDepth 20000 in
theorem paymentsVoid_lifted (os : Os) (started : os.Started) (H : Type) (enc : TypeId × Value → H) :
    ReturnsInHanded {} Try.checked os 3 .any (Rows.paymentsVoidSpec.pre6 enc Try.prog Try.f3 Rows.paymentsVoidRow.domain false) (Rows.paymentsVoidSpec.post enc Try.prog Try.f3 false true false false) := by
  refine returnsInHanded_of_change (C := Try.checked) own_knob started (by kernel_rfl) Try.func3
    (ChangeSpec.witness6 (enc := enc) (C := Try.checked) false ⟨#[], #[.agg #[.int .u8 0, .int .u8 0, .int .u8 0, .int .i64 0]], []⟩ 8 (by kernel_rfl) (by kernel_rfl) (by kernel_rfl) (by kernel_rfl)) ?_
  intro W base args ds gs before hval0 hW hcnd _
  have hval : ∀ (j : Nat) t v, Try.f3.params[j]? = some t → args[j]? = some v → Value.okWide Try.prog W .any base t v := hval0
  have hW' := hW
  obtain ⟨p, q, hA0, hV, hpq, hfz, hnd⟩ := hW
  have hA : DataW.TrodAll enc Try.prog W 0 (fun _ => true) true Try.f3.params.toList args.toList ds p := hA0
  rw [Try.params3] at hA hval
  obtain ⟨v0, d0, rfl, rfl, h0⟩ := trodAll_one hA
  obtain ⟨cx0_0, cx0_1, cx0_2, cx0_3, yx0_0, yx0_1, yx0_2, yx0_3, m0, rfl, rfl, _, gx0_0, gx0_1, gx0_2, gx0_3⟩ := open_agg4 Try.underlying25 (by kernel_rfl) (by kernel_rfl) (hval 0 25 v0 rfl rfl) h0
  obtain ⟨x0_0, ex0_0, _, bx0_0⟩ := DataW.trod_int Try.underlying22 gx0_0
  obtain ⟨x0_1, ex0_1, _, bx0_1⟩ := DataW.trod_int Try.underlying22 gx0_1
  obtain ⟨x0_2, ex0_2, _, bx0_2⟩ := DataW.trod_int Try.underlying23 gx0_2
  obtain ⟨x0_3, ex0_3, _, bx0_3⟩ := DataW.trod_int Try.underlying2 gx0_3
  simp only [List.cons.injEq, and_true] at ex0_0 ex0_1 ex0_2 ex0_3
  subst ex0_0 ex0_1 ex0_2 ex0_3
  obtain ⟨nx0_0, rfl, ux0_0⟩ := lit_u8 bx0_0
  obtain ⟨nx0_1, rfl, ux0_1⟩ := lit_u8 bx0_1
  obtain ⟨nx0_2, rfl, ux0_2⟩ := lit_u8 bx0_2
  have ux0_3 := lit_i64 bx0_3
  refine (paymentsVoid_walk (w := W) ux0_0 ux0_1 ux0_2 ux0_3).mono fun e W' ⟨he, hc⟩ => ?_
  subst he
  exact ⟨_, rfl, law_post laid_out rfl (by rw [Try.params3]; intro t ht; simp at ht; (first | (subst ht; exact ⟨by kernel_rfl, of_decide_eq_true (by kernel_rfl)⟩) | (rcases ht with rfl | rfl <;> exact ⟨by kernel_rfl, of_decide_eq_true (by kernel_rfl)⟩) | (rcases ht with rfl | rfl | rfl <;> exact ⟨by kernel_rfl, of_decide_eq_true (by kernel_rfl)⟩))) (by kernel_rfl) Try.underlying4 hW' rfl hc.below⟩

theorem paymentsVoid_holds : Rows.PaymentsVoidSaid :=
  OpenClaim.holds_of_wide 3 Try.f3 rfl rfl rfl rfl rfl rfl rfl ⟨rfl, rfl, rfl, rfl, rfl⟩ rfl rfl rfl rfl rfl (by kernel_rfl) Try.func3 (joined_of (by as_aux_lemma => kernel_rfl) (by as_aux_lemma => kernel_rfl) rfl (by as_aux_lemma => kernel_rfl) (by as_aux_lemma => kernel_rfl) (by as_aux_lemma => kernel_rfl) (by as_aux_lemma => kernel_rfl) (by as_aux_lemma => kernel_rfl) rfl rfl (by as_aux_lemma => kernel_rfl))
    (of_decide_eq_true (by kernel_rfl)) (by unfold Func.isWrapper; rw [if_neg (of_decide_eq_false (by kernel_rfl))]; exact ⟨rfl, rfl⟩)
    (fun os started H enc _ => paymentsVoid_lifted os started H enc)
#print axioms paymentsVoid_holds
end Go.Proofs.Ytofnaigkfhfhoaa
