/-
  The statement PaymentsMoves, as it is given.
-/
import Derived.Test.YtofnaigkfhfhoaaRowP
import Derived.Test.YtofnaigkfhfhoaaArgsL
import Derived.Test.YtofnaigkfhfhoaaPaymentsMoves
namespace Go.Proofs.Ytofnaigkfhfhoaa
open Go.ChangeShapes Go.WideShapes Go.ChangeAt Go.RowKit Go.Joins Go.Deep

set_option maxRecDepth 20000 in
theorem paymentsMoves_lifted (os : Os) (started : os.Started) (H : Type) (enc : TypeId × Value → H) :
    ReturnsInHanded {} Try.checked os 12 .any (Rows.paymentsMovesSpec.pre6 enc Try.prog Try.f12 Rows.paymentsMovesRow.domain false) (Rows.paymentsMovesSpec.post enc Try.prog Try.f12 false true false false) := by
  refine returnsInHanded_of_change (C := Try.checked) own_knob started (by kernel_rfl) Try.func12
    (ChangeSpec.witness6 (enc := enc) (C := Try.checked) false ⟨#[], #[.slice none 0 0, .agg #[.int .u8 0, .int .u8 0, .int .u8 0, .int .i64 0]], []⟩ 8 (by kernel_rfl) (by kernel_rfl) (by kernel_rfl) (by kernel_rfl)) ?_
  intro W base args ds gs before hval0 hW hcnd _
  have hval : ∀ (j : Nat) t v, Try.f12.params[j]? = some t → args[j]? = some v → Value.okWide Try.prog W .any base t v := hval0
  have hW' := hW
  obtain ⟨p, q, hA0, hV, hpq, hfz, hnd⟩ := hW
  have hA : DataW.TrodAll enc Try.prog W 0 (fun _ => true) true Try.f12.params.toList args.toList ds p := hA0
  rw [Try.params12] at hA hval
  obtain ⟨v0, v1, d0, d1, p0, p1, rfl, rfl, rfl, h0, h1⟩ := trodAll_two hA
  obtain ⟨l0, hl0⟩ := open_acts (hval 0 38 v0 rfl rfl) h0
  obtain ⟨cx1_0, cx1_1, cx1_2, cx1_3, yx1_0, yx1_1, yx1_2, yx1_3, m1, rfl, rfl, _, gx1_0, gx1_1, gx1_2, gx1_3⟩ := open_agg4 Try.underlying25 (by kernel_rfl) (by kernel_rfl) (hval 1 25 v1 rfl rfl) h1
  obtain ⟨x1_0, ex1_0, _, bx1_0⟩ := DataW.trod_int Try.underlying22 gx1_0
  obtain ⟨x1_1, ex1_1, _, bx1_1⟩ := DataW.trod_int Try.underlying22 gx1_1
  obtain ⟨x1_2, ex1_2, _, bx1_2⟩ := DataW.trod_int Try.underlying23 gx1_2
  obtain ⟨x1_3, ex1_3, _, bx1_3⟩ := DataW.trod_int Try.underlying2 gx1_3
  simp only [List.cons.injEq, and_true] at ex1_0 ex1_1 ex1_2 ex1_3
  subst ex1_0 ex1_1 ex1_2 ex1_3
  obtain ⟨nx1_0, rfl, ux1_0⟩ := lit_u8 bx1_0
  obtain ⟨nx1_1, rfl, ux1_1⟩ := lit_u8 bx1_1
  obtain ⟨nx1_2, rfl, ux1_2⟩ := lit_u8 bx1_2
  have ux1_3 := lit_i64 bx1_3
  refine (paymentsMoves_walk (w := W) hl0 ux1_0 ux1_1 ux1_2 ux1_3).mono fun e W' ⟨he, hc⟩ => ?_
  subst he
  exact ⟨_, rfl, law_post laid_out rfl (by rw [Try.params12]; intro t ht; simp at ht; (first | (subst ht; exact ⟨by kernel_rfl, of_decide_eq_true (by kernel_rfl)⟩) | (rcases ht with rfl | rfl <;> exact ⟨by kernel_rfl, of_decide_eq_true (by kernel_rfl)⟩) | (rcases ht with rfl | rfl | rfl <;> exact ⟨by kernel_rfl, of_decide_eq_true (by kernel_rfl)⟩))) (by kernel_rfl) Try.underlying4 hW' rfl hc.below⟩

set_option maxHeartbeats 2000000 in
theorem paymentsMoves_holds : Rows.PaymentsMovesSaid :=
  OpenClaim.holds_of_wide 12 Try.f12 rfl rfl rfl rfl rfl rfl rfl ⟨rfl, rfl, rfl, rfl, rfl⟩ rfl rfl rfl rfl rfl (by kernel_rfl) Try.func12 (joined_of (by as_aux_lemma => kernel_rfl) (by as_aux_lemma => kernel_rfl) rfl (by as_aux_lemma => kernel_rfl) (by as_aux_lemma => kernel_rfl) (by as_aux_lemma => kernel_rfl) (by as_aux_lemma => kernel_rfl) (by as_aux_lemma => kernel_rfl) rfl rfl (by as_aux_lemma => kernel_rfl))
    (of_decide_eq_true (by kernel_rfl)) (by unfold Func.isWrapper; rw [if_neg (of_decide_eq_false (by kernel_rfl))]; exact ⟨rfl, rfl⟩)
    (fun os started H enc _ => paymentsMoves_lifted os started H enc)
#print axioms paymentsMoves_holds
end Go.Proofs.Ytofnaigkfhfhoaa
