/-
  The statement GraphsPair, as it is given.
-/
import Derived.Test.YtfpdkeokdojejaaArgs2
import Derived.Test.YtfpdkeokdojejaaLits
import Derived.Test.YtfpdkeokdojejaaGPair
namespace Go.Proofs.Ytfpdkeokdojejaa
open Go.ChangeShapes Go.WideShapes Go.ChangeAt Go.RowKit Go.Joins Go.Deep

set_option maxRecDepth 20000 in
theorem graphsPair_lifted (os : Os) (started : os.Started) (H : Type) (enc : TypeId × Value → H) :
    ReturnsInHanded {} Try.checked os 9 .any (Rows.graphsPairSpec.pre6 enc Try.prog Try.f9 Rows.graphsPairRow.domain false) (Rows.graphsPairSpec.post enc Try.prog Try.f9 false true false false) := by
  refine returnsInHanded_of_change (C := Try.checked) own_knob started (by kernel_rfl) Try.func9
    (ChangeSpec.witness6 (enc := enc) (C := Try.checked) false ⟨#[], #[.slice none 0 0, .int .u8 0, .agg #[.int .u8 0, .int .u8 0, .int .i64 0]], []⟩ 8 (by kernel_rfl) (by kernel_rfl) (by kernel_rfl) (by kernel_rfl)) ?_
  intro W base args ds gs before hval0 hW hcnd _
  have hval : ∀ (j : Nat) t v, Try.f9.params[j]? = some t → args[j]? = some v → Value.okWide Try.prog W .any base t v := hval0
  have hW' := hW
  obtain ⟨p, q, hA0, hV, hpq, hfz, hnd⟩ := hW
  have hA : DataW.TrodAll enc Try.prog W 0 (fun _ => true) true Try.f9.params.toList args.toList ds p := hA0
  rw [Try.params9] at hA hval
  obtain ⟨v0, v1, v2, d0, d1, d2, p0, p1, p2, rfl, rfl, rfl, h0, h1, h2⟩ := trodAll_three hA
  obtain ⟨l0, hl0⟩ := open_acts (hval 0 69 v0 rfl rfl) h0
  obtain ⟨x1, rfl, rfl, _, b1⟩ := open_int Try.underlying55 (hval 1 55 v1 rfl rfl) h1
  obtain ⟨n1, rfl, u1⟩ := lit_u8 b1
  obtain ⟨cx2_0, cx2_1, cx2_2, yx2_0, yx2_1, yx2_2, m2, rfl, rfl, _, gx2_0, gx2_1, gx2_2⟩ := open_agg3 Try.underlying35 (by kernel_rfl) (by kernel_rfl) (hval 2 35 v2 rfl rfl) h2
  obtain ⟨x2_0, ex2_0, _, bx2_0⟩ := DataW.trod_int Try.underlying33 gx2_0
  obtain ⟨x2_1, ex2_1, _, bx2_1⟩ := DataW.trod_int Try.underlying33 gx2_1
  obtain ⟨x2_2, ex2_2, _, bx2_2⟩ := DataW.trod_int Try.underlying2 gx2_2
  simp only [List.cons.injEq, and_true] at ex2_0 ex2_1 ex2_2
  subst ex2_0 ex2_1 ex2_2
  obtain ⟨nx2_0, rfl, ux2_0⟩ := lit_u8 bx2_0
  obtain ⟨nx2_1, rfl, ux2_1⟩ := lit_u8 bx2_1
  have ux2_2 := lit_i64 bx2_2
  refine (graphsPair_walk (w := W) hl0 u1 ux2_0 ux2_1 ux2_2).mono fun e W' ⟨he, hc⟩ => ?_
  subst he
  exact ⟨_, rfl, law_post laid_out rfl (by rw [Try.params9]; intro t ht; simp at ht; (first | (subst ht; exact ⟨by kernel_rfl, of_decide_eq_true (by kernel_rfl)⟩) | (rcases ht with rfl | rfl <;> exact ⟨by kernel_rfl, of_decide_eq_true (by kernel_rfl)⟩) | (rcases ht with rfl | rfl | rfl <;> exact ⟨by kernel_rfl, of_decide_eq_true (by kernel_rfl)⟩))) (by kernel_rfl) Try.underlying4 hW' rfl hc.below⟩

theorem graphsPair_holds : Rows.GraphsPairSaid :=
  OpenClaim.holds_of_wide 9 Try.f9 rfl rfl rfl rfl rfl rfl rfl ⟨rfl, rfl, rfl, rfl, rfl⟩ rfl rfl rfl rfl rfl (by kernel_rfl) Try.func9 (by kernel_rfl)
    (of_decide_eq_true (by kernel_rfl)) (by unfold Func.isWrapper; rw [if_neg (of_decide_eq_false (by kernel_rfl))]; exact ⟨rfl, rfl⟩)
    (fun os started H enc _ => graphsPair_lifted os started H enc)
#print axioms graphsPair_holds
end Go.Proofs.Ytfpdkeokdojejaa
