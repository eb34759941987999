/-
  The statement GraphsVoid: a graph that is not there, or that no call made, has nothing and takes nothing, whatever push is asked of it. No condition.
-/
import Derived.Test.YtfpdkeokdojejaaRow
import Derived.Test.YtfpdkeokdojejaaGraphsVoid
namespace Go.Proofs.Ytfpdkeokdojejaa
open Go.ChangeShapes Go.WideShapes Go.ChangeAt Go.RowKit Go.Joins Go.Deep

theorem cells_Flow : Try.prog.cellsOf 35 = 3 := by kernel_rfl

set_option maxRecDepth 100000 in
theorem graphsVoid_lifted (os : Os) (started : os.Started) (H : Type) (enc : TypeId × Value → H) :
    ReturnsInHanded {} Try.checked os 4 .any (Rows.graphsVoidSpec.pre6 enc Try.prog Try.f4 Rows.graphsVoidRow.domain false) (Rows.graphsVoidSpec.post enc Try.prog Try.f4 false true false false) := by
  refine returnsInHanded_of_change (C := Try.checked) own_knob started (by kernel_rfl) Try.func4
    (ChangeSpec.witness6 (enc := enc) (C := Try.checked) false ⟨#[], #[.agg #[.int .u8 0, .int .u8 0, .int .i64 0]], []⟩ 8 (by kernel_rfl) (by kernel_rfl) (by kernel_rfl) (by kernel_rfl)) ?_
  intro W base args ds gs before hval0 hW hcnd _
  have hval : ∀ (j : Nat) t v, Try.f4.params[j]? = some t → args[j]? = some v → Value.okWide Try.prog W .any base t v := hval0
  have hW' := hW
  obtain ⟨p, q, hA0, hV, hpq, hfz, hnd⟩ := hW
  have hA : DataW.TrodAll enc Try.prog W 0 (fun _ => true) true Try.f4.params.toList args.toList ds p := hA0
  rw [Try.params4] at hA hval
  obtain ⟨v0, d0, rfl, rfl, h0⟩ := trodAll_one hA
  obtain ⟨c0, c1, c2, y0, y1, y2, m, rfl, rfl, _, g0, g1, g2⟩ := open_agg3 Try.underlying35 (by kernel_rfl) cells_Flow (hval 0 35 v0 rfl rfl) h0
  obtain ⟨f, e0, _, _⟩ := DataW.trod_int Try.underlying33 g0
  obtain ⟨t, e1, _, _⟩ := DataW.trod_int Try.underlying33 g1
  obtain ⟨n, e2, _, _⟩ := DataW.trod_int Try.underlying2 g2
  simp only [List.cons.injEq, and_true] at e0 e1 e2
  subst e0 e1 e2
  refine (graphsVoid_walk W f t n).mono fun e W' ⟨he, hc⟩ => ?_
  subst he
  exact ⟨_, rfl, law_post laid_out rfl (by rw [Try.params4]; intro t ht; simp at ht; subst ht; exact ⟨by kernel_rfl, of_decide_eq_true (by kernel_rfl)⟩) (by kernel_rfl) Try.underlying4 hW' rfl hc.below⟩

theorem graphsVoid_holds : Rows.GraphsVoidSaid :=
  OpenClaim.holds_of_wide 4 Try.f4 rfl rfl rfl rfl rfl rfl rfl ⟨rfl, rfl, rfl, rfl, rfl⟩ rfl rfl rfl rfl rfl (by kernel_rfl) Try.func4 (by kernel_rfl)
    (of_decide_eq_true (by kernel_rfl)) (by unfold Func.isWrapper; rw [if_neg (of_decide_eq_false (by kernel_rfl))]; exact ⟨rfl, rfl⟩)
    (fun os started H enc _ => graphsVoid_lifted os started H enc)
#print axioms graphsVoid_holds
end Go.Proofs.Ytfpdkeokdojejaa
