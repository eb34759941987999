/-
  What a row asks of the program alone, each fact by itself (together they take more memory than there is).
-/
import Derived.Test.YtofnaigkfhfhoaaRow
namespace Go.Proofs.Ytofnaigkfhfhoaa
open Go.ChangeShapes Go.WideShapes Go.ChangeAt Go.RowKit Go.Joins Go.Deep

theorem prog_enter : Try.prog.mayEnter = true := by kernel_rfl
theorem prog_lifts : Try.prog.liftsFinal = false := by kernel_rfl
theorem prog_make : (Try.prog.make == some Make.cut) = true := by kernel_rfl
theorem prog_heard : Try.prog.stopsHeard = true := by kernel_rfl
theorem prog_rows : mapsRowed Try.prog = true := by kernel_rfl
theorem prog_stops : (Try.prog.stops == []) = true ∧ (Try.prog.stopKnobs == []) = true := ⟨by kernel_rfl, by kernel_rfl⟩

set_option maxRecDepth 100000 in
/-- The closed facts of a law's row. -/
theorem joined_of {f : FuncId} {fn : Func} {s : ChangeSpec} {c : OpenClaim}
    (k1 : (c.wf (OpenSpec.ofChange s)) = true) (k2 : (fn.params.all (Try.prog.readableRec ·) && namedTie Try.prog c.named s.vars && (c.stops == [])) = true) (k3 : (c.knobs == []) = true)
    (k4 : (c.inPlace == Try.prog.inPlace f) = true) (k5 : (c.unfollowed == Try.prog.unfollowed f) = true) (k6 : (c.recurses == Try.prog.recurses f) = true) (k7 : (c.named == Try.prog.varsNamed f) = true)
    (k8 : ((c.maps == (fn.params.toList ++ s.plain.varTypes Try.prog).any (Try.prog.mapsRec ·)) && (c.ifaces == (fn.params.toList ++ s.plain.varTypes Try.prog).any (Try.prog.ifacesRec ·)) && (c.mapsOut == Try.prog.mapsAmong fn.resultTypes.toList) &&
      (c.loops == (fn.params.toList ++ s.plain.varTypes Try.prog).any (Try.prog.loopsFrom ·)) && (c.wideKeys == (fn.params.toList ++ s.plain.varTypes Try.prog ++ fn.resultTypes.toList).any (Try.prog.wideKeysFrom ·)) &&
      s.vars.all (Try.prog.varReadable ·) && fn.resultTypes.all (fun t => Try.prog.readableRec t && decide (t < Try.prog.types.size)) && (c.ifacesOut == fn.resultTypes.toList.any (Try.prog.ifacesRec ·)) && (c.loopsOut == fn.resultTypes.toList.any (Try.prog.loopsFrom ·)) && (c.plainKeys == Try.prog.plainKeys) && c.shortTexts.isNone) = true)
    (hl : c.lifted = false) (hm : c.make = .cut)
    (k9 : ((c.kinds == (if c.domain.isEmpty then [] else fn.params.toList.map fun t => match Try.prog.underlying t with | some (.int k) => some k | _ => none)) && (c.pinned == c.pinnedBy) &&
      (c.veiled == (fn.params.toList ++ s.plain.varTypes Try.prog ++ fn.resultTypes.toList).any (Try.prog.veiledRec ·)) && c.veiledFits Try.prog fn.params.toList (fn.params.toList ++ s.plain.varTypes Try.prog ++ fn.resultTypes.toList)) = true) :
    joinedFacts Try.prog f fn s c = true := by
  have m : (Try.prog.make == some c.make) = true := by rw [hm]; exact prog_make
  have l : (c.lifted == Try.prog.liftsFinal) = true := by rw [hl, prog_lifts]; rfl
  have q1 := prog_enter
  have q2 := prog_heard
  have q3 := prog_rows
  obtain ⟨q4, q5⟩ := prog_stops
  have q6 := laid_out
  unfold joinedFacts
  simp only [Bool.and_eq_true] at k2 k8 k9 ⊢
  obtain ⟨⟨a1, a2⟩, a3⟩ := k2
  obtain ⟨⟨⟨⟨⟨⟨⟨⟨⟨⟨b1, b2⟩, b3⟩, b4⟩, b5⟩, b6⟩, b7⟩, b8⟩, b9⟩, b10⟩, b11⟩ := k8
  obtain ⟨⟨⟨c1, c2⟩, c3⟩, c4⟩ := k9
  exact ⟨⟨⟨⟨⟨⟨⟨⟨⟨⟨⟨⟨⟨⟨⟨⟨⟨⟨⟨⟨⟨⟨⟨⟨⟨⟨⟨⟨⟨⟨⟨k1, q6⟩, q3⟩, a1⟩, a2⟩, a3⟩, q4⟩, k3⟩, q5⟩, k4⟩, k5⟩, k6⟩, k7⟩, b1⟩, b2⟩, b3⟩, b4⟩, b5⟩, b6⟩, b7⟩, b8⟩, b9⟩, b10⟩, b11⟩, q2⟩, q1⟩, l⟩, m⟩, c1⟩, c2⟩, c3⟩, c4⟩
end Go.Proofs.Ytofnaigkfhfhoaa
