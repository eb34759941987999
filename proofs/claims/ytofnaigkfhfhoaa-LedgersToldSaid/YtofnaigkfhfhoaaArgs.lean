/-
  Arguments that are lists of flows.
-/
import Derived.Test.YtofnaigkfhfhoaaRow
import Derived.Test.YtofnaigkfhfhoaaNewB
import Derived.ChangeSame
namespace Go.Proofs.Ytofnaigkfhfhoaa
open Go.ChangeShapes Go.WideShapes Go.ChangeAt Go.RowKit Go.Joins Go.Deep Pl

section
variable {H : Type} {enc : TypeId × Value → H} {w : World} {base : Nat} {spare : Nat → Bool} {held : Bool}
theorem len3 {α : Type} : ∀ {l : List α}, l.length = 3 → ∃ a b c, l = [a, b, c]
  | [a, b, c], _ => ⟨a, b, c, rfl⟩
theorem trod_three {P : Program} {t : TypeId} {f0 f1 f2 : Field} {n : Nat} {cs : List Value} {x : DataW H × List MemPlace} (hs : P.underlying t = some (.struct #[f0, f1, f2])) (hone : oneCellFields P #[f0, f1, f2] = true) (hC : P.cellsOf t = 3) (h : DataW.trod enc P w base spare held n t cs = some x) :
    ∃ c0 c1 c2 y0 y1 y2 m, cs = [c0, c1, c2] ∧ DataW.trod enc P w base spare held m f0.type [c0] = some y0 ∧ DataW.trod enc P w base spare held m f1.type [c1] = some y1 ∧ DataW.trod enc P w base spare held m f2.type [c2] = some y2 := by
  obtain ⟨xs, m, _, _, hl, hxl, hg⟩ := DataW.trod_struct hs h
  rw [hC] at hl
  obtain ⟨c0, c1, c2, rfl⟩ := len3 hl
  obtain ⟨y0, y1, y2, rfl⟩ := len3 hxl
  have q0 := hg 0 f0 rfl
  have q1 := hg 1 f1 rfl
  have q2 := hg 2 f2 rfl
  obtain ⟨o0, k0⟩ := hone_of hone 0 f0 rfl
  obtain ⟨o1, k1⟩ := hone_of hone 1 f1 rfl
  obtain ⟨o2, k2⟩ := hone_of hone 2 f2 rfl
  rw [o0, k0] at q0
  rw [o1, k1] at q1
  rw [o2, k2] at q2
  exact ⟨c0, c1, c2, y0, y1, y2, m, rfl, q0, q1, q2⟩
theorem flow_cells {n : Nat} {cs : List Value} {x : DataW H × List MemPlace} (h : DataW.trod enc Try.prog w base spare held n 114 cs = some x) : ∃ y : Fl, cs = flCells y := by
  obtain ⟨c0, c1, c2, y0, y1, y2, m, rfl, q0, q1, q2⟩ := trod_three Try.underlying114 (by kernel_rfl) (by kernel_rfl) h
  obtain ⟨a, e0, _, ha⟩ := DataW.trod_int Try.underlying22 q0
  obtain ⟨b, e1, _, hb⟩ := DataW.trod_int Try.underlying22 q1
  obtain ⟨c, e2, _, _⟩ := DataW.trod_int Try.underlying2 q2
  simp only [List.cons.injEq, and_true] at e0 e1 e2
  subst e0 e1 e2
  have ha' : 0 ≤ a := by
    simp only [Lit.wf, Bool.and_eq_true, decide_eq_true_eq] at ha
    exact ha.1
  have hb' : 0 ≤ b := by
    simp only [Lit.wf, Bool.and_eq_true, decide_eq_true_eq] at hb
    exact hb.1
  exact ⟨⟨a.toNat, b.toNat, c⟩, by simp [flCells, Int.toNat_of_nonneg ha', Int.toNat_of_nonneg hb']⟩

theorem slice_at {P : Program} {t e : TypeId} {r : Reach} {b0 : Nat} {v : Value} {d : DataW H} {p : List MemPlace} (ht : P.underlying t = some (.slice e)) (hv : Value.okWide P w r b0 t v) (h : DataW.Trod enc P w base spare held t v d p) :
    v = .slice none 0 0 ∨ ∃ (a : Addr) (len cap n : Nat) (D : Nat → DataW H) (Pl : Nat → List MemPlace), v = .slice (some a) len cap ∧ len ≤ cap ∧
      ∀ i, i < len → ∃ cs', w.cells? base (a.add (i * P.cellsOf e)) (P.cellsOf e) = some cs' ∧ DataW.trod enc P w base spare held n e cs' = some (D i, Pl i) := by
  obtain ⟨a0, len0, cap0, rfl⟩ := okWide_slice ht hv
  obtain ⟨fuel, hf⟩ := h
  rcases open_slice ht hf with ⟨h0, _⟩ | ⟨a, len, cap, m, n, D, Pl, hcs, hb, hl, hm, hmm, hx, hi⟩
  · exact .inl (by simpa [Value.cells] using h0)
  · refine .inr ⟨a, len, cap, n, D, Pl, by simpa [Value.cells] using hcs, hl, fun i hil => hi i ?_⟩
    rw [hmm]; split <;> omega

set_option maxRecDepth 20000 in
/-- An argument that is a list of flows reads as one. -/
theorem open_flows {r : Reach} {b0 : Nat} {v : Value} {d : DataW H} {p : List MemPlace} (hv : Value.okWide Try.prog w r b0 43 v) (h : DataW.Trod enc Try.prog w base spare held 43 v d p) : ∃ l, RdFl w v l := by
  rcases slice_at Try.underlying43 hv h with rfl | ⟨a, len, cap, n, D, Pl, rfl, hl, hi⟩
  · exact ⟨[], .inl ⟨rfl, _, _, rfl, fun _ => rfl⟩⟩
  · have hc : Try.prog.cellsOf 114 = 3 := by kernel_rfl
    by_cases hz : len = 0
    · subst hz
      exact ⟨[], .inl ⟨rfl, _, _, rfl, fun e => by cases e⟩⟩
    have hat : ∀ i, i < len → ∃ y : Fl, w.cell? (a.add (i * 3)) = some (.int .u8 y.f) ∧ w.cell? (a.add (i * 3 + 1)) = some (.int .u8 y.t) ∧ w.cell? (a.add (i * 3 + 2)) = some (.int .i64 y.n) := by
      intro i hil
      obtain ⟨cs', h1, h2⟩ := hi i hil
      obtain ⟨y, rfl⟩ := flow_cells h2
      rw [hc] at h1
      obtain ⟨_, _, hcell⟩ := World.cells?_some h1
      refine ⟨y, ?_, ?_, ?_⟩
      · have := hcell 0 (by omega); rw [add_add] at this; exact this
      · have := hcell 1 (by omega); rw [add_add] at this; exact this
      · have := hcell 2 (by omega); rw [add_add] at this; exact this
    have hspot : a.spot = none := by
      obtain ⟨y, h1, _⟩ := hat 0 (by omega)
      rw [Nat.zero_mul] at h1
      cases hsp : a.spot with
      | none => rfl
      | some z =>
        unfold World.cell? at h1
        rw [show a.add 0 = a from rfl] at h1
        split at h1
        · rw [hsp] at h1; simp at h1
        · cases h1
    obtain ⟨g, off, spot⟩ := a
    dsimp only at hspot
    subst hspot
    have hch : ∃ f : Nat → Fl, ∀ i, i < len → w.cell? ((⟨g, off, none⟩ : Addr).add (i * 3)) = some (.int .u8 (f i).f) ∧ w.cell? ((⟨g, off, none⟩ : Addr).add (i * 3 + 1)) = some (.int .u8 (f i).t) ∧ w.cell? ((⟨g, off, none⟩ : Addr).add (i * 3 + 2)) = some (.int .i64 (f i).n) := by
      haveI : Inhabited Fl := ⟨⟨0, 0, 0⟩⟩
      exact choose_lt hat
    obtain ⟨f, hf⟩ := hch
    refine ⟨(List.range len).map f, .inr ⟨g, off, cap, by simp, by simpa using hl, fun k hk => ?_⟩⟩
    have hk' : k < len := by simpa using hk
    obtain ⟨h1, h2, h3⟩ := hf k hk'
    rw [add_at] at h1 h2 h3
    simp only [List.getElem_map, List.getElem_range]
    rw [← Nat.add_assoc] at h2 h3
    exact ⟨h1, h2, h3⟩
end
end Go.Proofs.Ytofnaigkfhfhoaa
