/-
  Arguments that are lists of flows.
  Arguments that are lists of acts; lists of flows, with their bounds.
  Small facts on literals: what kind bounds them.
-/
import Derived.Test.YtofnaigkfhfhoaaRow
import Derived.Test.YtofnaigkfhfhoaaNewB
import Derived.ChangeSame
import Derived.Test.YtofnaigkfhfhoaaLMade
namespace Go.Proofs.Ytofnaigkfhfhoaa
open Go.ChangeShapes Go.WideShapes Go.ChangeAt Go.RowKit Go.Joins Go.Deep Pl

section
variable {H : Type} {enc : TypeId × Value → H} {w : World} {base : Nat} {spare : Nat → Bool} {held : Bool}
theorem len3 {α : Type} : ∀ {l : List α}, l.length = 3 → ∃ a b c, l = [a, b, c]
  | [a, b, c], _ => ⟨a, b, c, rfl⟩
theorem trod_three {P : Program} {t : TypeId} {f0 f1 f2 : Field} {n : Nat} {cs : List Value} {x : DataW H × List MemPlace} (hs : P.underlying t = some (.struct #[f0, f1, f2])) (hone : oneCellFields P #[f0, f1, f2] = true) (hC : P.cellsOf t = 3) (h : DataW.trod enc P w base spare held n t cs = some x) :
    ∃ c0 c1 c2 y0 y1 y2 m, cs = [c0, c1, c2] ∧ DataW.trod enc P w base spare held m f0.type [c0] = some y0 ∧ DataW.trod enc P w base spare held m f1.type [c1] = some y1 ∧ DataW.trod enc P w base spare held m f2.type [c2] = some y2 := by
  obtain ⟨xs, m, _, _, hl, hxl, hg⟩ := DataW.trod_struct hs h
  rw [hC] at hl
  obtain ⟨c0, c1, c2, rfl⟩ := len3 hl
  obtain ⟨y0, y1, y2, rfl⟩ := len3 hxl
  have q0 := hg 0 f0 rfl
  have q1 := hg 1 f1 rfl
  have q2 := hg 2 f2 rfl
  obtain ⟨o0, k0⟩ := hone_of hone 0 f0 rfl
  obtain ⟨o1, k1⟩ := hone_of hone 1 f1 rfl
  obtain ⟨o2, k2⟩ := hone_of hone 2 f2 rfl
  rw [o0, k0] at q0
  rw [o1, k1] at q1
  rw [o2, k2] at q2
  exact ⟨c0, c1, c2, y0, y1, y2, m, rfl, q0, q1, q2⟩
theorem flow_cells {n : Nat} {cs : List Value} {x : DataW H × List MemPlace} (h : DataW.trod enc Try.prog w base spare held n 114 cs = some x) : ∃ y : Fl, cs = flCells y := by
  obtain ⟨c0, c1, c2, y0, y1, y2, m, rfl, q0, q1, q2⟩ := trod_three Try.underlying114 (by kernel_rfl) (by kernel_rfl) h
  obtain ⟨a, e0, _, ha⟩ := DataW.trod_int Try.underlying22 q0
  obtain ⟨b, e1, _, hb⟩ := DataW.trod_int Try.underlying22 q1
  obtain ⟨c, e2, _, _⟩ := DataW.trod_int Try.underlying2 q2
  simp only [List.cons.injEq, and_true] at e0 e1 e2
  subst e0 e1 e2
  have ha' : 0 ≤ a := by
    simp only [Lit.wf, Bool.and_eq_true, decide_eq_true_eq] at ha
    exact ha.1
  have hb' : 0 ≤ b := by
    simp only [Lit.wf, Bool.and_eq_true, decide_eq_true_eq] at hb
    exact hb.1
  exact ⟨⟨a.toNat, b.toNat, c⟩, by simp [flCells, Int.toNat_of_nonneg ha', Int.toNat_of_nonneg hb']⟩

theorem slice_at {P : Program} {t e : TypeId} {r : Reach} {b0 : Nat} {v : Value} {d : DataW H} {p : List MemPlace} (ht : P.underlying t = some (.slice e)) (hv : Value.okWide P w r b0 t v) (h : DataW.Trod enc P w base spare held t v d p) :
    v = .slice none 0 0 ∨ ∃ (a : Addr) (len cap n : Nat) (D : Nat → DataW H) (Pl : Nat → List MemPlace), v = .slice (some a) len cap ∧ len ≤ cap ∧
      ∀ i, i < len → ∃ cs', w.cells? base (a.add (i * P.cellsOf e)) (P.cellsOf e) = some cs' ∧ DataW.trod enc P w base spare held n e cs' = some (D i, Pl i) := by
  obtain ⟨a0, len0, cap0, rfl⟩ := okWide_slice ht hv
  obtain ⟨fuel, hf⟩ := h
  rcases open_slice ht hf with ⟨h0, _⟩ | ⟨a, len, cap, m, n, D, Pl, hcs, hb, hl, hm, hmm, hx, hi⟩
  · exact .inl (by simpa [Value.cells] using h0)
  · refine .inr ⟨a, len, cap, n, D, Pl, by simpa [Value.cells] using hcs, hl, fun i hil => hi i ?_⟩
    rw [hmm]; split <;> omega

set_option maxRecDepth 20000 in
/-- An argument that is a list of flows reads as one. -/
theorem open_flows {r : Reach} {b0 : Nat} {v : Value} {d : DataW H} {p : List MemPlace} (hv : Value.okWide Try.prog w r b0 43 v) (h : DataW.Trod enc Try.prog w base spare held 43 v d p) : ∃ l, RdFl w v l := by
  rcases slice_at Try.underlying43 hv h with rfl | ⟨a, len, cap, n, D, Pl, rfl, hl, hi⟩
  · exact ⟨[], .inl ⟨rfl, _, _, rfl, fun _ => rfl⟩⟩
  · have hc : Try.prog.cellsOf 114 = 3 := by kernel_rfl
    by_cases hz : len = 0
    · subst hz
      exact ⟨[], .inl ⟨rfl, _, _, rfl, fun e => by cases e⟩⟩
    have hat : ∀ i, i < len → ∃ y : Fl, w.cell? (a.add (i * 3)) = some (.int .u8 y.f) ∧ w.cell? (a.add (i * 3 + 1)) = some (.int .u8 y.t) ∧ w.cell? (a.add (i * 3 + 2)) = some (.int .i64 y.n) := by
      intro i hil
      obtain ⟨cs', h1, h2⟩ := hi i hil
      obtain ⟨y, rfl⟩ := flow_cells h2
      rw [hc] at h1
      obtain ⟨_, _, hcell⟩ := World.cells?_some h1
      refine ⟨y, ?_, ?_, ?_⟩
      · have := hcell 0 (by omega); rw [add_add] at this; exact this
      · have := hcell 1 (by omega); rw [add_add] at this; exact this
      · have := hcell 2 (by omega); rw [add_add] at this; exact this
    have hspot : a.spot = none := by
      obtain ⟨y, h1, _⟩ := hat 0 (by omega)
      rw [Nat.zero_mul] at h1
      cases hsp : a.spot with
      | none => rfl
      | some z =>
        unfold World.cell? at h1
        rw [show a.add 0 = a from rfl] at h1
        split at h1
        · rw [hsp] at h1; simp at h1
        · cases h1
    obtain ⟨g, off, spot⟩ := a
    dsimp only at hspot
    subst hspot
    have hch : ∃ f : Nat → Fl, ∀ i, i < len → w.cell? ((⟨g, off, none⟩ : Addr).add (i * 3)) = some (.int .u8 (f i).f) ∧ w.cell? ((⟨g, off, none⟩ : Addr).add (i * 3 + 1)) = some (.int .u8 (f i).t) ∧ w.cell? ((⟨g, off, none⟩ : Addr).add (i * 3 + 2)) = some (.int .i64 (f i).n) := by
      haveI : Inhabited Fl := ⟨⟨0, 0, 0⟩⟩
      exact choose_lt hat
    obtain ⟨f, hf⟩ := hch
    refine ⟨(List.range len).map f, .inr ⟨g, off, cap, by simp, by simpa using hl, fun k hk => ?_⟩⟩
    have hk' : k < len := by simpa using hk
    obtain ⟨h1, h2, h3⟩ := hf k hk'
    rw [add_at] at h1 h2 h3
    simp only [List.getElem_map, List.getElem_range]
    rw [← Nat.add_assoc] at h2 h3
    exact ⟨h1, h2, h3⟩
end
end Go.Proofs.Ytofnaigkfhfhoaa
namespace Go.Proofs.Ytofnaigkfhfhoaa
open Go.ChangeShapes Go.WideShapes Go.ChangeAt Go.RowKit Go.Joins Go.Deep Pl

section
variable {H : Type} {enc : TypeId × Value → H} {w : World} {base : Nat} {spare : Nat → Bool} {held : Bool}
theorem len5 {α : Type} : ∀ {l : List α}, l.length = 5 → ∃ a b c d e, l = [a, b, c, d, e]
  | [a, b, c, d, e], _ => ⟨a, b, c, d, e, rfl⟩
theorem trod_five {P : Program} {t : TypeId} {f0 f1 f2 f3 f4 : Field} {n : Nat} {cs : List Value} {x : DataW H × List MemPlace} (hs : P.underlying t = some (.struct #[f0, f1, f2, f3, f4])) (hone : oneCellFields P #[f0, f1, f2, f3, f4] = true) (hC : P.cellsOf t = 5) (h : DataW.trod enc P w base spare held n t cs = some x) :
    ∃ c0 c1 c2 c3 c4 y0 y1 y2 y3 y4 m, cs = [c0, c1, c2, c3, c4] ∧ DataW.trod enc P w base spare held m f0.type [c0] = some y0 ∧ DataW.trod enc P w base spare held m f1.type [c1] = some y1 ∧ DataW.trod enc P w base spare held m f2.type [c2] = some y2 ∧ DataW.trod enc P w base spare held m f3.type [c3] = some y3 ∧ DataW.trod enc P w base spare held m f4.type [c4] = some y4 := by
  obtain ⟨xs, m, _, _, hl, hxl, hg⟩ := DataW.trod_struct hs h
  rw [hC] at hl
  obtain ⟨c0, c1, c2, c3, c4, rfl⟩ := len5 hl
  obtain ⟨y0, y1, y2, y3, y4, rfl⟩ := len5 hxl
  have q0 := hg 0 f0 rfl
  have q1 := hg 1 f1 rfl
  have q2 := hg 2 f2 rfl
  have q3 := hg 3 f3 rfl
  have q4 := hg 4 f4 rfl
  obtain ⟨o0, k0⟩ := hone_of hone 0 f0 rfl
  obtain ⟨o1, k1⟩ := hone_of hone 1 f1 rfl
  obtain ⟨o2, k2⟩ := hone_of hone 2 f2 rfl
  obtain ⟨o3, k3⟩ := hone_of hone 3 f3 rfl
  obtain ⟨o4, k4⟩ := hone_of hone 4 f4 rfl
  rw [o0, k0] at q0
  rw [o1, k1] at q1
  rw [o2, k2] at q2
  rw [o3, k3] at q3
  rw [o4, k4] at q4
  exact ⟨c0, c1, c2, c3, c4, y0, y1, y2, y3, y4, m, rfl, q0, q1, q2, q3, q4⟩

theorem open_five {P : Program} {r : Reach} {b0 : Nat} {t : TypeId} {f0 f1 f2 f3 f4 : Field} {v : Value} {d : DataW H} {p : List MemPlace} (hs : P.underlying t = some (.struct #[f0, f1, f2, f3, f4])) (hone : oneCellFields P #[f0, f1, f2, f3, f4] = true) (hC : P.cellsOf t = 5) (hv : Value.okWide P w r b0 t v) (h : DataW.Trod enc P w base spare held t v d p) :
    ∃ c0 c1 c2 c3 c4 y0 y1 y2 y3 y4 m, v = .agg #[c0, c1, c2, c3, c4] ∧ DataW.trod enc P w base spare held m f0.type [c0] = some y0 ∧ DataW.trod enc P w base spare held m f1.type [c1] = some y1 ∧ DataW.trod enc P w base spare held m f2.type [c2] = some y2 ∧ DataW.trod enc P w base spare held m f3.type [c3] = some y3 ∧ DataW.trod enc P w base spare held m f4.type [c4] = some y4 := by
  obtain ⟨cs, rfl, _⟩ := okWide_struct hs hv
  obtain ⟨fuel, hf⟩ := h
  obtain ⟨c0, c1, c2, c3, c4, y0, y1, y2, y3, y4, m, e, hr⟩ := trod_five hs hone hC hf
  obtain ⟨l⟩ := cs
  have e : l = [c0, c1, c2, c3, c4] := e
  subst e
  exact ⟨c0, c1, c2, c3, c4, y0, y1, y2, y3, y4, m, rfl, hr⟩

theorem lit_nat {x : Int} (h : (Lit.int .u8 x).wf = true) : ∃ n : Nat, x = (n : Int) ∧ n < 256 := by
  simp only [Lit.wf, Bool.and_eq_true, decide_eq_true_eq] at h
  have h1 : (0 : Int) ≤ x := h.1
  have h2 : x ≤ 255 := h.2
  exact ⟨x.toNat, by omega, by omega⟩

/-- A flow's cells, with the bounds of its ends. -/
theorem flow_cells2 {n : Nat} {cs : List Value} {x : DataW H × List MemPlace} (h : DataW.trod enc Try.prog w base spare held n 114 cs = some x) : ∃ y : Fl, cs = flCells y ∧ y.f < 256 ∧ y.t < 256 := by
  obtain ⟨c0, c1, c2, y0, y1, y2, m, rfl, q0, q1, q2⟩ := trod_three Try.underlying114 (by kernel_rfl) (by kernel_rfl) h
  obtain ⟨a, e0, _, ha⟩ := DataW.trod_int Try.underlying22 q0
  obtain ⟨b, e1, _, hb⟩ := DataW.trod_int Try.underlying22 q1
  obtain ⟨c, e2, _, _⟩ := DataW.trod_int Try.underlying2 q2
  simp only [List.cons.injEq, and_true] at e0 e1 e2
  subst e0 e1 e2
  obtain ⟨a, rfl, ha'⟩ := lit_nat ha
  obtain ⟨b, rfl, hb'⟩ := lit_nat hb
  exact ⟨⟨a, b, c⟩, rfl, ha', hb'⟩

def actCells (x : Deed) : List Value := [.int .u8 x.k, .int .u8 x.a, .int .u8 x.b, .int .u8 x.c, .int .i64 x.n]
theorem act_cells {n : Nat} {cs : List Value} {x : DataW H × List MemPlace} (h : DataW.trod enc Try.prog w base spare held n 57 cs = some x) : ∃ y : Deed, cs = actCells y ∧ y.small := by
  obtain ⟨c0, c1, c2, c3, c4, y0, y1, y2, y3, y4, m, rfl, q0, q1, q2, q3, q4⟩ := trod_five Try.underlying57 (by kernel_rfl) (by kernel_rfl) h
  obtain ⟨k, e0, _, hk⟩ := DataW.trod_int Try.underlying5 q0
  obtain ⟨a, e1, _, ha⟩ := DataW.trod_int Try.underlying22 q1
  obtain ⟨b, e2, _, hb⟩ := DataW.trod_int Try.underlying22 q2
  obtain ⟨c, e3, _, hc⟩ := DataW.trod_int Try.underlying23 q3
  obtain ⟨n, e4, _, _⟩ := DataW.trod_int Try.underlying2 q4
  simp only [List.cons.injEq, and_true] at e0 e1 e2 e3 e4
  subst e0 e1 e2 e3 e4
  obtain ⟨k, rfl, hk'⟩ := lit_nat hk
  obtain ⟨a, rfl, ha'⟩ := lit_nat ha
  obtain ⟨b, rfl, hb'⟩ := lit_nat hb
  obtain ⟨c, rfl, hc'⟩ := lit_nat hc
  exact ⟨⟨k, a, b, c, n⟩, rfl, hk', ha', hb', hc'⟩

/-- An argument that is a list of rows of k cells reads as one. -/
theorem open_rows {P : Program} {Y : Type} {t e : TypeId} {k : Nat} {cells : Y → List Value} {ok : Y → Prop} (hk : 0 < k) (hlen : ∀ y, (cells y).length = k) (ht : P.underlying t = some (.slice e)) (hc : P.cellsOf e = k)
    (dec : ∀ n cs x, DataW.trod enc P w base spare held n e cs = some x → ∃ y, cs = cells y ∧ ok y) {r : Reach} {b0 : Nat} {v : Value} {d : DataW H} {p : List MemPlace} (hv : Value.okWide P w r b0 t v) (h : DataW.Trod enc P w base spare held t v d p) :
    ∃ l : List Y, (l = [] ∧ ∃ ao cap, v = .slice ao 0 cap ∧ (ao = none → cap = 0)) ∨
      ∃ g off cap, v = .slice (some ⟨g, off, none⟩) l.length cap ∧ l.length ≤ cap ∧ ∀ i (hi : i < l.length), ok l[i] ∧ ∀ j u, (cells l[i])[j]? = some u → w.cell? ⟨g, off + i * k + j, none⟩ = some u := by
  rcases slice_at ht hv h with rfl | ⟨a, len, cap, n, D, Pl, rfl, hl, hi⟩
  · exact ⟨[], .inl ⟨rfl, _, _, rfl, fun _ => rfl⟩⟩
  by_cases hz : len = 0
  · subst hz
    exact ⟨[], .inl ⟨rfl, _, _, rfl, fun e => by cases e⟩⟩
  have hat : ∀ i, i < len → ∃ y : Y, ok y ∧ ∀ j u, (cells y)[j]? = some u → w.cell? (a.add (i * k + j)) = some u := by
    intro i hil
    obtain ⟨cs', h1, h2⟩ := hi i hil
    obtain ⟨y, rfl, hy⟩ := dec _ _ _ h2
    rw [hc] at h1
    obtain ⟨_, _, hcell⟩ := World.cells?_some h1
    refine ⟨y, hy, fun j u hu => ?_⟩
    have hj : j < k := by
      have := (List.getElem?_eq_some_iff.1 hu).1
      rw [hlen] at this
      exact this
    have := hcell j hj
    rw [add_add] at this
    rw [this, hu]
  obtain ⟨y0, hy0, hc0⟩ := hat 0 (by omega)
  have hspot : a.spot = none := by
    have h0 : 0 < (cells y0).length := by rw [hlen]; exact hk
    have h1 := hc0 0 _ (List.getElem?_eq_getElem h0)
    rw [Nat.zero_mul] at h1
    cases hsp : a.spot with
    | none => rfl
    | some z =>
      unfold World.cell? at h1
      rw [show a.add (0 + 0) = a from rfl] at h1
      split at h1
      · rw [hsp] at h1; simp at h1
      · cases h1
  obtain ⟨g, off, spot⟩ := a
  dsimp only at hspot
  subst hspot
  haveI : Inhabited Y := ⟨y0⟩
  obtain ⟨f, hf⟩ := choose_lt hat
  refine ⟨(List.range len).map f, .inr ⟨g, off, cap, by simp, by simpa using hl, fun i hi => ?_⟩⟩
  have hi' : i < len := by simpa using hi
  obtain ⟨h1, h2⟩ := hf i hi'
  simp only [List.getElem_map, List.getElem_range]
  refine ⟨h1, fun j u hu => ?_⟩
  have := h2 j u hu
  rw [add_at, ← Nat.add_assoc] at this
  exact this

set_option maxRecDepth 20000 in
theorem open_acts {r : Reach} {b0 : Nat} {v : Value} {d : DataW H} {p : List MemPlace} (hv : Value.okWide Try.prog w r b0 38 v) (h : DataW.Trod enc Try.prog w base spare held 38 v d p) : ∃ l, RdAct w v l := by
  obtain ⟨l, h0 | ⟨g, off, cap, rfl, hn, hc⟩⟩ := open_rows (k := 5) (cells := actCells) (ok := Deed.small) (by omega) (fun _ => rfl) Try.underlying38 (by kernel_rfl) (fun _ _ _ h => act_cells h) hv h
  · exact ⟨l, .inl h0⟩
  · refine ⟨l, .inr ⟨g, off, cap, rfl, hn, fun i hi => ?_⟩⟩
    obtain ⟨h1, h2⟩ := hc i hi
    exact ⟨h1, h2 0 _ rfl, h2 1 _ rfl, h2 2 _ rfl, h2 3 _ rfl, h2 4 _ rfl⟩
set_option maxRecDepth 20000 in
theorem open_flows2 {r : Reach} {b0 : Nat} {v : Value} {d : DataW H} {p : List MemPlace} (hv : Value.okWide Try.prog w r b0 43 v) (h : DataW.Trod enc Try.prog w base spare held 43 v d p) : ∃ l, RdFl w v l ∧ ∀ x ∈ l, x.f < 256 ∧ x.t < 256 := by
  obtain ⟨l, h0 | ⟨g, off, cap, rfl, hn, hc⟩⟩ := open_rows (k := 3) (cells := flCells) (ok := fun x : Fl => x.f < 256 ∧ x.t < 256) (by omega) (fun _ => rfl) Try.underlying43 (by kernel_rfl) (fun _ _ _ h => flow_cells2 h) hv h
  · exact ⟨l, .inl h0, by rw [h0.1]; simp⟩
  · refine ⟨l, .inr ⟨g, off, cap, rfl, hn, fun i hi => ?_⟩, fun x hx => ?_⟩
    · obtain ⟨h1, h2⟩ := hc i hi
      exact ⟨h2 0 _ rfl, h2 1 _ rfl, h2 2 _ rfl⟩
    · obtain ⟨i, hi, rfl⟩ := List.mem_iff_getElem.1 hx
      exact (hc i hi).1
end
end Go.Proofs.Ytofnaigkfhfhoaa
namespace Go.Proofs.Ytofnaigkfhfhoaa
open Go.RowKit

theorem lit_u8 {a : Int} (h : (Lit.int .u8 a).wf = true) : ∃ n : Nat, a = (n : Int) ∧ n < 256 := by
  simp only [Lit.wf, Bool.and_eq_true, decide_eq_true_eq] at h
  have h1 : (0 : Int) ≤ a := h.1
  have h2 : a ≤ 255 := h.2
  exact ⟨a.toNat, (Int.toNat_of_nonneg h1).symm, by omega⟩
theorem lit_i64 {a : Int} (h : (Lit.int .i64 a).wf = true) : -9223372036854775808 ≤ a ∧ a ≤ 9223372036854775807 := by
  simp only [Lit.wf, Bool.and_eq_true, decide_eq_true_eq] at h
  exact ⟨h.1, h.2⟩
theorem lit_u32 {a : Int} (h : (Lit.int .u32 a).wf = true) : ∃ n : Nat, a = (n : Int) ∧ n < 4294967296 := by
  simp only [Lit.wf, Bool.and_eq_true, decide_eq_true_eq] at h
  have h1 : (0 : Int) ≤ a := h.1
  have h2 : a ≤ 4294967295 := h.2
  exact ⟨a.toNat, (Int.toNat_of_nonneg h1).symm, by omega⟩
end Go.Proofs.Ytofnaigkfhfhoaa
