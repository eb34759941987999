/-
  Of whatever parties and lines: may there be such a ledger? In plain Lean.
-/
import Derived.Test.YtofnaigkfhfhoaaTwoL
import Derived.Test.YtofnaigkfhfhoaaSameP
namespace Go.Proofs.Ytofnaigkfhfhoaa
open Go.RowKit Go.Maps Pl

def px (ps : List Nat) (k : Nat) : Nat := ps.getD k 0
def lx (ls : List Ln) (k : Nat) : Ln := ls.getD k ⟨0, 0, 0, 0, 0⟩
theorem px_get {ps : List Nat} {k : Nat} (h : k < ps.length) : px ps k = ps[k] := by simp [px, List.getD, h]
theorem lx_get {ls : List Ln} {k : Nat} (h : k < ls.length) : lx ls k = ls[k] := by simp [lx, List.getD, h]
/-- May party k stand there? May line k? -/
def pOk (ps : List Nat) (k : Nat) : Prop := (1 ≤ px ps k ∧ px ps k ≤ 16) ∧ (k = 0 ∨ px ps (k - 1) < px ps k)
def lOk (S : Nat → Bool) (ls : List Ln) (k : Nat) : Prop :=
  endsOk (lx ls k).cr (lx ls k).db (lx ls k).cu = true ∧ S (lx ls k).cr = true ∧ S (lx ls k).db = true ∧ (1 ≤ (lx ls k).lim ∧ (lx ls k).lim ≤ 1099511627776 ∧ 0 ≤ (lx ls k).deb ∧ (lx ls k).deb ≤ (lx ls k).lim) ∧ (k = 0 ∨ (lx ls (k - 1)).rank < (lx ls k).rank)
instance (ps : List Nat) (k : Nat) : Decidable (pOk ps k) := by unfold pOk; exact inferInstance
instance (S : Nat → Bool) (ls : List Ln) (k : Nat) : Decidable (lOk S ls k) := by unfold lOk; exact inferInstance
/-- The first k parties. -/
def setS (ps : List Nat) (k : Nat) : Nat → Bool := fun p => (ps.take k).contains p
theorem setS_zero (ps : List Nat) : setS ps 0 = fun _ => false := by funext p; simp [setS]
theorem setS_succ {ps : List Nat} {k : Nat} (h : k < ps.length) : setS ps (k + 1) = upd (setS ps k) (px ps k) true := by
  funext p
  unfold setS upd
  rw [List.take_succ_eq_append_getElem h, px_get h]
  show _ = if p = ps[k] then true else (List.take k ps).contains p
  rw [List.contains_eq_mem, List.contains_eq_mem]
  by_cases e : p = ps[k]
  · rw [if_pos e, decide_eq_true_eq, List.mem_append]
    exact .inr (by simp [e])
  · rw [if_neg e, decide_eq_decide, List.mem_append]
    simp only [List.mem_singleton, e, or_false]
theorem rising_lt {ps : List Nat} {n : Nat} (h : ∀ k, k < n → pOk ps k) : ∀ j i, i < j → j < n → px ps i < px ps j
  | 0, i, h1, _ => by omega
  | j + 1, i, h1, h2 => by
    rcases (h (j + 1) h2).2 with h3 | h3
    · omega
    · rw [Nat.add_sub_cancel] at h3
      by_cases e : i = j
      · subst e; exact h3
      · exact Nat.lt_trans (rising_lt h j i (by omega) (by omega)) h3
theorem setS_new {ps : List Nat} {k : Nat} (hk : k < ps.length) (h : ∀ j, j < k → pOk ps j) (h2 : k = 0 ∨ px ps (k - 1) < px ps k) : setS ps k (px ps k) = false := by
  unfold setS
  rw [List.contains_eq_mem, decide_eq_false_iff_not]
  intro hm
  obtain ⟨i, hi, he⟩ := List.mem_iff_getElem.1 hm
  rw [List.length_take] at hi
  rw [List.getElem_take] at he
  rcases h2 with h2 | h2
  · omega
  · have hik : px ps i ≤ px ps (k - 1) := by
      by_cases e : i = k - 1
      · rw [e]; exact Nat.le_refl _
      · exact Nat.le_of_lt (rising_lt h (k - 1) i (by omega) (by omega))
    rw [px_get (by omega), he] at hik
    omega
/-- What Of answers. -/
def ofE (ps : List Nat) (ls : List Ln) : Int := if ∀ k, k < ps.length → pOk ps k then if 64 < ls.length then 9 else if ∀ k, k < ls.length → lOk (setS ps ps.length) ls k then 0 else 1 else 1

theorem take_sorted {S : Nat → Bool} {ls : List Ln} : ∀ {k : Nat}, k ≤ ls.length → (∀ j, j < k → lOk S ls j) → Sorted (ls.take k) ∧ ∀ x ∈ ls.take k, ∃ j, j < k ∧ x = lx ls j ∧ x.rank ≤ (lx ls (k - 1)).rank
  | 0, _, _ => by simp [Sorted]
  | k + 1, hk, h => by
    obtain ⟨h1, h2⟩ := take_sorted (k := k) (by omega) (fun j hj => h j (by omega))
    have hk1 : k < ls.length := by omega
    rw [List.take_succ_eq_append_getElem hk1, ← lx_get hk1, Nat.add_sub_cancel]
    have hlt : ∀ x ∈ ls.take k, x.rank < (lx ls k).rank := by
      intro x hx
      obtain ⟨j, hj, _, hr⟩ := h2 x hx
      rcases (h k (by omega)).2.2.2.2 with h3 | h3
      · omega
      · omega
    refine ⟨List.pairwise_append.2 ⟨h1, by simp, fun x hx y hy => ?_⟩, fun x hx => ?_⟩
    · simp at hy; subst hy; exact hlt x hx
    · rw [List.mem_append] at hx
      rcases hx with hx | hx
      · obtain ⟨j, hj, he, _⟩ := h2 x hx
        exact ⟨j, by omega, he, Nat.le_of_lt (hlt x hx)⟩
      · simp at hx; subst hx
        exact ⟨k, by omega, rfl, Nat.le_refl _⟩
/-- A line that stands behind all comes last. -/
theorem set_last : ∀ {L : List Ln} {x : Ln}, (∀ y ∈ L, y.rank < x.rank) → setL L x = L ++ [x]
  | [], _, _ => rfl
  | y :: l, x, h => by
    have h1 := h y (by simp)
    unfold setL
    rw [if_neg (by omega), if_neg (by omega), set_last (fun z hz => h z (by simp [hz]))]
    rfl
theorem set_take {S : Nat → Bool} {ls : List Ln} {k : Nat} (hk : k < ls.length) (h : ∀ j, j < k → lOk S ls j) (h2 : k = 0 ∨ (lx ls (k - 1)).rank < (lx ls k).rank) : setL (ls.take k) (lx ls k) = ls.take (k + 1) := by
  rw [List.take_succ_eq_append_getElem hk, ← lx_get hk]
  refine set_last fun y hy => ?_
  obtain ⟨j, hj, _, hr⟩ := (take_sorted (by omega) h).2 y hy
  rcases h2 with h2 | h2 <;> omega
theorem good_of {ps : List Nat} {ls : List Ln} (hp : ∀ k, k < ps.length → pOk ps k) {k : Nat} (hk : k ≤ ls.length) (h64 : ls.length ≤ 64) (h : ∀ j, j < k → lOk (setS ps ps.length) ls j) : GoodL (setS ps ps.length) (ls.take k) := by
  have hm := (take_sorted hk h).2
  refine ⟨fun x hx => ?_, fun x hx => ?_, fun x hx => ?_, by rw [List.length_take]; omega, fun p hp' => ?_⟩
  · obtain ⟨j, hj, rfl, _⟩ := hm x hx
    obtain ⟨h1, _⟩ := h j hj
    obtain ⟨a1, a2, a3, a4⟩ := of_decide_eq_true h1
    exact ⟨mem_P16.2 a1, mem_P16.2 a2, a3, a4⟩
  · obtain ⟨j, hj, rfl, _⟩ := hm x hx
    obtain ⟨_, h2, h3, _⟩ := h j hj
    exact ⟨h2, h3⟩
  · obtain ⟨j, hj, rfl, _⟩ := hm x hx
    exact (h j hj).2.2.2.1
  · unfold setS at hp'
    rw [List.take_length, List.contains_eq_mem, decide_eq_true_eq] at hp'
    obtain ⟨i, hi, he⟩ := List.mem_iff_getElem.1 hp'
    have := (hp i hi).1
    rw [px_get hi, he] at this
    exact mem_P16.2 this
theorem good_start (S : Nat → Bool) (h : ∀ p, S p = true → p ∈ P16) : GoodL S [] := ⟨by simp, by simp, by simp, by simp, h⟩

/-- A slice whose length is not nought: where its cells lie. -/
theorem rdK_pos {α : Type} {enc : α → List Value} {k : Nat} {w : World} {ao : Option Addr} {n cap : Nat} {l : List α} (h : RdK enc k w (.slice ao n cap) l) (hl : 0 < l.length) :
    ∃ g off, ao = some ⟨g, off, none⟩ ∧ n = l.length ∧ l.length ≤ cap ∧ ∀ W, Chg [] w W → ∀ i (h : i < l.length) j u, (enc l[i])[j]? = some u → W.cell? ⟨g, off + i * k + j, none⟩ = some u := by
  rcases h with ⟨rfl, _⟩ | ⟨g, off, cap', he, hn, hc⟩
  · simp at hl
  · simp only [Value.slice.injEq] at he
    obtain ⟨rfl, rfl, rfl⟩ := he
    refine ⟨g, off, rfl, rfl, hn, fun W c i hi j u hu => ?_⟩
    have h1 := hc i hi j u hu
    exact (c.cell (p := ⟨g, off + i * k + j, none⟩) (block_lt_of_cell h1) (by simp)).trans h1
theorem rdP_pos {w : World} {ao : Option Addr} {n cap : Nat} {l : List Nat} (h : RdPt w (.slice ao n cap) l) (hl : 0 < l.length) :
    ∃ g off, ao = some ⟨g, off, none⟩ ∧ n = l.length ∧ l.length ≤ cap ∧ ∀ W, Chg [] w W → ∀ i, i < l.length → W.cell? ⟨g, off + i, none⟩ = some (.int .u8 (px l i)) := by
  obtain ⟨g, off, h1, h2, h3, h4⟩ := rdK_pos h hl
  exact ⟨g, off, h1, h2, h3, fun W c i hi => by rw [px_get hi]; simpa using h4 W c i hi 0 _ rfl⟩
theorem rdL_pos {w : World} {ao : Option Addr} {n cap : Nat} {l : List Ln} (h : RdLn w (.slice ao n cap) l) (hl : 0 < l.length) :
    ∃ g off, ao = some ⟨g, off, none⟩ ∧ n = l.length ∧ l.length ≤ cap ∧ ∀ W, Chg [] w W → ∀ i, i < l.length → IsLn W g (off + i * 5) (lx l i) := by
  obtain ⟨g, off, h1, h2, h3, h4⟩ := rdK_pos h hl
  refine ⟨g, off, h1, h2, h3, fun W c i hi => ?_⟩
  rw [lx_get hi]
  have e := h4 W c i hi
  exact ⟨e 0 _ rfl, e 1 _ rfl, e 2 _ rfl, e 3 _ rfl, e 4 _ rfl⟩
end Go.Proofs.Ytofnaigkfhfhoaa
