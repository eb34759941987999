/-
  Plain law: a ledger's lines, in order; how one is found, set, struck.
  Lines in order: a permutation of a ledger's lines that stands in order is these lines. Plain Lean.
-/
import Derived.Test.YtofnaigkfhfhoaaPlFlow
namespace Go.Proofs.Ytofnaigkfhfhoaa.Pl

/-- A line: its creditor, debtor, currency, limit, debt. -/
structure Ln where
  cr : Nat
  db : Nat
  cu : Nat
  lim : Int
  deb : Int
  deriving DecidableEq, Inhabited

/-- Where ends stand in the order. -/
def rk (c d u : Nat) : Nat := u * 65536 + c * 256 + d
def Ln.rank (x : Ln) : Nat := rk x.cr x.db x.cu
/-- Ends as bytes. -/
def Ln.small (x : Ln) : Prop := x.cr < 256 ∧ x.db < 256 ∧ x.cu < 256
theorem rk_inj {c d u c' d' u' : Nat} (hc : c < 256) (hd : d < 256) (hc' : c' < 256) (hd' : d' < 256) (h : rk c d u = rk c' d' u') : c = c' ∧ d = d' ∧ u = u' := by
  unfold rk at h; omega

def Sorted (L : List Ln) : Prop := L.Pairwise fun x y => x.rank < y.rank

def findR (L : List Ln) (r : Nat) : Option Ln := L.find? fun x => x.rank == r
def setL : List Ln → Ln → List Ln
  | [], x => [x]
  | y :: l, x => if x.rank < y.rank then x :: y :: l else if x.rank = y.rank then x :: l else y :: setL l x
def delR (L : List Ln) (r : Nat) : List Ln := L.filter fun x => x.rank != r

theorem mem_setL {z : Ln} : ∀ {L : List Ln} {x : Ln}, z ∈ setL L x → z = x ∨ z ∈ L
  | [], x, h => by simp [setL] at h; exact .inl h
  | y :: l, x, h => by
    unfold setL at h
    split at h
    · simpa using h
    · split at h
      · rw [List.mem_cons] at h
        rcases h with h | h
        · exact .inl h
        · exact .inr (by simp [h])
      · rw [List.mem_cons] at h
        rcases h with h | h
        · exact .inr (by simp [h])
        · rcases mem_setL h with h | h
          · exact .inl h
          · exact .inr (by simp [h])
theorem Sorted.set : ∀ {L : List Ln} {x : Ln}, Sorted L → Sorted (setL L x)
  | [], x, _ => by simp [setL, Sorted]
  | y :: l, x, h => by
    obtain ⟨h1, h2⟩ := List.pairwise_cons.1 h
    unfold setL
    split
    · rename_i hlt
      refine List.pairwise_cons.2 ⟨fun z hz => ?_, h⟩
      rw [List.mem_cons] at hz
      rcases hz with rfl | hz
      · exact hlt
      · exact Nat.lt_trans hlt (h1 z hz)
    · split
      · rename_i heq
        exact List.pairwise_cons.2 ⟨fun z hz => by rw [heq]; exact h1 z hz, h2⟩
      · rename_i hn hne
        refine List.pairwise_cons.2 ⟨fun z hz => ?_, Sorted.set h2⟩
        rcases mem_setL hz with rfl | hz
        · omega
        · exact h1 z hz
theorem Sorted.del {L : List Ln} (h : Sorted L) (r : Nat) : Sorted (delR L r) := List.Pairwise.filter _ h
theorem find_cons (y : Ln) (l : List Ln) (r : Nat) : findR (y :: l) r = if y.rank = r then some y else findR l r := by
  unfold findR
  rw [List.find?_cons]
  by_cases h : y.rank = r
  · simp [h]
  · have : (y.rank == r) = false := by simpa using h
    simp [this, h]
theorem find_lt {r : Nat} : ∀ {L : List Ln}, (∀ z ∈ L, r < z.rank) → findR L r = none
  | [], _ => rfl
  | y :: l, h => by
    rw [find_cons, if_neg (by have := h y (by simp); omega)]
    exact find_lt fun z hz => h z (by simp [hz])
theorem find_set : ∀ {L : List Ln} (_ : Sorted L) (x : Ln) (r : Nat), findR (setL L x) r = if x.rank = r then some x else findR L r
  | [], _, x, r => by unfold setL; rw [find_cons]
  | y :: l, h, x, r => by
    obtain ⟨h1, h2⟩ := List.pairwise_cons.1 h
    unfold setL
    split
    · rw [find_cons]
    · split
      · rename_i heq
        rw [find_cons, find_cons]
        by_cases hr : x.rank = r
        · rw [if_pos hr, if_pos hr]
        · rw [if_neg hr, if_neg hr, if_neg (by omega)]
      · rename_i hn hne
        rw [find_cons, find_cons, find_set h2]
        by_cases hr : y.rank = r
        · rw [if_pos hr, if_neg (by omega), if_pos hr]
        · rw [if_neg hr, if_neg hr]
theorem find_del {L : List Ln} (r r' : Nat) : findR (delR L r) r' = if r = r' then none else findR L r' := by
  induction L with
  | nil => simp [delR, findR]
  | cons y l ih =>
    unfold delR at ih ⊢
    rw [List.filter_cons, find_cons]
    by_cases h : y.rank = r
    · have : (y.rank != r) = false := by simp [h]
      simp only [this, Bool.false_eq_true, if_false]
      rw [ih]
      by_cases hr : r = r'
      · rw [if_pos hr, if_pos hr]
      · rw [if_neg hr, if_neg hr, if_neg (by omega)]
    · have : (y.rank != r) = true := by simpa using h
      simp only [this, if_true]
      rw [find_cons, ih]
      by_cases hr : r = r'
      · rw [if_pos hr, if_pos hr, if_neg (by omega)]
      · rw [if_neg hr, if_neg hr]
theorem length_set : ∀ {L : List Ln} (_ : Sorted L) (x : Ln), (setL L x).length = if (findR L x.rank).isSome then L.length else L.length + 1
  | [], _, x => by simp [setL, findR]
  | y :: l, h, x => by
    obtain ⟨h1, h2⟩ := List.pairwise_cons.1 h
    unfold setL
    rw [find_cons]
    by_cases hlt : x.rank < y.rank
    · rw [if_pos hlt, if_neg (show ¬ y.rank = x.rank by omega), find_lt fun z hz => Nat.lt_trans hlt (h1 z hz)]
      simp
    · rw [if_neg hlt]
      by_cases heq : x.rank = y.rank
      · rw [if_pos heq, if_pos heq.symm]; simp
      · rw [if_neg heq, if_neg (show ¬ y.rank = x.rank by omega), List.length_cons, length_set h2]
        split <;> simp
theorem length_del {L : List Ln} (h : Sorted L) (r : Nat) : (delR L r).length = if (findR L r).isSome then L.length - 1 else L.length := by
  induction L with
  | nil => simp [delR, findR]
  | cons y l ih =>
    obtain ⟨h1, h2⟩ := List.pairwise_cons.1 h
    have ih := ih h2
    unfold delR at ih ⊢
    rw [List.filter_cons, find_cons]
    by_cases hr : y.rank = r
    · have : (y.rank != r) = false := by simp [hr]
      simp only [this, Bool.false_eq_true, if_false]
      rw [ih, if_pos hr, find_lt fun z hz => by rw [← hr]; exact h1 z hz]
      simp
    · have : (y.rank != r) = true := by simpa using hr
      simp only [this, if_true]
      rw [if_neg hr, List.length_cons, ih]
      cases hf : findR l r with
      | none => simp
      | some z =>
        have : 0 < l.length := by
          cases l with
          | nil => simp [findR] at hf
          | cons a l => simp
        simp; omega
theorem find_mem {L : List Ln} {r : Nat} {x : Ln} (h : findR L r = some x) : x ∈ L ∧ x.rank = r := by
  unfold findR at h
  exact ⟨List.mem_of_find?_eq_some h, by simpa using List.find?_some h⟩
theorem mem_find {L : List Ln} (hs : Sorted L) {x : Ln} (h : x ∈ L) : findR L x.rank = some x := by
  induction L with
  | nil => simp at h
  | cons y l ih =>
    obtain ⟨h1, h2⟩ := List.pairwise_cons.1 hs
    rw [find_cons]
    rw [List.mem_cons] at h
    rcases h with rfl | h
    · rw [if_pos rfl]
    · rw [if_neg (by have := h1 x h; omega), ih h2 h]
end Go.Proofs.Ytofnaigkfhfhoaa.Pl
namespace Go.Proofs.Ytofnaigkfhfhoaa.Pl

theorem rank_le_eq {L : List Ln} (hs : Sorted L) {x y : Ln} (hx : x ∈ L) (hy : y ∈ L) (h : x.rank = y.rank) : x = y := by
  have h1 := mem_find hs hx
  have h2 := mem_find hs hy
  rw [h, h2] at h1
  exact (Option.some.inj h1).symm
theorem sorted_perm_eq {l L : List Ln} (hp : l.Perm L) (hl : l.Pairwise fun x y => ¬ y.rank < x.rank) (hs : Sorted L) : l = L := by
  refine List.Perm.eq_of_pairwise (le := fun x y : Ln => ¬ y.rank < x.rank) (fun a b ha hb h1 h2 => ?_) hl (List.Pairwise.imp (fun h => by omega) hs) hp
  exact rank_le_eq hs (hp.mem_iff.1 ha) hb (by omega)

/-- How two lines stand: by currency, creditor, debtor. -/
def cmpN (a b : Nat) : Int := if a < b then -1 else if b < a then 1 else 0
def cfL (x y : Ln) : Int := if cmpN x.cu y.cu ≠ 0 then cmpN x.cu y.cu else if cmpN x.cr y.cr ≠ 0 then cmpN x.cr y.cr else cmpN x.db y.db
theorem cfL_lt {x y : Ln} (hx : x.small) (hy : y.small) : cfL x y < 0 ↔ x.rank < y.rank := by
  obtain ⟨a1, a2, a3⟩ := hx
  obtain ⟨b1, b2, b3⟩ := hy
  unfold cfL cmpN Ln.rank rk
  repeat' split
  all_goals omega
end Go.Proofs.Ytofnaigkfhfhoaa.Pl
