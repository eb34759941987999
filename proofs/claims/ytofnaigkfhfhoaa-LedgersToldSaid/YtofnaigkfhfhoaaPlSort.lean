/-
  Lines in order: a permutation of a ledger's lines that stands in order is these lines. Plain Lean.
-/
import Derived.Test.YtofnaigkfhfhoaaPlLed
namespace Go.Proofs.Ytofnaigkfhfhoaa.Pl

theorem rank_le_eq {L : List Ln} (hs : Sorted L) {x y : Ln} (hx : x ∈ L) (hy : y ∈ L) (h : x.rank = y.rank) : x = y := by
  have h1 := mem_find hs hx
  have h2 := mem_find hs hy
  rw [h, h2] at h1
  exact (Option.some.inj h1).symm
theorem sorted_perm_eq {l L : List Ln} (hp : l.Perm L) (hl : l.Pairwise fun x y => ¬ y.rank < x.rank) (hs : Sorted L) : l = L := by
  refine List.Perm.eq_of_pairwise (le := fun x y : Ln => ¬ y.rank < x.rank) (fun a b ha hb h1 h2 => ?_) hl (List.Pairwise.imp (fun h => by omega) hs) hp
  exact rank_le_eq hs (hp.mem_iff.1 ha) hb (by omega)

/-- How two lines stand: by currency, creditor, debtor. -/
def cmpN (a b : Nat) : Int := if a < b then -1 else if b < a then 1 else 0
def cfL (x y : Ln) : Int := if cmpN x.cu y.cu ≠ 0 then cmpN x.cu y.cu else if cmpN x.cr y.cr ≠ 0 then cmpN x.cr y.cr else cmpN x.db y.db
theorem cfL_lt {x y : Ln} (hx : x.small) (hy : y.small) : cfL x y < 0 ↔ x.rank < y.rank := by
  obtain ⟨a1, a2, a3⟩ := hx
  obtain ⟨b1, b2, b3⟩ := hy
  unfold cfL cmpN Ln.rank rk
  repeat' split
  all_goals omega
end Go.Proofs.Ytofnaigkfhfhoaa.Pl
