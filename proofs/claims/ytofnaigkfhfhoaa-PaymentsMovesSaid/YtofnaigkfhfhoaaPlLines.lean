/-
  Lines as they come out of the ledger's map, one by one, in whatever order.
-/
import Derived.Test.YtofnaigkfhfhoaaLedMap
import Derived.Test.YtofnaigkfhfhoaaPlLed
import Derived.Maps.RangeWalk
namespace Go.Proofs.Ytofnaigkfhfhoaa
open Go.RowKit Go.Maps Go.WideShapes Pl

/-- Whoever is a key of the map is the ends of a line. -/
theorem lits_u8_inv {t : TypeId} (hu : Try.prog.underlying t = some (.int .u8)) {n : Nat} {v : Value} {ls : List Lit} (h : Try.prog.keyLits n t [v] = some ls) : ∃ c : Nat, c < 256 ∧ v = .int .u8 c := by
  cases n with
  | zero => unfold Program.keyLits at h; cases h
  | succ n =>
    unfold Program.keyLits at h
    rw [hu] at h
    cases v <;> simp at h
    obtain ⟨⟨rfl, hw⟩, _⟩ := h
    rename_i m _
    simp only [Lit.wf, Bool.and_eq_true, decide_eq_true_eq] at hw
    obtain ⟨h0, h1⟩ := hw
    have h0' : (0 : Int) ≤ m := h0
    have h1' : m ≤ (255 : Int) := h1
    exact ⟨m.toNat, by omega, by rw [Int.toNat_of_nonneg h0']⟩
set_option maxRecDepth 20000 in
theorem ends_key_inv {key : Value} {kl : Lit} (h : keyOf Try.prog 118 key = some kl) : ∃ c d u, c < 256 ∧ d < 256 ∧ u < 256 ∧ key = endsV c d u ∧ kl = endsL c d u := by
  obtain ⟨n, hn⟩ : ∃ n, Try.prog.types.size = n + 1 := ⟨Try.prog.types.size - 1, by have : 0 < Try.prog.types.size := of_decide_eq_true (by kernel_rfl); omega⟩
  have hk := h
  unfold keyOf at h
  rw [Try.underlying118] at h
  simp only [ends_keyType, hn, Bool.true_and] at h
  split at h
  · rename_i hf
    cases key with
    | agg cs =>
      simp only [Value.formed, Try.underlying118, ends_cells.1] at hf
      obtain ⟨cs⟩ := cs
      have hl : cs.length = 3 := by simpa using hf
      obtain ⟨a, b, c, rfl⟩ : ∃ a b c, cs = [a, b, c] := by
        match cs, hl with
        | [a, b, c], _ => exact ⟨a, b, c, rfl⟩
      unfold Program.keyLits at h
      rw [Try.underlying118] at h
      simp [ends_cells, Value.cells] at h
      cases ea : Try.prog.keyLits (n + 1) 22 [a] with
      | none => simp [ea] at h
      | some la =>
        cases eb : Try.prog.keyLits (n + 1) 22 [b] with
        | none => simp [ea, eb] at h
        | some lb =>
          cases ec : Try.prog.keyLits (n + 1) 23 [c] with
          | none => simp [ea, eb, ec] at h
          | some lc =>
            obtain ⟨x, hx, rfl⟩ := lits_u8_inv Try.underlying22 ea
            obtain ⟨y, hy, rfl⟩ := lits_u8_inv Try.underlying22 eb
            obtain ⟨z, hz, rfl⟩ := lits_u8_inv Try.underlying23 ec
            refine ⟨x, y, z, hx, hy, hz, rfl, ?_⟩
            have e1 := ends_key hx hy hz
            rw [hk] at e1
            exact Option.some.inj e1
    | _ => simp [Value.formed, Try.underlying118] at hf
  · cases h

/-- Which lines are gathered, which are still to come. -/
structure Gath (L acc : List Ln) (left : Lit → Bool) : Prop where
  sub : ∀ x ∈ acc, x ∈ L
  nodup : acc.Nodup
  left : ∀ c d u, c < 256 → d < 256 → u < 256 → (left (endsL c d u) = true ↔ ∃ x ∈ L, x ∉ acc ∧ x.cr = c ∧ x.db = d ∧ x.cu = u)

theorem find_ends {L : List Ln} (hs : Sorted L) (hsm : ∀ x ∈ L, x.small) {c d u : Nat} (hc : c < 256) (hd : d < 256) (hu : u < 256) {x : Ln} (hx : x ∈ L) : (x.cr = c ∧ x.db = d ∧ x.cu = u) ↔ findR L (rk c d u) = some x := by
  constructor
  · rintro ⟨rfl, rfl, rfl⟩
    exact mem_find hs hx
  · intro h
    have := (find_mem h).2
    exact rk_inj (hsm x hx).1 (hsm x hx).2.1 hc hd this
theorem gath_start {L : List Ln} (hs : Sorted L) (hsm : ∀ x ∈ L, x.small) {D : DataW Unit} (hl : ∀ c d u, c < 256 → d < 256 → u < 256 → D.atKey (endsL c d u) (owedD 0 0) = owedD (owedAt L (rk c d u)).1 (owedAt L (rk c d u)).2 ∧ Maps.has D (endsL c d u) = (findR L (rk c d u)).isSome) : Gath L [] (Maps.has D) := by
  refine ⟨by simp, List.nodup_nil, fun c d u hc hd hu => ?_⟩
  rw [(hl c d u hc hd hu).2]
  constructor
  · intro h
    obtain ⟨x, hx⟩ := Option.isSome_iff_exists.1 h
    have hm := (find_mem hx).1
    exact ⟨x, hm, by simp, (find_ends hs hsm hc hd hu hm).2 hx⟩
  · rintro ⟨x, hm, _, he⟩
    rw [(find_ends hs hsm hc hd hu hm).1 he]
    rfl
theorem gath_step {L acc : List Ln} {left : Lit → Bool} (g : Gath L acc left) (hs : Sorted L) (hsm : ∀ x ∈ L, x.small) {c d u : Nat} (hc : c < 256) (hd : d < 256) (hu : u < 256) (hl : left (endsL c d u) = true) :
    ∃ x ∈ L, x ∉ acc ∧ x.cr = c ∧ x.db = d ∧ x.cu = u ∧ Gath L (acc ++ [x]) (fun z => left z && !z.sameKey (endsL c d u)) := by
  obtain ⟨x, hx, hn, rfl, rfl, rfl⟩ := (g.left c d u hc hd hu).1 hl
  refine ⟨x, hx, hn, rfl, rfl, rfl, ?_, ?_, ?_⟩
  · intro y hy
    rw [List.mem_append] at hy
    rcases hy with hy | hy
    · exact g.sub y hy
    · simp at hy; subst hy; exact hx
  · rw [List.nodup_append]
    refine ⟨g.nodup, by simp, ?_⟩
    intro a ha b hb
    simp at hb
    subst hb
    rintro rfl
    exact hn ha
  · intro c' d' u' hc' hd' hu'
    by_cases e : rk x.cr x.db x.cu = rk c' d' u'
    · obtain ⟨rfl, rfl, rfl⟩ := rk_inj hc hd hc' hd' e
      have : (endsL x.cr x.db x.cu).sameKey (endsL x.cr x.db x.cu) = true := WideAt.sameKey_self (ends_isKey _ _ _)
      rw [this]
      simp only [Bool.not_true, Bool.and_false, Bool.false_eq_true, false_iff, not_exists, not_and]
      intro y hy hny h1 h2 h3
      have e1 := (find_ends hs hsm hc hd hu hy).1 ⟨h1, h2, h3⟩
      have e2 := (find_ends hs hsm hc hd hu hx).1 ⟨rfl, rfl, rfl⟩
      rw [e1] at e2
      obtain rfl := Option.some.inj e2
      simp at hny
    · have hne := endsL_ne hc hd hu hc' hd' hu' e
      have : (endsL c' d' u').sameKey (endsL x.cr x.db x.cu) = false := Maps.sameKey_ne hne
      rw [this, Bool.not_false, Bool.and_true, g.left c' d' u' hc' hd' hu']
      constructor
      · rintro ⟨y, hy, hny, h1, h2, h3⟩
        refine ⟨y, hy, ?_, h1, h2, h3⟩
        rw [List.mem_append, not_or]
        refine ⟨hny, ?_⟩
        simp
        rintro rfl
        exact e (by rw [h1, h2, h3])
      · rintro ⟨y, hy, hny, h⟩
        rw [List.mem_append, not_or] at hny
        exact ⟨y, hy, hny.1, h⟩
theorem gath_end {L acc : List Ln} {left : Lit → Bool} (g : Gath L acc left) (hs : Sorted L) (hsm : ∀ x ∈ L, x.small) (h : ∀ kl, left kl = false) : acc.Perm L := by
  have hL : L.Nodup := hs.imp fun {a b} hab => by rintro rfl; omega
  rw [List.perm_ext_iff_of_nodup g.nodup hL]
  intro x
  refine ⟨g.sub x, fun hx => ?_⟩
  by_cases hn : x ∈ acc
  · exact hn
  · have := (g.left x.cr x.db x.cu (hsm x hx).1 (hsm x hx).2.1 (hsm x hx).2.2).2 ⟨x, hx, hn, rfl, rfl, rfl⟩
    rw [h] at this
    cases this
end Go.Proofs.Ytofnaigkfhfhoaa
