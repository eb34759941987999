/-
  The ledger's map: its keys (ends of a line), its elements (limit and debt).
-/
import Derived.Test.YtofnaigkfhfhoaaRow
import Derived.Maps.OwnSet
import Derived.DeepKeys4
import Derived.Test.YtofnaigkfhfhoaaPlLed
namespace Go.Proofs.Ytofnaigkfhfhoaa
open Go.RowKit Go.Maps Go.WideShapes Pl

/-- Ends, as a value. -/
abbrev endsV (c d u : Nat) : Value := .agg #[.int .u8 c, .int .u8 d, .int .u8 u]
/-- Ends, as a key that is read. -/
def endsL (c d u : Nat) : Lit := .string [UInt8.ofNat c, UInt8.ofNat d, UInt8.ofNat u]

theorem ends_law : Keyed Try.prog 118 :=
  Keyed.of_law (deep_law_laid laid_out (m := 3) (by decide) (of_decide_eq_true (by kernel_rfl)) (by kernel_rfl) (by kernel_rfl))

theorem wf_u8 {c : Nat} (hc : c < 256) : (Lit.int .u8 (c : Int)).wf = true := by
  simp only [Lit.wf, Bool.and_eq_true, decide_eq_true_eq]
  exact ⟨show (0 : Int) ≤ c by omega, show (c : Int) ≤ 255 by omega⟩
theorem lits_u8 {t : TypeId} (hu : Try.prog.underlying t = some (.int .u8)) (n : Nat) {c : Nat} (hc : c < 256) : Try.prog.keyLits (n + 1) t [.int .u8 c] = some [.int .u8 c] := by
  unfold Program.keyLits
  rw [hu]
  simp only [true_and]
  rw [if_pos (wf_u8 hc)]
theorem bytes_u8 {c : Nat} (hc : c < 256) : (Lit.int .u8 (c : Int)).keyBytes = [UInt8.ofNat c] := by
  have e : ((c : Int) % 2 ^ IntKind.u8.bits).toNat = c := by
    have : (2 : Int) ^ IntKind.u8.bits = 256 := by decide
    rw [this]; omega
  show bytesBE (IntKind.u8.bits / 8) ((c : Int) % 2 ^ IntKind.u8.bits).toNat = _
  rw [e]
  show bytesBE 1 c = _
  simp [bytesBE, bytesLE, Nat.mod_eq_of_lt hc]
theorem ends_cells : Try.prog.cellsOf 118 = 3 ∧ Try.prog.cellsOf 22 = 1 ∧ Try.prog.cellsOf 23 = 1 := ⟨by kernel_rfl, by kernel_rfl, by kernel_rfl⟩
theorem ends_keyType : Try.prog.keyType 118 = true := by kernel_rfl
theorem ends_key {c d u : Nat} (hc : c < 256) (hd : d < 256) (hu : u < 256) : keyOf Try.prog 118 (endsV c d u) = some (endsL c d u) := by
  obtain ⟨n, hn⟩ : ∃ n, Try.prog.types.size = n + 1 := ⟨Try.prog.types.size - 1, by have : 0 < Try.prog.types.size := of_decide_eq_true (by kernel_rfl); omega⟩
  have h0 := lits_u8 Try.underlying22 n hc
  have h1 := lits_u8 Try.underlying22 n hd
  have h2 := lits_u8 Try.underlying23 n hu
  unfold keyOf
  rw [Try.underlying118]
  simp only [ends_keyType, Value.formed, Try.underlying118, ends_cells.1, hn]
  unfold Program.keyLits
  rw [Try.underlying118]
  simp [ends_cells, h0, h1, h2, Value.cells]
  show Lit.string (keyBytes [Lit.int .u8 c, Lit.int .u8 d, Lit.int .u8 u]) = _
  simp [keyBytes, endsL, bytes_u8 hc, bytes_u8 hd, bytes_u8 hu]

/-- A limit and a debt, as a value; as it reads. -/
abbrev owedV (l d : Int) : Value := .agg #[.int .i64 l, .int .i64 d]
def owedD (l d : Int) : DataW Unit := .agg [.lit (.int .i64 l), .lit (.int .i64 d)]
def owedL : List Value → Option (DataW Unit × List MemPlace)
  | [.int .i64 l, .int .i64 d] => some (owedD l d, [])
  | _ => none
def owedR : Value → Option (DataW Unit × List MemPlace)
  | .agg cs => owedL cs.toList
  | _ => none
theorem owedR_mk (l d : Int) : owedR (owedV l d) = some (owedD l d, []) := rfl
theorem owedR_inv {v : Value} {l d : Int} {ps : List MemPlace} (h : owedR v = some (owedD l d, ps)) : v = owedV l d := by
  unfold owedR at h
  split at h
  · rename_i cs
    obtain ⟨cs⟩ := cs
    unfold owedL at h
    split at h
    · rename_i e
      simp only [owedD, Option.some.injEq, Prod.mk.injEq, DataW.agg.injEq, List.cons.injEq, DataW.lit.injEq, Lit.int.injEq] at h
      obtain ⟨⟨⟨_, rfl⟩, ⟨_, rfl⟩, _⟩, _⟩ := h
      have e : cs = _ := e
      rw [e]
    · cases h
  · cases h
theorem zero_owed (w : World) : (zeroValue 120).run Try.prog w = .ok (owedV 0 0) w := by kernel_rfl

/-- What stands at ends. -/
def owedAt (L : List Ln) (r : Nat) : Int × Int := match findR L r with | some x => (x.lim, x.deb) | none => (0, 0)
theorem owedAt_set {L : List Ln} (h : Sorted L) (x : Ln) (r : Nat) : owedAt (setL L x) r = if x.rank = r then (x.lim, x.deb) else owedAt L r := by
  unfold owedAt
  rw [find_set h]
  by_cases hr : x.rank = r
  · rw [if_pos hr, if_pos hr]
  · rw [if_neg hr, if_neg hr]
theorem owedAt_del (L : List Ln) (r r' : Nat) : owedAt (delR L r) r' = if r = r' then (0, 0) else owedAt L r' := by
  unfold owedAt
  rw [find_del]
  by_cases hr : r = r'
  · rw [if_pos hr, if_pos hr]
  · rw [if_neg hr, if_neg hr]

/-- Ends as keys are apart. -/
theorem endsL_ne {c d u c' d' u' : Nat} (hc : c < 256) (hd : d < 256) (hu : u < 256) (hc' : c' < 256) (hd' : d' < 256) (hu' : u' < 256) (h : rk c d u ≠ rk c' d' u') : endsL c' d' u' ≠ endsL c d u := by
  intro e
  have h1 := ends_key hc hd hu
  have h2 := ends_key hc' hd' hu'
  rw [e] at h2
  have h3 := ends_law.inj h1 h2
  simp only [endsV, Value.agg.injEq, Array.mk.injEq, List.cons.injEq, Value.int.injEq, Int.natCast_inj, and_true, true_and] at h3
  obtain ⟨rfl, rfl, rfl⟩ := h3
  exact h rfl
theorem ends_isKey (c d u : Nat) : WideAt.IsKeyLit (endsL c d u) := trivial

/-- Block mb is the map of these lines. -/
structure MapL (w : World) (mb : Nat) (L : List Ln) : Prop where
  owns : ∃ D : DataW Unit, w.ownsMap Try.prog 118 owedR mb L.length D ∧ Maps.size D = L.length ∧
    ∀ c d u, c < 256 → d < 256 → u < 256 → D.atKey (endsL c d u) (owedD 0 0) = owedD (owedAt L (rk c d u)).1 (owedAt L (rk c d u)).2 ∧ Maps.has D (endsL c d u) = (findR L (rk c d u)).isSome
  sorted : Sorted L
  small : ∀ x ∈ L, x.small

section
variable {w : World} {mb : Nat} {L : List Ln}
theorem MapL.look (h : MapL w mb L) {c d u : Nat} (hc : c < 256) (hd : d < 256) (hu : u < 256) :
    (Instr.lookup 27 (.map (some mb)) (endsV c d u) false).run Try.prog w = .ok (owedV (owedAt L (rk c d u)).1 (owedAt L (rk c d u)).2) w := by
  obtain ⟨D, ho, _, hl⟩ := h.owns
  obtain ⟨v, ps, hr, hv⟩ := ho.lookup ends_law Try.underlying27 (zero_owed w) (owedR_mk 0 0) (ends_key hc hd hu)
  rw [(hl c d u hc hd hu).1] at hv
  rw [hr, owedR_inv hv]
theorem MapL.look_ok (h : MapL w mb L) {c d u : Nat} (hc : c < 256) (hd : d < 256) (hu : u < 256) :
    (Instr.lookup 27 (.map (some mb)) (endsV c d u) true).run Try.prog w = .ok (.tuple #[owedV (owedAt L (rk c d u)).1 (owedAt L (rk c d u)).2, .bool (findR L (rk c d u)).isSome]) w := by
  obtain ⟨D, ho, _, hl⟩ := h.owns
  obtain ⟨v, ps, hr, hv⟩ := ho.look_ok ends_law Try.underlying27 (zero_owed w) (owedR_mk 0 0) (ends_key hc hd hu)
  rw [(hl c d u hc hd hu).1] at hv
  rw [hr, owedR_inv hv, (hl c d u hc hd hu).2]
theorem MapL.len (h : MapL w mb L) (ty : TypeId) : (Builtin.len_ #[27] ty #[.map (some mb)]).run Try.prog w = .ok (.int .i64 L.length) w := by
  obtain ⟨D, ho, hs, _⟩ := h.owns
  rw [ho.len Try.underlying27 ty, hs]
theorem MapL.lt (h : MapL w mb L) : mb < w.heap.size := by obtain ⟨D, ho, _⟩ := h.owns; exact ho.lt
theorem ownsMap_len {P : Program} {k : TypeId} {R : Value → Option (DataW Unit × List MemPlace)} {b n : Nat} {D : DataW Unit} (h : w.ownsMap P k R b n D) {m : Nat} (hm : Maps.size D ≤ m) : w.ownsMap P k R b m D := by
  obtain ⟨es, clock, hb, F, hs, rfl⟩ := h
  refine ⟨es, clock, hb, F, ?_, rfl⟩
  have e1 : Maps.size (DataW.map ((es.toList.map (WideElems.rg P k R)).foldr DataW.insert [])) = es.size := by simp [Maps.size, length_sorted]
  omega
theorem MapL.store (h : MapL w mb L) (hn : L.length ≤ 1000000) {x : Ln} (hx : x.small) :
    ∃ w', (Instr.mapUpdate 27 (.map (some mb)) (endsV x.cr x.db x.cu) (owedV x.lim x.deb)).run Try.prog w = .ok () w' ∧ MapL w' mb (setL L x) ∧ w.mapTurned w' mb := by
  obtain ⟨D, ho, hs, hl⟩ := h.owns
  obtain ⟨h1, h2, h3⟩ := hx
  obtain ⟨w', hr, ho', ht⟩ := ho.store ends_law Try.underlying27 (by unfold maxLen; omega) (ends_key h1 h2 h3) (owedR_mk x.lim x.deb)
  have hsz := size_put (ho.tidy ends_law) (k := endsL x.cr x.db x.cu) (owedD x.lim x.deb)
  have hlen := length_set h.sorted x
  have hhas := (hl x.cr x.db x.cu h1 h2 h3).2
  have hrk : x.rank = rk x.cr x.db x.cu := rfl
  have hsz' : Maps.size (D.put (endsL x.cr x.db x.cu) (owedD x.lim x.deb)) = (setL L x).length := by
    rw [hsz, hlen, hhas, hs, hrk]
  refine ⟨w', hr, ⟨⟨_, ownsMap_len ho' (by omega), hsz', fun c d u hc hd hu => ?_⟩, h.sorted.set, fun z hz => ?_⟩, ht⟩
  · rw [owedAt_set h.sorted, find_set h.sorted, hrk]
    by_cases e : rk x.cr x.db x.cu = rk c d u
    · obtain ⟨rfl, rfl, rfl⟩ := rk_inj h1 h2 hc hd e
      rw [if_pos rfl, if_pos rfl]
      exact ⟨atKey_put_same ho.isMap (ends_isKey _ _ _) _ _, by rw [has_put_same ho.isMap (ends_isKey _ _ _)]; rfl⟩
    · rw [if_neg e, if_neg e]
      have hne := endsL_ne h1 h2 h3 hc hd hu e
      rw [atKey_put_other hne, has_put_other hne]
      exact hl c d u hc hd hu
  · rcases mem_setL hz with rfl | hz
    · exact ⟨h1, h2, h3⟩
    · exact h.small z hz
theorem MapL.drop (h : MapL w mb L) {c d u : Nat} (h1 : c < 256) (h2 : d < 256) (h3 : u < 256) (ty : TypeId) :
    ∃ w', (Builtin.delete_ #[27, 118] ty #[.map (some mb), endsV c d u]).run Try.prog w = .ok (.tuple #[]) w' ∧ MapL w' mb (delR L (rk c d u)) ∧ w.mapTurned w' mb := by
  obtain ⟨D, ho, hs, hl⟩ := h.owns
  obtain ⟨w', hr, ho', ht⟩ := ho.drop ends_law Try.underlying27 (ends_key h1 h2 h3) ty
  have hsz := size_del (ho.tidy ends_law) (k := endsL c d u)
  have hlen := length_del h.sorted (rk c d u)
  have hhas := (hl c d u h1 h2 h3).2
  have hsz' : Maps.size (D.del (endsL c d u)) = (delR L (rk c d u)).length := by
    rw [hhas, hs] at hsz
    rw [hlen]
    split at hsz <;> rename_i e
    · rw [if_pos e]; omega
    · rw [if_neg e]; omega
  refine ⟨w', hr, ⟨⟨_, ownsMap_len ho' (by omega), hsz', fun c' d' u' hc hd hu => ?_⟩, h.sorted.del _, fun z hz => h.small z (List.mem_filter.1 hz).1⟩, ht⟩
  rw [owedAt_del, find_del]
  by_cases e : rk c d u = rk c' d' u'
  · obtain ⟨rfl, rfl, rfl⟩ := rk_inj h1 h2 hc hd e
    rw [if_pos rfl, if_pos rfl]
    exact ⟨atKey_del_same _, by rw [has_del_same]; rfl⟩
  · rw [if_neg e, if_neg e]
    have hne := endsL_ne h1 h2 h3 hc hd hu e
    rw [atKey_del_other hne, has_del_other hne]
    exact hl c' d' u' hc hd hu
theorem MapL.new (w : World) : MapL (w.alloc (.map #[] 0)) w.heap.size [] :=
  ⟨⟨.map [], World.ownsMap_made _ _ _ _, rfl, fun c d u _ _ _ => ⟨rfl, rfl⟩⟩, List.Pairwise.nil, by simp⟩
theorem MapL.same {w' : World} (h : MapL w mb L) (e : w'.heap[mb]? = w.heap[mb]?) : MapL w' mb L := by
  obtain ⟨D, ⟨es, clock, hb, r⟩, hs⟩ := h.owns
  exact ⟨⟨D, ⟨es, clock, e.trans hb, r⟩, hs⟩, h.sorted, h.small⟩
theorem MapL.chg {w' : World} {s : List Nat} (h : MapL w mb L) (k : Chg s w w') (hn : mb ∉ s) : MapL w' mb L := h.same (k.block mb h.lt hn)
theorem MapL.alloc (h : MapL w mb L) (o : Obj) : MapL (w.alloc o) mb L := h.same (Below.heap_alloc w o mb h.lt)
theorem MapL.drew (h : MapL w mb L) : MapL w.drew mb L := h.same rfl
theorem MapL.far {a : Addr} (h : MapL w mb L) (hne : mb ≠ a.block) (v : Value) : MapL (w.setCell a v) mb L := h.same (heap_setCell_other w a mb v hne)
theorem turned_chg {w' : World} {b : Nat} (h : w.mapTurned w' b) : Chg [b] w w' := by
  have hg := h.grown
  exact ⟨hg.os, hg.tape, hg.output, hg.size, fun k hk hn => hg.block k hk (fun e => hn (by simp at e; simp [e]))⟩
end
end Go.Proofs.Ytofnaigkfhfhoaa
