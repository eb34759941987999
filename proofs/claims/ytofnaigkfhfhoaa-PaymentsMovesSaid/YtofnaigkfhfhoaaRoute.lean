/-
  The package flows: Route.
-/
import Derived.Test.YtofnaigkfhfhoaaWays
import Derived.Test.YtofnaigkfhfhoaaRound
import Derived.Test.YtofnaigkfhfhoaaPlFlow2
namespace Go.Proofs.Ytofnaigkfhfhoaa
open Go.RowKit Go.Shelf Pl
attribute [local go_sem] Oper.semAt_some
attribute [local go_sem ↓] Go.wp_at_zero Go.wp_at_succ

/-- flows.ways: a function that holds three boxes. -/
theorem fways {w : World} {ao : Option Addr} {s t : Int} :
    Calls Try.prog 112 #[.pointer ao, .int .u8 s, .int .u8 t] w fun e w' => e = .returned (.func (.func 133) #[] #[.pointer (some ⟨w.heap.size, 0, none⟩), .pointer (some ⟨w.heap.size + 1, 0, none⟩), .pointer (some ⟨w.heap.size + 2, 0, none⟩)]) ∧
      ((w.alloc (.cells #[.pointer ao] 96)).alloc (.cells #[.int .u8 s] 22)).alloc (.cells #[.int .u8 t] 22) = w' := by
  go_enter Try.func112, Try.ntmps112
  go_wp2
  go_ret
  exact ⟨rfl, rfl⟩


theorem Blk.kept {X Y : World} {row : Option Nat} {b : Nat} {t : TypeId} {cs : Array Value} (h : Blk X b t cs) (hg : X.grownBy Y row) (hr : ∀ r, row = some r → ∃ o : Obj, X.heap[r]? = some o ∧ o.isCells = false) : Blk Y b t cs := by
  refine (hg.block b h.lt (fun e => ?_)).trans h
  obtain ⟨o, ho, hc⟩ := hr b e.symm
  unfold Blk at h
  rw [h] at ho
  cases ho
  cases hc
theorem ownsRow_kept {X Y : World} {row : Option Nat} {base : Nat} {e : TypeId} {size : Nat} {v : Value} {n : Nat} {xs : List Value} (h : X.ownsRow base e size v n xs) (hg : X.grownBy Y row) (hr : ∀ r, row = some r → ∃ o : Obj, X.heap[r]? = some o ∧ o.isCells = false) : Y.ownsRow base e size v n xs := by
  obtain ⟨hl, h0 | ⟨g, c, cs, he, hbg, hk, r⟩⟩ := h
  · exact ⟨hl, .inl h0⟩
  · exact ⟨hl, .inr ⟨g, c, cs, he, hbg, Blk.kept (t := e) hk hg hr, r⟩⟩
theorem Chg.kept {w X Y : World} {row : Option Nat} {B : Nat} (h : Chg [] w X) (hB : w.heap.size ≤ B) (hg : X.grownBy Y row) (hr : ∀ r, row = some r → B ≤ r) : Chg [] w Y :=
  h.grown hg (fun k hk => .inr (Nat.le_trans hB (hr k hk)))

/-- What lies in memory while Route goes round: cb: the copy's block; bx: the first of the iterator's three boxes. -/
structure RM (w W : World) (n0 cb bx : Nat) (want : Int) (s t : Nat) (C : Caps) (ps : List Fl) (got : Int) : Prop where
  g : IsG W cb C
  gb : Blk W n0 96 #[.pointer (some ⟨cb, 0, none⟩)]
  wb : Blk W (n0 + 1) 2 #[.int .i64 want]
  pb : ∃ v, Blk W (n0 + 2) 43 #[v] ∧ W.ownsRow (bx + 3) 114 3 v ps.length (flsCells ps)
  qb : Blk W (n0 + 3) 2 #[.int .i64 got]
  b1 : Blk W bx 96 #[.pointer (some ⟨cb, 0, none⟩)]
  b2 : Blk W (bx + 1) 22 #[.int .u8 s]
  b3 : Blk W (bx + 2) 22 #[.int .u8 t]
  ch : Chg [] w W
  lt : n0 + 4 ≤ cb ∧ cb < bx
theorem RM.kept {w X Y : World} {row : Option Nat} {B n0 cb bx : Nat} {want : Int} {s t : Nat} {C : Caps} {ps : List Fl} {got : Int} (h : RM w X n0 cb bx want s t C ps got) (hB : w.heap.size ≤ B) (hg : X.grownBy Y row) (hr : ∀ r, row = some r → B ≤ r ∧ ∃ o : Obj, X.heap[r]? = some o ∧ o.isCells = false) : RM w Y n0 cb bx want s t C ps got := by
  have hr2 := fun r e => (hr r e).2
  obtain ⟨v, h1, h2⟩ := h.pb
  exact ⟨⟨h.g.blk.kept hg hr2, h.g.good⟩, h.gb.kept hg hr2, h.wb.kept hg hr2, ⟨v, h1.kept hg hr2, ownsRow_kept h2 hg hr2⟩, h.qb.kept hg hr2, h.b1.kept hg hr2, h.b2.kept hg hr2, h.b3.kept hg hr2, h.ch.kept hB hg (fun r e => (hr r e).1), h.lt⟩

theorem KeepsOthers.ofChg {s : List Nat} {X Y : World} (h : Chg s X Y) (hs : ∀ k, k ∈ s → ∀ o, X.heap[k]? = some o → o.isCells = true) : KeepsOthers X Y :=
  ⟨h.size, fun k o hk ho => by
    by_cases hm : k ∈ s
    · have := hs k hm o hk; simp [ho] at this
    · exact (h.block k (Array.getElem?_eq_some_iff.1 hk).1 hm).trans hk⟩
theorem Blk.grownRow {X Y : World} {b : Nat} {t e : TypeId} {cs : Array Value} {base size n : Nat} {v : Value} {xs : List Value} (h : Blk X b t cs) (ho : X.ownsRow base e size v n xs) (hg : X.grownBy Y v.ownBlock) (hne : t ≠ e) : Blk Y b t cs := by
  refine (hg.block b h.lt (fun hb => ?_)).trans h
  obtain ⟨_, ⟨rfl, _⟩ | ⟨g, c, cs', rfl, _, hk, _⟩⟩ := ho
  · cases hb
  · obtain rfl : b = g := by simpa [Value.ownBlock] using hb
    unfold Blk at h
    rw [hk] at h
    injection h with h
    injection h with h1 h2 h3
    exact hne h2.symm
theorem ownsRow_grownRow {X Y : World} {e e' : TypeId} {base base' size size' n n' : Nat} {v v' : Value} {xs xs' : List Value} (h : X.ownsRow base' e' size' v' n' xs') (ho : X.ownsRow base e size v n xs) (hg : X.grownBy Y v.ownBlock) (hne : e' ≠ e) : Y.ownsRow base' e' size' v' n' xs' := by
  obtain ⟨hl, h0 | ⟨g, c, cs, he, hbg, hk, r⟩⟩ := h
  · exact ⟨hl, .inl h0⟩
  · exact ⟨hl, .inr ⟨g, c, cs, he, hbg, Blk.grownRow (t := e') hk ho hg hne, r⟩⟩
theorem ownsRow_chgB {s : List Nat} {X Y : World} {e : TypeId} {base size n : Nat} {v : Value} {xs : List Value} (h : X.ownsRow base e size v n xs) (hc : Chg s X Y) (hs : ∀ k, k ∈ s → k < base) : Y.ownsRow base e size v n xs := by
  obtain ⟨hl, h0 | ⟨g, c, cs, he, hbg, hk, r⟩⟩ := h
  · exact ⟨hl, .inl h0⟩
  · exact ⟨hl, .inr ⟨g, c, cs, he, hbg, Blk.chg (t := e) hk hc (fun hm => by have := hs g hm; omega), r⟩⟩
theorem keeps_grownRow {X Y : World} {e : TypeId} {base size n : Nat} {v : Value} {xs : List Value} (ho : X.ownsRow base e size v n xs) (hg : X.grownBy Y v.ownBlock) : KeepsOthers X Y :=
  KeepsOthers.of_grownBy hg (fun j o hj hk => by
    obtain ⟨_, ⟨rfl, _⟩ | ⟨g, c, cs', rfl, _, hk', _⟩⟩ := ho
    · cases hj
    · obtain rfl : g = j := by simpa [Value.ownBlock] using hj
      rw [hk'] at hk; cases hk; rfl)

section
variable {w X Y : World} {n0 cb bx : Nat} {want : Int} {s t : Nat} {C C' : Caps} {ps ps' : List Fl} {got got' : Int}
/-- A change of other blocks. -/
theorem RM.chg0 (h : RM w X n0 cb bx want s t C ps got) (hc : Chg [] X Y) : RM w Y n0 cb bx want s t C ps got := by
  obtain ⟨v, h1, h2⟩ := h.pb
  exact ⟨⟨h.g.blk.chg hc (by simp), h.g.good⟩, h.gb.chg hc (by simp), h.wb.chg hc (by simp), ⟨v, h1.chg hc (by simp), ownsRow_chgB h2 hc (by simp)⟩, h.qb.chg hc (by simp), h.b1.chg hc (by simp), h.b2.chg hc (by simp), h.b3.chg hc (by simp), h.ch.fresh hc (by simp), h.lt⟩
/-- The copy is pushed in. -/
theorem RM.push (h : RM w X n0 cb bx want s t C ps got) (hw : w.heap.size ≤ n0) (hg : IsG Y cb C') (hc : Chg [cb] X Y) : RM w Y n0 cb bx want s t C' ps got := by
  obtain ⟨v, h1, h2⟩ := h.pb
  have hlt := h.lt
  have f : ∀ k, k ≠ cb → k ∉ [cb] := fun k hk hm => hk (by simpa using hm)
  exact ⟨hg, h.gb.chg hc (f _ (by omega)), h.wb.chg hc (f _ (by omega)), ⟨v, h1.chg hc (f _ (by omega)), ownsRow_chgB h2 hc (by simp; omega)⟩, h.qb.chg hc (f _ (by omega)), h.b1.chg hc (f _ (by omega)), h.b2.chg hc (f _ (by omega)), h.b3.chg hc (f _ (by omega)), h.ch.fresh hc (by simp; omega), hlt⟩
/-- The pushes are more. -/
theorem RM.app {v v' : Value} (h : RM w X n0 cb bx want s t C ps got) (hw : w.heap.size ≤ n0) (hv : Blk X (n0 + 2) 43 #[v]) (ho : X.ownsRow (bx + 3) 114 3 v ps.length (flsCells ps)) (hg : X.grownBy Y v.ownBlock) (ho' : Y.ownsRow (bx + 3) 114 3 v' ps'.length (flsCells ps')) :
    RM w (Y.setCell ⟨n0 + 2, 0, none⟩ v') n0 cb bx want s t C ps' got := by
  have hlt := h.lt
  have hv2 := hv.grownRow ho hg (by decide)
  have hrow : ∀ k, v.ownBlock = some k → w.heap.size ≤ k := fun k hk => by
    obtain ⟨_, ⟨rfl, _⟩ | ⟨g, c, cs', rfl, hb, hk', _⟩⟩ := ho
    · cases hk
    · have : g = k := by simpa [Value.ownBlock] using hk
      omega
  refine ⟨⟨(h.g.blk.grownRow ho hg (by decide)).far (by dsimp only; omega) _, h.g.good⟩, (h.gb.grownRow ho hg (by decide)).far (by dsimp only; omega) _, (h.wb.grownRow ho hg (by decide)).far (by dsimp only; omega) _, ⟨v', hv2.set 0 v', ?_⟩, (h.qb.grownRow ho hg (by decide)).far (by dsimp only; omega) _, (h.b1.grownRow ho hg (by decide)).far (by dsimp only; omega) _, (h.b2.grownRow ho hg (by decide)).far (by dsimp only; omega) _, (h.b3.grownRow ho hg (by decide)).far (by dsimp only; omega) _, (h.ch.grown hg (fun k hk => .inr (hrow k hk))).setCell (.inr (by dsimp only; omega)) _, hlt⟩
  obtain ⟨hl, h0 | ⟨g, c, cs, he, hbg, hk, r⟩⟩ := ho'
  · exact ⟨hl, .inl h0⟩
  · exact ⟨hl, .inr ⟨g, c, cs, he, hbg, Blk.far (t := 114) hk (by dsimp only; omega) _, r⟩⟩
/-- So much more is got. -/
theorem RM.gotten (h : RM w X n0 cb bx want s t C ps got) (hw : w.heap.size ≤ n0) (got' : Int) : RM w (X.setCell ⟨n0 + 3, 0, none⟩ (.int .i64 got')) n0 cb bx want s t C ps got' := by
  have hlt := h.lt
  obtain ⟨v, h1, h2⟩ := h.pb
  refine ⟨⟨h.g.blk.far (by dsimp only; omega) _, h.g.good⟩, h.gb.far (by dsimp only; omega) _, h.wb.far (by dsimp only; omega) _, ⟨v, h1.far (by dsimp only; omega) _, ?_⟩, h.qb.set 0 _, h.b1.far (by dsimp only; omega) _, h.b2.far (by dsimp only; omega) _, h.b3.far (by dsimp only; omega) _, h.ch.setCell (.inr (by dsimp only; omega)) _, hlt⟩
  obtain ⟨hl, h0 | ⟨g, c, cs, he, hbg, hk, r⟩⟩ := h2
  · exact ⟨hl, .inl h0⟩
  · exact ⟨hl, .inr ⟨g, c, cs, he, hbg, Blk.far (t := 114) hk (by dsimp only; omega) _, r⟩⟩
end
end Go.Proofs.Ytofnaigkfhfhoaa
