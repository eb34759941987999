/-
  Words on worlds that all texts of this place use: a block known whole, a change that is told by the blocks it may touch, a slice that reads as a list of cells.
-/
import Derived.Test.YtofnaigkfhfhoaaChecked
import Derived.WalkKit
import Derived.Outline
import Derived.WalkLawsBesides
import Derived.WalkSpells
import Derived.BigQuiet
import Derived.BigRegion
import Derived.Deep.QuietTactic
import Derived.Lib.Hide
namespace Go.Proofs.Ytofnaigkfhfhoaa
open Go.RowKit

/-! ### A block known whole -/

/-- Block b is a row of these cells, none frozen. -/
def Blk (w : World) (b : Nat) (t : TypeId) (cs : Array Value) : Prop := w.heap[b]? = some (.cells cs t (0, 0))

section
variable {w : World} {b : Nat} {t : TypeId} {cs : Array Value}
theorem Blk.cell (h : Blk w b t cs) (o : Nat) : w.cell? ⟨b, o, none⟩ = cs[o]? := cell_of_row w b o cs t _ h
theorem Blk.frozen (h : Blk w b t cs) (o : Nat) : w.frozen? ⟨b, o, none⟩ = false := frozen_of_row w b o cs t h
theorem Blk.lt (h : Blk w b t cs) : b < w.heap.size := (Array.getElem?_eq_some_iff.1 h).1
theorem Blk.same {w' : World} (h : Blk w b t cs) (e : w'.heap[b]? = w.heap[b]?) : Blk w' b t cs := e.trans h
theorem Blk.alloc (h : Blk w b t cs) (o : Obj) : Blk (w.alloc o) b t cs := h.same (Below.heap_alloc w o b h.lt)
theorem Blk.new (w : World) (t : TypeId) (cs : Array Value) : Blk (w.alloc (.cells cs t)) w.heap.size t cs := heap_alloc_new w _
theorem Blk.drew (h : Blk w b t cs) : Blk w.drew b t cs := h
theorem Blk.drewN (h : Blk w b t cs) (n : Nat) : Blk (w.drewN n) b t cs := h
theorem Blk.set (h : Blk w b t cs) (o : Nat) (v : Value) : Blk (w.setCell ⟨b, o, none⟩ v) b t (cs.setIfInBounds o v) := heap_setCell_same w b o cs t v h
theorem Blk.far (h : Blk w b t cs) {a : Addr} (hne : b ≠ a.block) (v : Value) : Blk (w.setCell a v) b t cs := h.same (heap_setCell_other w a b v hne)
theorem Blk.row (h : Blk w b t cs) (ds : Array Value) : Blk (w.setRow b ds) b t ds := setRow_heap w b cs ds t _ h
theorem Blk.uniq {t' : TypeId} {ds : Array Value} (h : Blk w b t cs) (h' : Blk w b t' ds) : cs = ds := by
  unfold Blk at h h'; rw [h] at h'; simpa using (Option.some.inj h' |> fun e => (Obj.cells.inj e).1)
end

/-! ### A change: which of the blocks that were there it may have touched -/

/-- w' is w with new blocks, and writes to these blocks alone. -/
structure Chg (s : List Nat) (w w' : World) : Prop where
  os : w'.os = w.os
  tape : w'.tape = w.tape
  output : w'.output = w.output
  size : w.heap.size ≤ w'.heap.size
  block : ∀ k, k < w.heap.size → k ∉ s → w'.heap[k]? = w.heap[k]?

section
variable {s : List Nat} {a w w' : World}
theorem Chg.refl (s : List Nat) (w : World) : Chg s w w := ⟨rfl, rfl, rfl, Nat.le_refl _, fun _ _ _ => rfl⟩
theorem Chg.trans (h : Chg s a w) (k : Chg s w w') : Chg s a w' :=
  ⟨k.os.trans h.os, k.tape.trans h.tape, k.output.trans h.output, Nat.le_trans h.size k.size, fun i hi hn => (k.block i (Nat.lt_of_lt_of_le hi h.size) hn).trans (h.block i hi hn)⟩
theorem Chg.mono {s' : List Nat} (h : Chg s w w') (hs : ∀ k, k ∈ s → k ∈ s') : Chg s' w w' :=
  ⟨h.os, h.tape, h.output, h.size, fun i hi hn => h.block i hi (fun hm => hn (hs i hm))⟩
/-- What touches only blocks that are new since a. -/
theorem Chg.fresh {s' : List Nat} (h : Chg s a w) (k : Chg s' w w') (hs : ∀ b, b ∈ s' → b ∈ s ∨ a.heap.size ≤ b) : Chg s a w' :=
  ⟨k.os.trans h.os, k.tape.trans h.tape, k.output.trans h.output, Nat.le_trans h.size k.size, fun i hi hn => (k.block i (Nat.lt_of_lt_of_le hi h.size) (fun hm => by
    rcases hs i hm with hh | hh
    · exact hn hh
    · omega)).trans (h.block i hi hn)⟩
theorem Chg.alloc (h : Chg s a w) (o : Obj) : Chg s a (w.alloc o) :=
  h.trans ⟨rfl, rfl, rfl, by simp, fun k hk _ => Below.heap_alloc w o k hk⟩
theorem Chg.drew (h : Chg s a w) : Chg s a w.drew := ⟨h.os, h.tape, h.output, h.size, h.block⟩
theorem Chg.drewN (h : Chg s a w) (n : Nat) : Chg s a (w.drewN n) := ⟨h.os, h.tape, h.output, h.size, h.block⟩
theorem Chg.setCell (h : Chg s a w) {p : Addr} (hp : p.block ∈ s ∨ a.heap.size ≤ p.block) (v : Value) : Chg s a (w.setCell p v) :=
  ⟨h.os, h.tape, h.output, by simpa [World.setCell] using h.size, fun k hk hn => (heap_setCell_other w p k v (by
    rintro rfl
    rcases hp with hp | hp
    · exact hn hp
    · omega)).trans (h.block k hk hn)⟩
theorem Chg.setRow (h : Chg s a w) {g : Nat} (hp : g ∈ s ∨ a.heap.size ≤ g) (cs : Array Value) : Chg s a (w.setRow g cs) :=
  ⟨h.os, h.tape, h.output, by simpa using h.size, fun k hk hn => (setRow_other w g k cs (by
    rintro rfl
    rcases hp with hp | hp
    · exact hn hp
    · omega)).trans (h.block k hk hn)⟩
theorem Chg.grown (h : Chg s a w) {row : Option Nat} (hg : w.grownBy w' row) (hp : ∀ k, row = some k → k ∈ s ∨ a.heap.size ≤ k) : Chg s a w' :=
  ⟨hg.os.trans h.os, hg.tape.trans h.tape, hg.output.trans h.output, Nat.le_trans h.size hg.size, fun k hk hn => (hg.block k (Nat.lt_of_lt_of_le hk h.size) (fun e => by
    rcases hp k e.symm with hp | hp
    · exact hn hp
    · omega)).trans (h.block k hk hn)⟩
theorem Chg.ofBelow (h : Below w.heap.size w w') : Chg s w w' := ⟨h.os, h.tape, h.output, h.size, fun k hk _ => h.block k hk⟩
theorem Chg.below (h : Chg [] w w') : Below w.heap.size w w' := ⟨h.os, h.tape, h.output, h.size, fun k hk => h.block k hk (by simp)⟩
theorem Chg.cell (h : Chg s w w') {p : Addr} (hp : p.block < w.heap.size) (hn : p.block ∉ s) : w'.cell? p = w.cell? p := World.cell?_of_block (h.block p.block hp hn)
theorem Chg.frozen (h : Chg s w w') {p : Addr} (hp : p.block < w.heap.size) (hn : p.block ∉ s) : w'.frozen? p = w.frozen? p := World.frozen?_of_block (h.block p.block hp hn)
theorem Blk.chg {b : Nat} {t : TypeId} {cs : Array Value} (h : Blk w b t cs) (k : Chg s w w') (hn : b ∉ s) : Blk w' b t cs := h.same (k.block b h.lt hn)
end
end Go.Proofs.Ytofnaigkfhfhoaa
