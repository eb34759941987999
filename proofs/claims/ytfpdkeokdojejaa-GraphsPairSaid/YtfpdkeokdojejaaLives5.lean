/-
  The law's own example of chapter 5: lives.
-/
import Derived.Test.YtfpdkeokdojejaaNew
import Derived.Laws.StructEq
namespace Go.Proofs.Ytfpdkeokdojejaa
open Go.RowKit Pl

section
variable {w w' : World} {v : Value} {l : List Fl}
theorem flsCells_get : ∀ (l : List Fl) (k : Nat) (h : k < l.length), (flsCells l)[k * 3]? = some (.int .u8 l[k].f) ∧ (flsCells l)[k * 3 + 1]? = some (.int .u8 l[k].t) ∧ (flsCells l)[k * 3 + 2]? = some (.int .i64 l[k].n)
  | [], k, h => by simp at h
  | x :: l, 0, h => by simp [flsCells, flCells]
  | x :: l, k + 1, h => by
    have ih := flsCells_get l k (by simpa using h)
    have e : flsCells (x :: l) = flCells x ++ flsCells l := by simp [flsCells]
    rw [e]
    have h3 : (flCells x).length = 3 := rfl
    refine ⟨?_, ?_, ?_⟩
    · rw [List.getElem?_append_right (by rw [h3]; omega), h3, show (k + 1) * 3 - 3 = k * 3 from by omega]; simpa using ih.1
    · rw [List.getElem?_append_right (by rw [h3]; omega), h3, show (k + 1) * 3 + 1 - 3 = k * 3 + 1 from by omega]; simpa using ih.2.1
    · rw [List.getElem?_append_right (by rw [h3]; omega), h3, show (k + 1) * 3 + 2 - 3 = k * 3 + 2 from by omega]; simpa using ih.2.2

theorem RdFl.of_blk {g off cap : Nat} {t : TypeId} {cs : Array Value} (hb : Blk w g t cs) (hn : l.length ≤ cap) (h : ∀ k, k < l.length * 3 → cs[off + k]? = (flsCells l)[k]?) : RdFl w (.slice (some ⟨g, off, none⟩) l.length cap) l := by
  refine .inr ⟨g, off, cap, rfl, hn, fun k hk => ?_⟩
  obtain ⟨h1, h2, h3⟩ := flsCells_get l k hk
  refine ⟨?_, ?_, ?_⟩
  · rw [hb.cell, h _ (by omega), h1]
  · rw [Nat.add_assoc, hb.cell, h _ (by omega), h2]
  · rw [Nat.add_assoc, hb.cell, h _ (by omega), h3]

theorem OwnSl.rd {base : Nat} {t : TypeId} (h : OwnSl w base t 3 v l.length (flsCells l)) : RdFl w v l := by
  obtain ⟨hl, ⟨rfl, h0⟩ | ⟨g, cs, rfl, hb, hk, hs, ht⟩⟩ := h
  · have : l = [] := List.eq_nil_of_length_eq_zero h0
    subst this
    exact .inl ⟨rfl, none, 0, rfl, fun _ => rfl⟩
  · refine RdFl.of_blk hk (Nat.le_refl _) fun k hkl => ?_
    rw [← ht, List.getElem?_take, if_pos (by omega), Nat.zero_add]
    simp

theorem RdFl.chg {s : List Nat} (h : RdFl w v l) (k : Chg s w w') (hs : ∀ a n c, v = .slice (some a) n c → a.block ∉ s) : RdFl w' v l := by
  rcases h with h | ⟨g, off, cap, rfl, hn, hc⟩
  · exact .inl h
  · refine .inr ⟨g, off, cap, rfl, hn, fun i hi => ?_⟩
    have hg := hs _ _ _ rfl
    obtain ⟨h1, h2, h3⟩ := hc i hi
    have hlt := block_lt_of_cell h1
    exact ⟨(k.cell (p := ⟨g, off + i * 3, none⟩) hlt hg).trans h1, (k.cell (p := ⟨g, off + i * 3 + 1, none⟩) hlt hg).trans h2, (k.cell (p := ⟨g, off + i * 3 + 2, none⟩) hlt hg).trans h3⟩
theorem RdFl.chg0 (h : RdFl w v l) (k : Chg [] w w') : RdFl w' v l := h.chg k (by simp)
end

def livesE : List Fl := [⟨1, 2, 5⟩, ⟨2, 1, 1⟩]
def livesC : Caps := set2 (set2 (fun _ _ => 0) 1 2 5) 2 1 1
theorem lives_new : newG livesE = some livesC := by rfl
theorem lives_e1 : pushE livesC 1 2 3 = 0 := by decide
def livesC1 : Caps := push livesC 1 2 3
theorem lives_c1 : pushC livesC 1 2 3 = livesC1 := by unfold pushC; rw [if_pos lives_e1]; rfl
theorem lives_a : livesC1 1 2 = 2 := by decide
theorem lives_b : livesC1 2 1 = 4 := by decide
theorem lives_e2 : pushE livesC1 1 2 3 = 11 := by decide
theorem lives_c2 : pushC livesC1 1 2 3 = livesC1 := by unfold pushC; rw [lives_e2]; rfl
theorem lives_e3 : pushE livesC1 2 1 4 = 0 := by decide
def livesC3 : Caps := push livesC1 2 1 4
theorem lives_c3 : pushC livesC1 2 1 4 = livesC3 := by unfold pushC; rw [if_pos lives_e3]; rfl
theorem lives_edges : edgesOf livesC3 = [⟨1, 2, 6⟩] := by decide +kernel

set_option maxRecDepth 100000 in
set_option maxHeartbeats 4000000 in
theorem lives5 (w : World) : Calls Try.prog 10 #[] w fun e w' => e = .returned (.bool true) ∧ Chg [] w w' := by
  have R0 : RdFl (w.alloc (.cells (flsCells livesE).toArray 35)) (.slice (some ⟨w.heap.size, 0, none⟩) 2 2) livesE := RdFl.of_blk (Blk.new w _ _) (Nat.le_refl _) (fun k _ => by simp)
  have HR := Lib.hid R0
  clear R0
  go_enter Try.func10, Try.ntmps10
  go_wp2_with fail
  refine (gnew HR.out (by decide)).mono ?_
  intro e w1 hp
  obtain ⟨b, hb, rfl, hG, hC⟩ := NewPost.yes lives_new hp
  have hbs : ∀ x, x ∈ [b] → x ∈ ([] : List Nat) ∨ w.heap.size ≤ x := by
    intro x hx; simp at hx; subst hx; rw [World.size_alloc] at hb; exact .inr (by omega)
  have G1 := Lib.hid hG
  have C1 := Lib.hid (((Chg.refl [] w).alloc (.cells (flsCells livesE).toArray 35)).trans hC)
  have HB := Lib.hid hbs
  clear hp hG hC HR hb hbs
  go_wp2_with fail
  refine (gpush G1.out (p := 1) (q := 2) (f := 1) (t := 2) 3 rfl rfl).mono ?_
  rw [lives_e1, lives_c1]
  rintro e w2 ⟨rfl, hG, hC⟩
  have G2 := Lib.hid hG
  have C2 := Lib.hid (C1.out.fresh hC HB.out)
  clear hG hC G1 C1
  go_wp2_with fail
  refine (gcap G2.out (p := 1) (q := 2) (f := 1) (t := 2) rfl rfl).mono ?_
  rw [lives_a]
  rintro e w' ⟨rfl, rfl⟩
  go_wp2_with fail
  refine (gcap G2.out (p := 2) (q := 1) (f := 2) (t := 1) rfl rfl).mono ?_
  rw [lives_b]
  rintro e w' ⟨rfl, rfl⟩
  go_wp2_with fail
  refine (gpush G2.out (p := 1) (q := 2) (f := 1) (t := 2) 3 rfl rfl).mono ?_
  rw [lives_e2, lives_c2]
  rintro e w3 ⟨rfl, hG, hC⟩
  have G3 := Lib.hid hG
  have C3 := Lib.hid (C2.out.fresh hC HB.out)
  clear hG hC G2 C2
  go_wp2_with fail
  refine (gpush G3.out (p := 2) (q := 1) (f := 2) (t := 1) 4 rfl rfl).mono ?_
  rw [lives_e3, lives_c3]
  rintro e w4 ⟨rfl, hG, hC⟩
  have G4 := Lib.hid hG
  have C4 := Lib.hid (C3.out.fresh hC HB.out)
  clear hG hC G3 C3
  go_wp2_with fail
  refine (gedges G4.out).mono ?_
  rw [lives_edges]
  rintro e w5 ⟨⟨v, rfl, ho⟩, hC⟩
  have C5 := Lib.hid (C4.out.trans hC)
  have hr := ho.rd (l := [⟨1, 2, 6⟩])
  rcases hr with ⟨h, _⟩ | ⟨g, off, cap, rfl, _, hc⟩
  · cases h
  obtain ⟨q1, q2, q3⟩ := hc 0 (by decide)
  have q1' : w5.cell? ⟨g, off, none⟩ = some (.int .u8 1) := q1
  have q2' : w5.cell? ⟨g, off + 1, none⟩ = some (.int .u8 2) := q2
  have q3' : w5.cell? ⟨g, off + 2, none⟩ = some (.int .i64 6) := q3
  clear q1 q2 q3 hc ho hC C4
  go_wp2
  go_ret
  exact ⟨rfl, C5.out⟩
end Go.Proofs.Ytfpdkeokdojejaa
