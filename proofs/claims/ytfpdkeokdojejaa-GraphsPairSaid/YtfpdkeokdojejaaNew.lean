/-
  The package graphs: New. And: a slice of flows that reads as a list.
-/
import Derived.Test.YtfpdkeokdojejaaEdges
namespace Go.Proofs.Ytfpdkeokdojejaa
open Go.RowKit Pl

/-- A value that is a slice of flows and reads as this list. -/
def RdFl (w : World) (v : Value) (l : List Fl) : Prop :=
  (l = [] ∧ ∃ ao cap, v = .slice ao 0 cap ∧ (ao = none → cap = 0)) ∨
  ∃ g off cap, v = .slice (some ⟨g, off, none⟩) l.length cap ∧ l.length ≤ cap ∧ ∀ k (h : k < l.length),
    w.cell? ⟨g, off + k * 3, none⟩ = some (.int .u8 l[k].f) ∧ w.cell? ⟨g, off + k * 3 + 1, none⟩ = some (.int .u8 l[k].t) ∧ w.cell? ⟨g, off + k * 3 + 2, none⟩ = some (.int .i64 l[k].n)

/-- May an edge be? -/
def edgeOk (x : Fl) : Prop := 1 ≤ x.f ∧ x.f ≤ 16 ∧ 1 ≤ x.t ∧ x.t ≤ 16 ∧ x.f ≠ x.t ∧ 0 ≤ x.n ∧ x.n ≤ 2199023255552
instance (x : Fl) : Decidable (edgeOk x) := by unfold edgeOk; exact inferInstance

/-- Edges, laid one by one. T: which ends were told. -/
def newFrom : List Fl → Caps → (Nat → Nat → Bool) → Option Caps
  | [], C, _ => some C
  | x :: l, C, T => if edgeOk x ∧ T x.f x.t = false then newFrom l (set2 C x.f x.t x.n) (fun a b => if a = x.f ∧ b = x.t then true else T a b) else none
/-- The graph of these edges; none: it may not be. -/
def newG (l : List Fl) : Option Caps := newFrom l (fun _ _ => 0) (fun _ _ => false)

/-- What holds while edges are laid. -/
structure Laid (C : Caps) (T : Nat → Nat → Bool) : Prop where
  nonneg : ∀ a b, 0 ≤ C a b
  le : ∀ a b, C a b ≤ 2199023255552
  off : ∀ a b, a ∉ P16 ∨ b ∉ P16 ∨ a = b → C a b = 0
theorem Laid.zero : Laid (fun _ _ => 0) (fun _ _ => false) := ⟨fun _ _ => Int.le_refl _, fun _ _ => by decide, fun _ _ _ => rfl⟩
theorem Laid.set {C : Caps} {T T' : Nat → Nat → Bool} (h : Laid C T) {x : Fl} (hx : edgeOk x) : Laid (set2 C x.f x.t x.n) T' := by
  obtain ⟨h1, h2, h3, h4, h5, h6, h7⟩ := hx
  refine ⟨fun a b => ?_, fun a b => ?_, fun a b hab => ?_⟩
  · unfold set2; split
    · exact h6
    · exact h.nonneg a b
  · unfold set2; split
    · exact h7
    · exact h.le a b
  · unfold set2
    rw [if_neg]
    · exact h.off a b hab
    · rintro ⟨rfl, rfl⟩
      rw [mem_P16, mem_P16] at hab
      omega
theorem Laid.good {C : Caps} {T : Nat → Nat → Bool} (h : Laid C T) : CapOk 4398046511104 C :=
  ⟨h.nonneg, fun a b => by have := h.le a b; have := h.le b a; omega, h.off⟩
theorem newFrom_good : ∀ (l : List Fl) {C : Caps} {T : Nat → Nat → Bool} {D : Caps}, Laid C T → newFrom l C T = some D → CapOk 4398046511104 D
  | [], C, T, D, h, e => by
    simp [newFrom] at e; subst e; exact h.good
  | x :: l, C, T, D, h, e => by
    unfold newFrom at e
    split at e
    · rename_i hx; exact newFrom_good l (h.set hx.1) e
    · cases e

/-- Which ends were told, as cells. -/
def toldA (T : Nat → Nat → Bool) : Array Value := ((List.range 289).map fun k => Value.bool (T (k / 17) (k % 17))).toArray
theorem toldA_size (T : Nat → Nat → Bool) : (toldA T).size = 289 := by simp [toldA]
theorem toldA_get (T : Nat → Nat → Bool) {i j : Nat} (hi : i < 17) (hj : j < 17) : (toldA T)[i * 17 + j]? = some (.bool (T i j)) := by
  have h : i * 17 + j < 289 := by omega
  have e1 : (i * 17 + j) / 17 = i := by omega
  have e2 : (i * 17 + j) % 17 = j := by omega
  simp [toldA, List.getElem?_map, List.getElem?_range h, e1, e2]
theorem toldA_set (T : Nat → Nat → Bool) {i j : Nat} (hi : i < 17) (hj : j < 17) : (toldA T).setIfInBounds (i * 17 + j) (.bool true) = toldA (fun a b => if a = i ∧ b = j then true else T a b) := by
  apply Array.ext_getElem?
  intro k
  rw [Array.getElem?_setIfInBounds]
  by_cases hk : k < 289
  · obtain ⟨a, c, ha, hc, rfl⟩ : ∃ a c, a < 17 ∧ c < 17 ∧ k = a * 17 + c := ⟨k / 17, k % 17, by omega, by omega, by omega⟩
    rw [toldA_get _ ha hc, toldA_get _ ha hc]
    by_cases e : i * 17 + j = a * 17 + c
    · obtain rfl : i = a := by omega
      obtain rfl : j = c := by omega
      rw [if_pos rfl, if_pos (by rw [toldA_size]; omega)]
      simp
    · rw [if_neg e]
      have : ¬ (a = i ∧ c = j) := by rintro ⟨rfl, rfl⟩; exact e rfl
      simp [this]
  · rw [if_neg (by omega), Array.getElem?_eq_none (by rw [toldA_size]; omega), Array.getElem?_eq_none (by rw [toldA_size]; omega)]
theorem zero_told : (Try.prog.info? 78).bind (fun i => i.zero.map Value.cells) = some (toldA (fun _ _ => false)) := by kernel_rfl
theorem build_graph : Try.zeroCells52.setIfInBounds 289 (.bool true) = gcells (fun _ _ => 0) true := by kernel_rfl

/-- What New answers. -/
def NewPost (w : World) (l : List Fl) (e : Ending) (w' : World) : Prop :=
  (match newG l with
    | some C => ∃ b, w.heap.size ≤ b ∧ e = .returned (.tuple #[.pointer (some ⟨b, 0, none⟩), .int .i64 0]) ∧ IsG w' b C
    | none => e = .returned (.tuple #[.pointer none, .int .i64 1])) ∧ Chg [] w w'
theorem NewPost.good {w w' : World} {l : List Fl} {C : Caps} (h : newG l = some C) (hg : IsG w' w.heap.size C) (hc : Chg [] w w') : NewPost w l (.returned (.tuple #[.pointer (some ⟨w.heap.size, 0, none⟩), .int .i64 0])) w' := by
  unfold NewPost; rw [h]; exact ⟨⟨_, Nat.le_refl _, rfl, hg⟩, hc⟩
theorem NewPost.bad {w w' : World} {l : List Fl} (h : newG l = none) (hc : Chg [] w w') : NewPost w l (.returned (.tuple #[.pointer none, .int .i64 1])) w' := by
  unfold NewPost; rw [h]; exact ⟨rfl, hc⟩
theorem NewPost.yes {w w' : World} {l : List Fl} {C : Caps} {e : Ending} (h : newG l = some C) (k : NewPost w l e w') : ∃ b, w.heap.size ≤ b ∧ e = .returned (.tuple #[.pointer (some ⟨b, 0, none⟩), .int .i64 0]) ∧ IsG w' b C ∧ Chg [] w w' := by
  unfold NewPost at k; rw [h] at k
  obtain ⟨⟨b, h1, h2, h3⟩, h4⟩ := k
  exact ⟨b, h1, h2, h3, h4⟩
theorem NewPost.no {w w' : World} {l : List Fl} {e : Ending} (h : newG l = none) (k : NewPost w l e w') : e = .returned (.tuple #[.pointer none, .int .i64 1]) ∧ Chg [] w w' := by
  unfold NewPost at k; rw [h] at k; exact k

set_option maxRecDepth 100000 in
set_option maxHeartbeats 4000000 in
theorem gnew_cells {w : World} {g off cap : Nat} {l : List Fl} (hm : l.length ≤ 1000000)
    (hc : ∀ k (h : k < l.length), w.cell? ⟨g, off + k * 3, none⟩ = some (.int .u8 l[k].f) ∧ w.cell? ⟨g, off + k * 3 + 1, none⟩ = some (.int .u8 l[k].t) ∧ w.cell? ⟨g, off + k * 3 + 2, none⟩ = some (.int .i64 l[k].n)) :
    Calls Try.prog 12 #[.slice (some ⟨g, off, none⟩) l.length cap] w (NewPost w l) := by
  go_enter Try.func12, Try.ntmps12
  go_wp2_with (refine wpList_alloc_zero rfl 78 rfl _ zero_told ?_)
  obtain ⟨wo, hwo⟩ : ∃ wo : World, wo = (w.alloc (.cells (Try.zeroCells52.setIfInBounds 289 (.bool true)) 52)).alloc (.cells (toldA fun _ _ => false) 78) := ⟨_, rfl⟩
  have hb1 : Blk wo w.heap.size 52 (gcells (fun _ _ => 0) true) := by
    rw [hwo, ← build_graph]; exact (Blk.new _ _ _).alloc _
  have hb2 : Blk wo (w.heap.size + 1) 78 (toldA fun _ _ => false) := by
    have := Blk.new (w.alloc (.cells (Try.zeroCells52.setIfInBounds 289 (.bool true)) 52)) 78 (toldA fun _ _ => false)
    rw [World.size_alloc] at this
    rw [hwo]; exact this
  have hch : Chg [] w wo := by rw [hwo]; exact ((Chg.refl _ _).alloc _).alloc _
  rw [← hwo]
  clear hwo
  have HN : Hid (newFrom l (fun _ _ => 0) (fun _ _ => false) = newG l) := rfl
  have HL : Hid (Laid (fun _ _ => 0) (fun _ _ => false)) := Laid.zero
  go_loopw [12] (fun i wr => ∃ (k : Nat) (C : Caps) (T : Nat → Nat → Bool), k ≤ l.length ∧ i = .int .i64 k ∧ Blk wr w.heap.size 52 (gcells C true) ∧ Blk wr (w.heap.size + 1) 78 (toldA T) ∧ Chg [] w wr ∧ Hid (newFrom (l.drop k) C T = newG l) ∧ Hid (Laid C T)) (fun i _ => l.length - (intOf i).toNat)
  case atStart => exact ⟨0, _, _, Nat.zero_le _, rfl, hb1, hb2, hch, HN, HL⟩
  case round =>
    obtain ⟨k, C, T, hk, rfl, hg, ht, hchg, hN, hL⟩ := hrel
    clear hb1 hb2 hch HN HL
    by_cases hlt : k < l.length
    · obtain ⟨q1, q2, q3⟩ := hc k hlt
      clear hc
      have hgl : g < w.heap.size := block_lt_of_cell q1
      have hd : l.drop k = l[k] :: l.drop (k + 1) := List.drop_eq_getElem_cons hlt
      generalize l[k] = x at q1 q2 q3 hd
      have c1 := (hchg.cell (p := ⟨g, off + k * 3, none⟩) hgl (by simp)).trans q1
      have c2 := (hchg.cell (p := ⟨g, off + k * 3 + 1, none⟩) hgl (by simp)).trans q2
      have c3 := (hchg.cell (p := ⟨g, off + k * 3 + 2, none⟩) hgl (by simp)).trans q3
      rw [hd] at hN
      clear hd q1 q2 q3
      obtain ⟨f, t, n⟩ := x
      dsimp only at c1 c2 c3
      have HERR : ¬(edgeOk ⟨f, t, n⟩ ∧ T f t = false) → Hid (newG l = none) := fun h => by
        have := hN.out
        unfold newFrom at this
        rw [if_neg h] at this
        exact this.symm
      have HOK : edgeOk ⟨f, t, n⟩ ∧ T f t = false → Hid (newFrom (l.drop (k + 1)) (set2 C f t n) (fun a b => if a = f ∧ b = t then true else T a b) = newG l) := fun h => by
        have := hN.out
        unfold newFrom at this
        rw [if_pos h] at this
        exact this
      have H3 := Lib.hid (And.intro HERR HOK)
      clear HERR HOK hN
      have hch2 := hchg.alloc (.cells #[.int .u8 f, .int .u8 t, .int .i64 n] 35)
      have hg2 := hg.alloc (.cells #[.int .u8 f, .int .u8 t, .int .i64 n] 35)
      have ht2 := ht.alloc (.cells #[.int .u8 f, .int .u8 t, .int .i64 n] 35)
      have HC2 := Lib.hid hch2
      clear hch2
      go_wp2_with fail
      clear c1 c2 c3
      by_cases h1 : 1 ≤ f ∧ f ≤ 16
      · obtain ⟨h1, h1'⟩ := h1
        refine (gmay_yes _ _ (by omega) (by omega)).mono ?_; rintro e w' ⟨rfl, rfl⟩
        go_wp2_with fail
        by_cases h2 : 1 ≤ t ∧ t ≤ 16
        · obtain ⟨h2, h2'⟩ := h2
          refine (gmay_yes _ _ (by omega) (by omega)).mono ?_; rintro e w' ⟨rfl, rfl⟩
          by_cases h3 : f = t
          · have HB := H3.out.1 (fun h => h.1.2.2.2.2.1 h3)
            subst h3
            go_wp2
            go_ret2
            exact NewPost.bad HB.out HC2.out
          · have e3 : ((f : Int) == t) = false := by rw [beq_eq_false_iff_ne]; omega
            have ct : (wr.alloc (.cells #[.int .u8 f, .int .u8 t, .int .i64 n] 35)).cell? ⟨w.heap.size + 1, f * 17 + t, none⟩ = some (.bool (T f t)) := by
              rw [ht2.cell, toldA_get T (by omega) (by omega)]
            by_cases h4 : n < 0
            · have HB := H3.out.1 (fun h => absurd h.1.2.2.2.2.2.1 (Int.not_le.2 h4))
              go_wp2_with fail
              go_ret2
              exact NewPost.bad HB.out HC2.out
            by_cases h5 : 2199023255552 < n
            · have HB := H3.out.1 (fun h => absurd h.1.2.2.2.2.2.2 (Int.not_le.2 h5))
              go_wp2_with fail
              go_ret2
              exact NewPost.bad HB.out HC2.out
            cases hT : T f t with
            | true =>
              have HB := H3.out.1 (fun h => by rw [hT] at h; exact absurd h.2 (by simp))
              rw [hT] at ct
              clear hT
              go_wp2_with fail
              go_quiet (fail)
              go_wp2
              go_ret2
              exact NewPost.bad HB.out (HC2.out.drewN _)
            | false =>
              have hok : edgeOk ⟨f, t, n⟩ := ⟨h1, h1', h2, h2', h3, Int.not_lt.1 h4, Int.not_lt.1 h5⟩
              have HG := H3.out.2 ⟨hok, hT⟩
              rw [hT] at ct
              clear hT
              go_wp2_with fail
              go_quiet (fail)
              go_wp2
              have hbx := (Blk.new wr 35 #[.int .u8 f, .int .u8 t, .int .i64 n]).drewN nq
              have hg3 := hg2.drewN nq
              have ht3 := ht2.drewN nq
              have hc3 := HC2.out.drewN nq
              have hwsz : w.heap.size + 2 ≤ wr.heap.size := by have := ht.lt; omega
              clear hg2 ht2 ct hg ht hchg HC2
              obtain ⟨W, hW⟩ : ∃ W : World, W = (wr.alloc (.cells #[.int .u8 f, .int .u8 t, .int .i64 n] 35)).drewN nq := ⟨_, rfl⟩
              rw [← hW] at hbx hg3 ht3 hc3 ⊢
              clear hW
              have b1 : W.cell? ⟨wr.heap.size, 0, none⟩ = some (.int .u8 f) := hbx.cell 0
              have b2 : W.cell? ⟨wr.heap.size, 1, none⟩ = some (.int .u8 t) := hbx.cell 1
              have b3 : W.cell? ⟨wr.heap.size, 2, none⟩ = some (.int .i64 n) := hbx.cell 2
              have d1 : W.cell? ⟨w.heap.size + 1, f * 17 + t, none⟩ = some (.bool (T f t)) := by rw [ht3.cell, toldA_get T (by omega) (by omega)]
              have d2 : W.cell? ⟨w.heap.size, f * 17 + t, none⟩ = some (.int .i64 (C f t)) := by rw [hg3.cell, gcells_get C true (by omega) (by omega)]
              have d3 := ht3.frozen (f * 17 + t)
              have d4 := hg3.frozen (f * 17 + t)
              have GG : Hid (∀ V : World, V.heap = ((W.setCell ⟨w.heap.size + 1, f * 17 + t, none⟩ (.bool true)).setCell ⟨w.heap.size, f * 17 + t, none⟩ (.int .i64 n)).heap → Blk V w.heap.size 52 (gcells (set2 C f t n) true) ∧ Blk V (w.heap.size + 1) 78 (toldA fun a b => if a = f ∧ b = t then true else T a b)) := by
                intro V hV
                have k1 := (hg3.far (a := ⟨w.heap.size + 1, f * 17 + t, none⟩) (by simp) (.bool true)).set (f * 17 + t) (.int .i64 n)
                have k2 := (ht3.set (f * 17 + t) (.bool true)).far (a := ⟨w.heap.size, f * 17 + t, none⟩) (by simp) (.int .i64 n)
                rw [gcells_set C true (by omega) (by omega)] at k1
                rw [toldA_set T (by omega) (by omega)] at k2
                exact ⟨k1.same (by rw [hV]), k2.same (by rw [hV])⟩
              have hc4 := Lib.hid ((hc3.setCell (p := ⟨w.heap.size + 1, f * 17 + t, none⟩) (.inr (by simp)) (.bool true)).setCell (p := ⟨w.heap.size, f * 17 + t, none⟩) (.inr (Nat.le_refl _)) (.int .i64 n))
              have hL' : Hid (Laid (set2 C f t n) (fun a b => if a = f ∧ b = t then true else T a b)) := hL.out.set hok
              clear hg3 ht3 hc3 hbx hL H3 e3 h3 hok
              go_region
              go_wp2
              go_roundw
              case rel => exact ⟨k + 1, _, _, by omega, by go_num, (GG.out _ rfl).1, (GG.out _ rfl).2, hc4.out.drew, HG, hL'⟩
              case measure => simp [intOf]; omega
        · have HB := H3.out.1 (fun h => h2 ⟨h.1.2.2.1, h.1.2.2.2.1⟩)
          refine (gmay_no _ _ (by omega)).mono ?_; rintro e w' ⟨rfl, rfl⟩
          go_wp2
          go_ret2
          exact NewPost.bad HB.out HC2.out
      · have HB := H3.out.1 (fun h => h1 ⟨h.1.1, h.1.2.1⟩)
        refine (gmay_no _ _ (by omega)).mono ?_; rintro e w' ⟨rfl, rfl⟩
        go_wp2
        go_ret2
        exact NewPost.bad HB.out HC2.out
    · have : l.drop k = [] := List.drop_eq_nil_of_le (by omega)
      have e := hN.out
      rw [this] at e
      have HR := Lib.hid (NewPost.good e.symm ⟨hg, hL.out.good⟩ hchg)
      clear e this hN hL hg ht hchg
      obtain rfl : k = l.length := by omega
      go_wp2
      go_ret2
      exact HR.out
theorem gnew_none {w : World} (ao : Option Addr) (cap : Nat) :
    Calls Try.prog 12 #[.slice ao 0 cap] w (NewPost w []) := by
  go_enter Try.func12, Try.ntmps12
  go_wp2_with (refine wpList_alloc_zero rfl 78 rfl _ zero_told ?_)
  refine wp_loop_rounds 1 ?_
  rw [rounds_succ]
  go_wp2
  go_ret2
  refine NewPost.good rfl ⟨?_, Laid.zero.good⟩ (((Chg.refl _ _).alloc _).alloc _)
  rw [← build_graph]; exact (Blk.new _ _ _).alloc _

/-- graphs.New, of whatever edges. -/
theorem gnew {w : World} {v : Value} {l : List Fl} (h : RdFl w v l) (hm : l.length ≤ 1000000) : Calls Try.prog 12 #[v] w (NewPost w l) := by
  rcases h with ⟨rfl, ao, cap, rfl, _⟩ | ⟨g, off, cap, rfl, _, hc⟩
  · exact gnew_none ao cap
  · exact gnew_cells hm hc
end Go.Proofs.Ytfpdkeokdojejaa
