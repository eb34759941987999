/-
  The book of pages (package countinghouselaw01): number, Flows, Apart.
-/
import Derived.Test.YtfpdkeokdojejaaBookF
import Derived.Maps.AppendAt
namespace Go.Proofs.Ytfpdkeokdojejaa
open Go.RowKit Pl

/-- Block kb is a book with these pages; v: its list. -/
structure IsBook (w : World) (base kb : Nat) (v : Value) (ps : List Value) : Prop where
  blk : Blk w kb 46 #[v]
  own : w.ownsRow base 88 1 v ps.length ps

theorem info_page : (Try.prog.info? 88).map (fun i => (i.zero, i.size, i.bytes)) = some (some .nilIface, 1, 16) := by kernel_rfl

theorem book_number {w : World} {base kb : Nat} {v : Value} {ps : List Value} (h : IsBook w base kb v ps) (hn : ps.length ≤ 1000000) :
    Calls Try.prog 45 #[.pointer (some ⟨kb, 0, none⟩)] w fun e w' => e = .returned (.int .i64 ((ps.length : Int) + 1)) ∧ w = w' := by
  have b0 : w.cell? ⟨kb, 0, none⟩ = some v := h.blk.cell 0
  have hv : ∃ a cap, v = .slice a ps.length cap := by
    obtain ⟨_, ⟨rfl, h0⟩ | ⟨g, cap, cs, rfl, _⟩⟩ := h.own
    · exact ⟨none, 0, by rw [h0]⟩
    · exact ⟨_, _, rfl⟩
  obtain ⟨a, cap, rfl⟩ := hv
  clear h
  go_enter Try.func45, Try.ntmps45
  go_wp2
  go_ret
  exact ⟨rfl, rfl⟩

/-- The page of a list of flows, as a value of the interface. -/
def pageF (v : Value) (n : Int) : Value := .iface 86 (.agg #[v, .int .u8 0, .int .u8 0, .int .i64 n, .int .u8 0, .int .u8 0, .int .i64 (-n)])
theorem pageF_eq (v : Value) (n : Int) : pageF v n = .iface 86 (rowF v ⟨0, 0, n⟩ ⟨0, 0, -n⟩) := rfl

set_option maxRecDepth 100000 in
set_option maxHeartbeats 1000000 in
theorem book_flows {w : World} {base kb : Nat} {v : Value} {ps : List Value} (h : IsBook w base kb v ps) (hn : ps.length ≤ 1000) (hbase : base ≤ w.heap.size) (hkb : ∀ g, v.ownBlock = some g → g ≠ kb) (u : Value) (hu : u = .slice none 0 0 ∨ ∃ g n, u = .slice (some ⟨g, 0, none⟩) n n) :
    Calls Try.prog 24 #[.pointer (some ⟨kb, 0, none⟩), u] w fun e w' => e = .returned (.tuple #[]) ∧
      ∃ v', IsBook w' base kb v' (ps ++ [pageF u ((ps.length : Int) + 1)]) ∧ Chg (kb :: v.ownBlock.toList) w w' ∧ (v'.ownBlock = v.ownBlock ∨ ∃ g, v'.ownBlock = some g ∧ w.heap.size ≤ g) := by
  have H1 := Lib.hid (book_number h (by omega))
  have b0 : w.cell? ⟨kb, 0, none⟩ = some v := h.blk.cell 0
  obtain ⟨i0, hi, hz0, hz1, hz2⟩ := info_parts info_page
  have II := Lib.hid (And.intro hi (And.intro hz0 (And.intro hz1 hz2)))
  have HH := Lib.hid (And.intro h hkb)
  clear hi hz0 hz1 hz2 h hkb
  generalize hN : ps.length = N at *
  have HN := Lib.hid hN
  clear hN
  have hus : ∃ a n cap, u = .slice a n cap := by
    rcases hu with rfl | ⟨g, n, rfl⟩
    · exact ⟨_, _, _, rfl⟩
    · exact ⟨_, _, _, rfl⟩
  have hvs : ∃ a n cap, v = .slice a n cap := by
    obtain ⟨_, ⟨rfl, h0⟩ | ⟨g, cap, cs, rfl, _⟩⟩ := HH.out.1.own
    · exact ⟨_, _, _, rfl⟩
    · exact ⟨_, _, _, rfl⟩
  obtain ⟨va, vn, vc, rfl⟩ := hvs
  obtain ⟨ua, un, uc, rfl⟩ := hus
  clear hu
  go_enter Try.func24, Try.ntmps24
  go_wp2_with fail
  refine H1.out.mono ?_; rintro e w' ⟨rfl, rfl⟩
  go_wp2_with (at_builtin; refine wpList_append_own_at _ rfl _ _ 44 rfl base 88 i0 _ 1 16 Try.underlying44 II.out.1 II.out.2.1 II.out.2.2.1 II.out.2.2.2 rfl (by decide) _ N ps rfl ((HN.out ▸ HH.out.1.own).alloc _) ⟨w.heap.size, 0, none⟩ 1 1 [pageF (.slice ua un uc) ((N : Int) + 1)] rfl rfl (cells_new _ [pageF (.slice ua un uc) ((N : Int) + 1)] _) (by intro u hu; simp at hu; subst hu; rfl) (le_maxLen (by omega)) (by omega) (by simp; omega) ?_)
  intro v' w1 hown hgrow _ hloc
  obtain ⟨hl, ⟨_, h0⟩ | ⟨g', cap', cs, rfl, hbg, hrest⟩⟩ := hown
  · omega
  have hc1 : Chg (kb :: (Value.slice va vn vc).ownBlock.toList) w w1 := ((Chg.refl (kb :: (Value.slice va vn vc).ownBlock.toList) w).alloc (.cells [pageF (.slice ua un uc) ((N : Int) + 1)].toArray 88)).grown hgrow (by intro q hq; left; simp [hq])
  have hkl := HH.out.1.blk.lt
  have hkb1 : Blk w1 kb 46 #[.slice va vn vc] := (HH.out.1.blk.alloc (.cells [pageF (.slice ua un uc) ((N : Int) + 1)].toArray 88)).same (hgrow.block kb (by simp; omega) (by
    intro e; exact HH.out.2 kb e.symm rfl))
  have d0 : w1.cell? ⟨kb, 0, none⟩ = some (.slice va vn vc) := hkb1.cell 0
  have d1 := hkb1.frozen 0
  have hne : g' ≠ kb := by
    rcases hloc with h | h
    · intro e; subst e; exact HH.out.2 _ h.symm rfl
    · simp [Value.ownBlock] at h; omega
  have hfin : IsBook (w1.setCell ⟨kb, 0, none⟩ (.slice (some ⟨g', 0, none⟩) (N + 1) cap')) base kb (.slice (some ⟨g', 0, none⟩) (N + 1) cap') (ps ++ [pageF (.slice ua un uc) ((N : Int) + 1)]) := by
    refine ⟨hkb1.set 0 _, ?_⟩
    have e : (ps ++ [pageF (.slice ua un uc) ((N : Int) + 1)]).length = N + 1 := by simp [HN.out]
    rw [e]
    exact ⟨hl, .inr ⟨g', cap', cs, rfl, hbg, by rw [heap_setCell_other _ _ _ _ hne]; exact hrest.1, hrest.2⟩⟩
  have hc2 := hc1.setCell (p := ⟨kb, 0, none⟩) (.inl (by simp)) (.slice (some ⟨g', 0, none⟩) (N + 1) cap')
  have hl2 : (Value.slice (some ⟨g', 0, none⟩) (N + 1) cap').ownBlock = (Value.slice va vn vc).ownBlock ∨ ∃ g, (Value.slice (some ⟨g', 0, none⟩) (N + 1) cap').ownBlock = some g ∧ w.heap.size ≤ g := by
    rcases hloc with h | h
    · exact .inl h
    · exact .inr ⟨_, h, by simp⟩
  have FF := Lib.hid (And.intro hfin (And.intro hc2 hl2))
  clear hfin hc2 hl2 hne hkb1 hc1 hloc hgrow hrest hl hbg HH II H1 hkl
  go_wp2
  go_end0
  exact ⟨rfl, _, FF.out⟩
end Go.Proofs.Ytfpdkeokdojejaa
