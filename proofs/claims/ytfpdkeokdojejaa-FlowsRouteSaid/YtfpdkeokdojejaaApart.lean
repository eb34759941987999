/-
  The book of pages (package countinghouselaw01): Apart.
-/
import Derived.Test.YtfpdkeokdojejaaBook
namespace Go.Proofs.Ytfpdkeokdojejaa
open Go.RowKit Pl

/-- A page: what it is, which blocks it may write, what holds ahead of the writing and behind it, and that its three methods keep to that. -/
structure Page where
  T : TypeId
  x : Value
  gs : List Nat
  fw : FuncId
  fb : FuncId
  fs : FuncId
  Ready : World → Prop
  Marked : World → Prop
  mw : ∀ (n : Nat) (W : World), 0 < n → (method n T x "countinghouse/countinghouselaw01.write").run Try.prog W = .ok (fw, x) W
  mb : ∀ (n : Nat) (W : World), 0 < n → (method n T x "countinghouse/countinghouselaw01.writeBehind").run Try.prog W = .ok (fb, x) W
  ms : ∀ (n : Nat) (W : World), 0 < n → (method n T x "countinghouse/countinghouselaw01.stands").run Try.prog W = .ok (fs, x) W
  ew : ∀ (args : Array Value) (W : World), (callFunc fw args).run Try.prog W = .ok (.enter fw args) W
  eb : ∀ (args : Array Value) (W : World), (callFunc fb args).run Try.prog W = .ok (.enter fb args) W
  es : ∀ (args : Array Value) (W : World), (callFunc fs args).run Try.prog W = .ok (.enter fs args) W
  ready : ∀ (W W' : World) (s : List Nat), Ready W → Chg s W W' → (∀ g, g ∈ gs → g ∉ s) → Ready W'
  marked : ∀ (W W' : World) (s : List Nat), Marked W → Chg s W W' → (∀ g, g ∈ gs → g ∉ s) → Marked W'
  write : ∀ W : World, Ready W → Calls Try.prog fw #[x] W fun e W' => e = .returned (.tuple #[]) ∧ Marked W' ∧ Chg gs W W'
  behind : ∀ W : World, Marked W → Calls Try.prog fb #[x] W fun e W' => e = .returned (.tuple #[]) ∧ Chg [] W W'
  stands : ∀ W : World, Marked W → Calls Try.prog fs #[x] W fun e W' => e = .returned (.bool true) ∧ Chg [] W W'

def Page.val (p : Page) : Value := .iface p.T p.x

set_option maxRecDepth 100000 in
set_option maxHeartbeats 4000000 in
theorem book_apart {w : World} {base kb : Nat} {v : Value} {ps : List Page} (h : IsBook w base kb v (ps.map Page.val)) (hn : ps.length ≤ 100)
    (hkb : ∀ p ∈ ps, ∀ g ∈ p.gs, g ≠ kb ∧ v.ownBlock ≠ some g) (hdis : ps.Pairwise fun p q => ∀ g ∈ p.gs, g ∉ q.gs) (hrd : ∀ p ∈ ps, p.Ready w) :
    Calls Try.prog 25 #[.pointer (some ⟨kb, 0, none⟩)] w fun e w' => e = .returned (.bool true) ∧ Chg (ps.flatMap Page.gs) w w' := by
  have b0 : w.cell? ⟨kb, 0, none⟩ = some v := h.blk.cell 0
  have hv : ∃ a cap, v = .slice a ps.length cap := by
    obtain ⟨_, ⟨rfl, h0⟩ | ⟨g, cap, cs, rfl, _⟩⟩ := h.own
    · exact ⟨none, 0, by rw [List.length_map] at h0; rw [h0]⟩
    · exact ⟨_, _, by rw [List.length_map]⟩
  obtain ⟨a, cap, rfl⟩ := hv
  have HH := Lib.hid (And.intro h (And.intro hkb (And.intro hdis hrd)))
  clear h hkb hdis hrd
  go_enter Try.func25, Try.ntmps25
  go_wp2
  have hS : ∀ (p : Page), p ∈ ps → ∀ g ∈ p.gs, g ∈ ps.flatMap Page.gs := fun p hp g hg => List.mem_flatMap.2 ⟨p, hp, hg⟩
  have BK : Hid (∀ W, Chg (ps.flatMap Page.gs) w W → IsBook W base kb (.slice a ps.length cap) (ps.map Page.val)) := by
    intro W hW
    obtain ⟨hb, ho⟩ := HH.out.1
    have hkb : kb ∉ ps.flatMap Page.gs := by
      intro hm
      obtain ⟨p, hp, hg⟩ := List.mem_flatMap.1 hm
      exact (HH.out.2.1 p hp kb hg).1 rfl
    refine ⟨hb.chg hW hkb, ?_⟩
    obtain ⟨hl, h0 | ⟨g, c, cs, he, hbg, hg, hr⟩⟩ := ho
    · exact ⟨hl, .inl h0⟩
    · refine ⟨hl, .inr ⟨g, c, cs, he, hbg, ?_, hr⟩⟩
      have hgn : g ∉ ps.flatMap Page.gs := by
        intro hm
        obtain ⟨p, hp, hgp⟩ := List.mem_flatMap.1 hm
        exact (HH.out.2.1 p hp g hgp).2 (by rw [he]; rfl)
      rw [hW.block g (Array.getElem?_eq_some_iff.1 hg).1 hgn]; exact hg
  have CELL : Hid (∀ W, Chg (ps.flatMap Page.gs) w W → ∀ k (hk : k < ps.length), ∃ g, a = some ⟨g, 0, none⟩ ∧ W.cell? ⟨g, k, none⟩ = some (.iface ps[k].T ps[k].x)) := by
    intro W hW k hk
    obtain ⟨hl, ⟨h0, h1⟩ | ⟨g, c, cs, he, hbg, hg, _, _, hs, ht⟩⟩ := (BK.out W hW).own
    · rw [List.length_map] at h1; omega
    · simp only [Value.slice.injEq] at he
      refine ⟨g, he.1, ?_⟩
      rw [cell_of_row W g k cs _ _ hg]
      have : (cs.toList.take ((ps.map Page.val).length * 1))[k]? = (ps.map Page.val)[k]? := by rw [ht]
      rw [List.getElem?_take, if_pos (by simpa using hk)] at this
      simpa [Page.val, hk] using this
  go_loopw [3] (fun i wr => ∃ k : Nat, k ≤ ps.length ∧ i = .int .i64 k ∧ Chg (ps.flatMap Page.gs) w wr ∧ (∀ j (hj : j < ps.length), j < k → ps[j].Marked wr) ∧ (∀ j (hj : j < ps.length), k ≤ j → ps[j].Ready wr)) (fun i _ => ps.length - (intOf i).toNat)
  case atStart => exact ⟨0, Nat.zero_le _, rfl, Chg.refl _ _, fun j hj h => by omega, fun j hj _ => HH.out.2.2.2 _ (List.getElem_mem hj)⟩
  case round =>
    obtain ⟨k, hk, rfl, hchg, hmk, hrd⟩ := hrel
    have b1 : wr.cell? ⟨kb, 0, none⟩ = some (.slice a ps.length cap) := (BK.out wr hchg).blk.cell 0
    by_cases hlt : k < ps.length
    · obtain ⟨g, rfl, hcell⟩ := CELL.out wr hchg k hlt
      have hm := fun n W h => ps[k].mw n W h
      have he := fun args W => ps[k].ew args W
      have hw := ps[k].write wr (hrd k hlt (Nat.le_refl _))
      have HW := Lib.hid (And.intro hw (And.intro hmk (And.intro hrd hchg)))
      clear hw hmk hrd hchg
      go_wp2_with fail
      refine HW.out.1.mono ?_; rintro e w' ⟨rfl, hM, hC⟩
      have R : Hid (Chg (ps.flatMap Page.gs) w w' ∧ (∀ j (hj : j < ps.length), j < k + 1 → ps[j].Marked w') ∧ (∀ j (hj : j < ps.length), k + 1 ≤ j → ps[j].Ready w')) := by
        refine ⟨HW.out.2.2.2.trans (hC.mono (fun g hg => hS _ (List.getElem_mem hlt) g hg)), ?_, ?_⟩
        · intro j hj hjk
          by_cases e : j = k
          · subst e; exact hM
          · have hlt2 : j < k := by omega
            exact ps[j].marked wr w' _ (HW.out.2.1 j hj hlt2) hC (fun g hg => List.pairwise_iff_getElem.1 HH.out.2.2.1 j k hj hlt hlt2 g hg)
        · intro j hj hjk
          exact ps[j].ready wr w' _ (HW.out.2.2.1 j hj (by omega)) hC (fun g hg hg' => List.pairwise_iff_getElem.1 HH.out.2.2.1 k j hlt hj (by omega) g hg' hg)
      clear hM hC HW hm he hcell b1
      go_wp2
      go_roundw
      case rel => exact ⟨k + 1, by omega, by go_num, R.out⟩
      case measure => simp [intOf]; omega
    · obtain rfl : k = ps.length := by omega
      have hmk' : ∀ j (hj : j < ps.length), ps[j].Marked wr := fun j hj => hmk j hj hj
      have MK := Lib.hid hmk'
      have HC := Lib.hid hchg
      clear hmk hrd hchg hmk'
      go_wp2
      clear b1
      go_loopw [4] (fun i ws => ∃ k : Nat, k ≤ ps.length ∧ i = .int .i64 k ∧ Chg (ps.flatMap Page.gs) w ws ∧ (∀ j (hj : j < ps.length), ps[j].Marked ws)) (fun i _ => ps.length - (intOf i).toNat)
      case atStart => exact ⟨0, Nat.zero_le _, rfl, HC.out, MK.out⟩
      case round =>
        obtain ⟨k, hk, rfl, hchg, hmk⟩ := hrel
        have b1 : wr.cell? ⟨kb, 0, none⟩ = some (.slice a ps.length cap) := (BK.out wr hchg).blk.cell 0
        by_cases hlt : k < ps.length
        · obtain ⟨g, rfl, hcell⟩ := CELL.out wr hchg k hlt
          have hm := fun n W h => ps[k].mb n W h
          have he := fun args W => ps[k].eb args W
          have hw := ps[k].behind wr (hmk k hlt)
          have HW := Lib.hid (And.intro hw (And.intro hmk hchg))
          clear hw hmk hchg
          go_wp2_with fail
          refine HW.out.1.mono ?_; rintro e w' ⟨rfl, hC⟩
          have R : Hid (Chg (ps.flatMap Page.gs) w w' ∧ (∀ j (hj : j < ps.length), ps[j].Marked w')) :=
            ⟨HW.out.2.2.trans (hC.mono (by simp)), fun j hj => ps[j].marked wr w' _ (HW.out.2.1 j hj) hC (by simp)⟩
          clear hC HW hm he hcell b1
          go_wp2
          go_roundw
          case rel => exact ⟨k + 1, by omega, by go_num, R.out⟩
          case measure => simp [intOf]; omega
        · obtain rfl : k = ps.length := by omega
          have MK2 := Lib.hid hmk
          have HC2 := Lib.hid hchg
          clear hmk hchg
          go_wp2
          clear b1
          go_loopw [5] (fun i ws => ∃ k : Nat, k ≤ ps.length ∧ i = .int .i64 k ∧ Chg (ps.flatMap Page.gs) w ws ∧ (∀ j (hj : j < ps.length), ps[j].Marked ws)) (fun i _ => ps.length - (intOf i).toNat)
          case atStart => exact ⟨0, Nat.zero_le _, rfl, HC2.out, MK2.out⟩
          case round =>
            obtain ⟨k, hk, rfl, hchg, hmk⟩ := hrel
            have b1 : wr.cell? ⟨kb, 0, none⟩ = some (.slice a ps.length cap) := (BK.out wr hchg).blk.cell 0
            by_cases hlt : k < ps.length
            · obtain ⟨g, rfl, hcell⟩ := CELL.out wr hchg k hlt
              have hm := fun n W h => ps[k].ms n W h
              have he := fun args W => ps[k].es args W
              have hw := ps[k].stands wr (hmk k hlt)
              have HW := Lib.hid (And.intro hw (And.intro hmk hchg))
              clear hw hmk hchg
              go_wp2_with fail
              refine HW.out.1.mono ?_; rintro e w' ⟨rfl, hC⟩
              have R : Hid (Chg (ps.flatMap Page.gs) w w' ∧ (∀ j (hj : j < ps.length), ps[j].Marked w')) :=
                ⟨HW.out.2.2.trans (hC.mono (by simp)), fun j hj => ps[j].marked wr w' _ (HW.out.2.1 j hj) hC (by simp)⟩
              clear hC HW hm he hcell b1
              go_wp2
              go_roundw
              case rel => exact ⟨k + 1, by omega, by go_num, R.out⟩
              case measure => simp [intOf]; omega
            · obtain rfl : k = ps.length := by omega
              have HC3 := Lib.hid hchg
              clear hmk hchg
              go_wp2
              go_ret
              exact ⟨rfl, HC3.out⟩
end Go.Proofs.Ytfpdkeokdojejaa
