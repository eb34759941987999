/-
  The package graphs: Of, on a ledger that is there.
-/
import Derived.Test.YtofnaigkfhfhoaaLPart
import Derived.Test.YtofnaigkfhfhoaaVoidL
namespace Go.Proofs.Ytofnaigkfhfhoaa
open Go.RowKit Go.Maps Pl
attribute [local go_sem ↓] Go.wp_at_zero Go.wp_at_succ

/-- A ledger's rooms in one currency. -/
def capsL (S : Nat → Bool) (L : List Ln) (u : Nat) : Caps := fun a b => if S a = true ∧ S b = true then room L a b u else 0
/-- The table, part laid: rows before i, and j cells of row i. -/
def partC (L : List Ln) (u : Nat) (ps : List Nat) (i j : Nat) : Caps := fun a b => if (a ∈ ps.take i ∧ b ∈ ps) ∨ (ps[i]? = some a ∧ b ∈ ps.take j) then room L a b u else 0
theorem partC_zero (L : List Ln) (u : Nat) (ps : List Nat) : partC L u ps 0 0 = fun _ _ => 0 := by
  funext a b
  simp [partC]
theorem mem_take_succ {ps : List Nat} {i x : Nat} (h : i < ps.length) : x ∈ ps.take (i + 1) ↔ x ∈ ps.take i ∨ x = ps[i] := by
  rw [← List.take_append_getElem h, List.mem_append, List.mem_singleton]
theorem partC_row (L : List Ln) (u : Nat) {ps : List Nat} {i : Nat} (h : i < ps.length) : partC L u ps i ps.length = partC L u ps (i + 1) 0 := by
  funext a b
  have e : ((a ∈ ps.take i ∧ b ∈ ps) ∨ (ps[i]? = some a ∧ b ∈ ps.take ps.length)) ↔ ((a ∈ ps.take (i + 1) ∧ b ∈ ps) ∨ (ps[i + 1]? = some a ∧ b ∈ ps.take 0)) := by
    rw [mem_take_succ h, List.take_length, List.getElem?_eq_getElem h]
    simp only [List.take_zero, List.not_mem_nil, and_false, or_false, Option.some.injEq]
    constructor
    · rintro (⟨h1, h2⟩ | ⟨h1, h2⟩)
      · exact ⟨.inl h1, h2⟩
      · exact ⟨.inr h1.symm, h2⟩
    · rintro ⟨h1 | h1, h2⟩
      · exact .inl ⟨h1, h2⟩
      · exact .inr ⟨h1.symm, h2⟩
  unfold partC
  simp only [e]
theorem partC_cell (L : List Ln) (u : Nat) {ps : List Nat} {i j : Nat} (hi : i < ps.length) (hj : j < ps.length) : set2 (partC L u ps i j) ps[i] ps[j] (room L ps[i] ps[j] u) = partC L u ps i (j + 1) := by
  funext a b
  unfold set2
  have e : ((a ∈ ps.take i ∧ b ∈ ps) ∨ (ps[i]? = some a ∧ b ∈ ps.take (j + 1))) ↔ (((a ∈ ps.take i ∧ b ∈ ps) ∨ (ps[i]? = some a ∧ b ∈ ps.take j)) ∨ (a = ps[i] ∧ b = ps[j])) := by
    rw [mem_take_succ hj, List.getElem?_eq_getElem hi]
    simp only [Option.some.injEq]
    constructor
    · rintro (h | ⟨h1, h2 | h2⟩)
      · exact .inl (.inl h)
      · exact .inl (.inr ⟨h1, h2⟩)
      · exact .inr ⟨h1.symm, h2⟩
    · rintro ((h | ⟨h1, h2⟩) | ⟨h1, h2⟩)
      · exact .inl h
      · exact .inr ⟨h1, .inl h2⟩
      · exact .inr ⟨h1.symm, .inr h2⟩
  split
  · rename_i hab
    obtain ⟨rfl, rfl⟩ := hab
    unfold partC
    rw [if_pos (e.2 (.inr ⟨rfl, rfl⟩))]
  · rename_i hab
    unfold partC
    simp only [e, hab, or_false]
theorem mem_ptsOf {S : Nat → Bool} {n p : Nat} : p ∈ ptsOf S n ↔ p < n ∧ S p = true := by simp [ptsOf]
theorem partC_all {S : Nat → Bool} {L : List Ln} (h : GoodL S L) (u : Nat) : partC L u (ptsOf S 17) (ptsOf S 17).length 0 = capsL S L u := by
  funext a b
  have hm : ∀ p, p ∈ ptsOf S 17 ↔ S p = true := fun p => by
    rw [mem_ptsOf]
    exact ⟨fun h => h.2, fun hs => ⟨by have := h.pts p hs; rw [mem_P16] at this; omega, hs⟩⟩
  unfold partC capsL
  simp only [List.take_length, hm, List.take_zero, List.not_mem_nil, and_false, or_false]
theorem capsL_room {S : Nat → Bool} {L : List Ln} (h : GoodL S L) (hsm : ∀ x ∈ L, x.small) {a b u : Nat} (ha : a < 256) (hb : b < 256) : capsL S L u a b = room L a b u := by
  unfold capsL
  split
  · rfl
  · rename_i hn
    have h0 := (room_bd h a b u).1
    by_cases hp : 0 < room L a b u
    · obtain ⟨_, _, _, h1, h2, _⟩ := room_in h hsm ha hb hp
      exact absurd ⟨h1, h2⟩ hn
    · omega
theorem capsL_good {S : Nat → Bool} {L : List Ln} (h : GoodL S L) (hsm : ∀ x ∈ L, x.small) (u : Nat) : CapOk 4398046511104 (capsL S L u) := by
  have bd : ∀ a b, 0 ≤ capsL S L u a b ∧ capsL S L u a b ≤ 2199023255552 := fun a b => by
    unfold capsL
    split
    · exact room_bd h a b u
    · omega
  refine ⟨fun a b => (bd a b).1, fun a b => by have := bd a b; have := bd b a; omega, fun a b hab => ?_⟩
  by_cases hs : S a = true ∧ S b = true
  · have h1 := h.pts a hs.1
    have h2 := h.pts b hs.2
    rcases hab with h3 | h3 | rfl
    · exact absurd h1 h3
    · exact absurd h2 h3
    · rw [mem_P16] at h1
      rw [capsL_room h hsm (by omega) (by omega)]
      by_cases hp : 0 < room L a a u
      · exact absurd rfl (room_in h hsm (by omega) (by omega) hp).1
      · have := (room_bd h a a u).1; omega
  · unfold capsL; rw [if_neg hs]

/-- What stands while the table is laid. -/
structure OfI (w wr : World) (gb pb : Nat) (cs : Array Value) (D : Caps) : Prop where
  blk : Blk wr gb 164 (gcells D true)
  pts : Blk wr pb 22 cs
  ch : Chg [] w wr
  ne : pb ≠ gb
  ge : w.heap.size ≤ gb
section
variable {w wr w' : World} {gb pb : Nat} {cs : Array Value} {D : Caps}
theorem OfI.drew (h : OfI w wr gb pb cs D) : OfI w wr.drew gb pb cs D := ⟨h.blk.drew, h.pts.drew, h.ch.drew, h.ne, h.ge⟩
theorem OfI.chg (h : OfI w wr gb pb cs D) (k : Chg [] wr w') : OfI w w' gb pb cs D := ⟨h.blk.chg k (by simp), h.pts.chg k (by simp), h.ch.trans k, h.ne, h.ge⟩
theorem OfI.keep (h : OfI w wr gb pb cs D) {a b : Nat} (ha : a < 17) (hb : b < 17) : ∃ z, wr.cell? ⟨gb, a * 17 + b, none⟩ = some (.int .i64 z) ∧ wr.frozen? ⟨gb, a * 17 + b, none⟩ = false :=
  ⟨D a b, by rw [h.blk.cell, gcells_get _ _ ha hb], h.blk.frozen _⟩
theorem OfI.set (h : OfI w wr gb pb cs D) {a b : Nat} (ha : a < 17) (hb : b < 17) (v : Int) : OfI w (wr.setCell ⟨gb, a * 17 + b, none⟩ (.int .i64 v)) gb pb cs (set2 D a b v) :=
  ⟨by have := h.blk.set (a * 17 + b) (.int .i64 v); rw [gcells_set D true ha hb] at this; exact this, h.pts.far h.ne _, h.ch.setCell (.inr h.ge) _, h.ne, h.ge⟩
end

set_option maxRecDepth 100000 in
set_option maxHeartbeats 4000000 in
theorem gof {w : World} {lb mb : Nat} {S : Nat → Bool} {L : List Ln} (h : IsL w lb mb S L) {u : Nat} (hu : u < 256) :
    Calls Try.prog 66 #[.pointer (some ⟨lb, 0, none⟩), .int .u8 u] w fun e w' => ∃ b, w.heap.size ≤ b ∧ e = .returned (.pointer (some ⟨b, 0, none⟩)) ∧ IsG w' b (capsL S L u) ∧ Chg [] w w' := by
  have HP := Lib.hid (fun W (k : Chg [] w W) => lparties (h.chg0 k))
  have HRM := Lib.hid (fun W (k : Chg [] w W) (a b : Nat) (ha : a < 256) (hb : b < 256) => lroom (h.chg0 k) ha hb hu)
  have HG := Lib.hid (capsL_good h.good h.map.small u)
  have HA := Lib.hid (partC_all h.good u)
  have HN := Lib.hid (ptsOf_len S 17)
  have HM : Hid (∀ p ∈ ptsOf S 17, p < 17) := Lib.hid fun p hp => (mem_ptsOf.1 hp).1
  have hB0 := Blk.new w 164 (gcells (fun _ _ => 0) true)
  have HB0 := Lib.hid hB0
  clear h hu hB0
  generalize ptsOf S 17 = ps at *
  obtain ⟨gb, hgb⟩ : ∃ gb, gb = w.heap.size := ⟨_, rfl⟩
  go_enter Try.func66, Try.ntmps66
  go_wp2_with fail
  refine (HP.out _ ((Chg.refl _ _).alloc _)).mono ?_
  rintro e w1 ⟨⟨v, rfl, hv⟩, hc1⟩
  obtain ⟨hl, ⟨rfl, hn⟩ | ⟨pb, cs, rfl, hpb, hblk, hle, htk⟩⟩ := hv
  · have HC := Lib.hid (((Chg.refl [] w).alloc (.cells (gcells (fun _ _ => 0) true) 164)).trans (by rw [← build_graph] at *; exact hc1))
    have HI : Hid (IsG w1 gb (capsL S L u)) := Lib.hid ⟨by
      rw [← HA.out, hn, partC_zero, hgb]
      exact HB0.out.chg (by rw [← build_graph] at *; exact hc1) (by simp), HG.out⟩
    rw [← hgb]
    replace hgb : w.heap.size ≤ gb := by omega
    clear hc1 hl hn HA HB0
    go_wp2
    refine wp_loop_rounds 1 ?_
    rw [rounds_succ]
    go_wp2
    go_ret
    exact ⟨gb, by omega, rfl, HI.out, HC.out⟩
  have hK : OfI w w1 gb pb cs (partC L u ps 0 0) := by
    rw [build_graph] at *
    refine ⟨?_, hblk, ((Chg.refl _ _).alloc _).trans hc1, by have := World.size_alloc w (.cells (gcells (fun _ _ => 0) true) 164); omega, by omega⟩
    rw [partC_zero, hgb]
    exact HB0.out.chg hc1 (by simp)
  have HK := Lib.hid hK
  have HCS : Hid (∀ k (h : k < ps.length), cs[k]? = some (.int .u8 (ps[k] : Int))) := Lib.hid fun k h => by
    have e : (cs.toList.take (ps.length * 1))[k]? = (ptCells ps)[k]? := by rw [htk]
    rw [List.getElem?_take, if_pos (by omega)] at e
    rw [← Array.getElem?_toList, e]
    simp [ptCells, h]
  rw [← hgb]
  replace hgb : w.heap.size ≤ gb := by omega
  clear hK hblk hle htk hl hc1 hpb HB0
  have hn17 := HN.out
  go_wp2
  go_loopw [17] (fun i wr => ∃ k : Nat, k ≤ ps.length ∧ i = .int .i64 k ∧ Hid (OfI w wr gb pb cs (partC L u ps k 0))) (fun i _ => ps.length - (intOf i).toNat)
  case atStart => exact ⟨0, by omega, rfl, HK⟩
  case round =>
    obtain ⟨i, hi, rfl, HK⟩ := hrel
    by_cases hlt : i < ps.length
    · obtain ⟨a, hap⟩ : ∃ a, a = ps[i] := ⟨_, rfl⟩
      have ha : a < 17 := by rw [hap]; exact HM.out _ (List.getElem_mem hlt)
      have hai : (a : Int) < 17 := by omega
      have hca : wr.cell? ⟨pb, i, none⟩ = some (.int .u8 (a : Int)) := by rw [HK.out.pts.cell, HCS.out i hlt, hap]
      have HAP := Lib.hid hap
      clear hap
      go_wp2
      go_loopw [23] (fun j ws => ∃ k : Nat, k ≤ ps.length ∧ j = .int .i64 k ∧ Hid (OfI w ws gb pb cs (partC L u ps i k))) (fun j _ => ps.length - (intOf j).toNat)
      case atStart => exact ⟨0, by omega, rfl, HK⟩
      case round =>
        clear HK hca
        obtain ⟨j, hj, rfl, HK⟩ := hrel
        by_cases hlj : j < ps.length
        · obtain ⟨b, hbp⟩ : ∃ b, b = ps[j] := ⟨_, rfl⟩
          have hb : b < 17 := by rw [hbp]; exact HM.out _ (List.getElem_mem hlj)
          have hbi : (b : Int) < 17 := by omega
          have hcb : wr.cell? ⟨pb, j, none⟩ = some (.int .u8 (b : Int)) := by rw [HK.out.pts.cell, HCS.out j hlj, hbp]
          have HBP := Lib.hid hbp
          clear hbp
          have HR : Hid (∀ W, Chg [] w W → Calls Try.prog 34 #[.pointer (some ⟨lb, 0, none⟩), .int .u8 a, .int .u8 b, .int .u8 u] W fun e w' => e = .returned (.int .i64 (room L a b u)) ∧ Chg [] W w') := Lib.hid fun W k => HRM.out W k a b (by omega) (by omega)
          go_wp2_with fail
          refine wp_region_held_drew (S := (fun w' : World => ∃ z, w'.cell? ⟨gb, a * 17 + b, none⟩ = some (.int .i64 z) ∧ w'.frozen? ⟨gb, a * 17 + b, none⟩ = false)) (by kernel_rfl) ?_ (fun hHeld => ?_)
          · exact HK.out.drew.keep ha hb
          refine wpAnyH_take (i := 0) (v := ?v269_0_0) rfl (by kernel_rfl) (by kernel_rfl) (by kernel_rfl) (fun _ _ _ h => h) (Or.inl ⟨by rfl, ?hy269_0_0⟩) (by assumption) ?_
          case hy269_0_0 => (intro w hSw; (try dsimp only at hSw); go_simp; try (with_reducible rfl))
          (try simp only [Act.put, List.getElem_toArray, List.getElem_cons_zero, List.setIfInBounds_toArray, List.set_cons_zero, List.set_cons_succ])
          refine wpAnyH_take (i := 1) (v := ?v269_0_1) rfl (by kernel_rfl) (by kernel_rfl) (by kernel_rfl) (fun _ _ _ h => h) (Or.inl ⟨by rfl, ?hy269_0_1⟩) (by assumption) ?_
          case hy269_0_1 => (intro w hSw; (try dsimp only at hSw); go_simp; try (with_reducible rfl))
          (try simp only [Act.put, List.getElem_toArray, List.getElem_cons_zero, List.getElem_cons_succ, List.setIfInBounds_toArray, List.set_cons_zero, List.set_cons_succ])
          refine wpAnyH_take (i := 2) (v := ?v269_0_2) rfl (by kernel_rfl) (by kernel_rfl) (by kernel_rfl) (fun _ _ _ h => h) (Or.inl ⟨by rfl, ?hy269_0_2⟩) (by assumption) ?_
          case hy269_0_2 => (intro w hSw; (try dsimp only at hSw); go_simp; try (with_reducible rfl))
          (try simp only [Act.put, List.getElem_toArray, List.getElem_cons_zero, List.getElem_cons_succ, List.setIfInBounds_toArray, List.set_cons_zero, List.set_cons_succ])
          refine wpAnyH_take (i := 3) (v := ?v269_0_3) rfl (by kernel_rfl) (by kernel_rfl) (by kernel_rfl) (fun _ _ _ h => h) (Or.inl ⟨by rfl, ?hy269_0_3⟩) (by assumption) ?_
          case hy269_0_3 => (intro w hSw; (try dsimp only at hSw); go_simp; try (with_reducible rfl))
          (try simp only [Act.put, List.getElem_toArray, List.getElem_cons_zero, List.getElem_cons_succ, List.setIfInBounds_toArray, List.set_cons_zero, List.set_cons_succ])
          refine wpAnyH_take (i := 4) (v := ?v269_0_4) rfl (by kernel_rfl) (by kernel_rfl) (by kernel_rfl) (fun _ _ _ h => h) (Or.inl ⟨by rfl, ?hy269_0_4⟩) (by assumption) ?_
          case hy269_0_4 => (intro w hSw; (try dsimp only at hSw); go_simp; try (with_reducible rfl))
          (try simp only [Act.put, List.getElem_toArray, List.getElem_cons_zero, List.getElem_cons_succ, List.setIfInBounds_toArray, List.set_cons_zero, List.set_cons_succ])
          refine wpAnyH_take (i := 5) (v := ?v269_0_5) rfl (by kernel_rfl) (by kernel_rfl) (by kernel_rfl) (fun _ _ _ h => h) (Or.inl ⟨by rfl, ?hy269_0_5⟩) (by assumption) ?_
          case hy269_0_5 => (intro w hSw; (try dsimp only at hSw); go_simp; try (with_reducible rfl))
          (try simp only [Act.put, List.getElem_toArray, List.getElem_cons_zero, List.getElem_cons_succ, List.setIfInBounds_toArray, List.set_cons_zero, List.set_cons_succ])
          refine wpAnyH_take (i := 6) (v := ?v269_0_6) rfl (by kernel_rfl) (by kernel_rfl) (by kernel_rfl) (fun _ _ _ h => h) (Or.inl ⟨by rfl, ?hy269_0_6⟩) (by assumption) ?_
          case hy269_0_6 => (intro w hSw; (try dsimp only at hSw); go_simp; try (with_reducible rfl))
          (try simp only [Act.put, List.getElem_toArray, List.getElem_cons_zero, List.getElem_cons_succ, List.setIfInBounds_toArray, List.set_cons_zero, List.set_cons_succ])
          refine wpAnyH_take (i := 8) (v := ?v269_0_8) rfl (by kernel_rfl) (by kernel_rfl) (by kernel_rfl) (fun _ _ _ h => h) (Or.inl ⟨by rfl, ?hy269_0_8⟩) (by assumption) ?_
          case hy269_0_8 => (intro w hSw; (try dsimp only at hSw); go_simp; try (with_reducible rfl))
          (try simp only [Act.put, List.getElem_toArray, List.getElem_cons_zero, List.getElem_cons_succ, List.setIfInBounds_toArray, List.set_cons_zero, List.set_cons_succ])
          refine wpAnyH_take (i := 9) (v := ?v269_0_9) rfl (by kernel_rfl) (by kernel_rfl) (by kernel_rfl) (fun _ _ _ h => h) (Or.inl ⟨by rfl, ?hy269_0_9⟩) (by assumption) ?_
          case hy269_0_9 => (intro w hSw; (try dsimp only at hSw); go_simp; try (with_reducible rfl))
          (try simp only [Act.put, List.getElem_toArray, List.getElem_cons_zero, List.getElem_cons_succ, List.setIfInBounds_toArray, List.set_cons_zero, List.set_cons_succ])
          refine wpAnyH_take (i := 10) (v := ?v269_0_10) rfl (by kernel_rfl) (by kernel_rfl) (by kernel_rfl) (fun _ _ _ h => h) (Or.inl ⟨by rfl, ?hy269_0_10⟩) (by assumption) ?_
          case hy269_0_10 => (intro w hSw; (try dsimp only at hSw); go_simp; try (with_reducible rfl))
          (try simp only [Act.put, List.getElem_toArray, List.getElem_cons_zero, List.getElem_cons_succ, List.setIfInBounds_toArray, List.set_cons_zero, List.set_cons_succ])
          refine wpAnyH_ready (rs := [7]) (by kernel_rfl) (by simp) (AllReadyH.cons rfl (fun K hK => ?_) AllReadyH.nil)
          go_simp
          (refine (HR.out _ HK.out.drew.ch).mono ?_; rintro e w2 ⟨rfl, hc2⟩; have HK2 := Lib.hid (HK.out.drew.chg hc2); clear hc2)
          (try go_wp2_with fail)
          refine hK.out _ _ ?_ (fun hHeld => ?_)
          · exact HK2.out.keep ha hb
          clear hK K
          (try simp only [Act.put, List.getElem_toArray, List.getElem_cons_zero, List.getElem_cons_succ, List.setIfInBounds_toArray, List.set_cons_zero, List.set_cons_succ])
          refine wpAnyH_take (i := 11) (v := ?v269_0_11) rfl (by kernel_rfl) (by kernel_rfl) (by kernel_rfl) (fun _ _ _ h => h) (Or.inl ⟨by rfl, ?hy269_0_11⟩) (by assumption) ?_
          case hy269_0_11 => (intro w hSw; (try dsimp only at hSw); go_simp; try (with_reducible rfl))
          (try simp only [Act.put, List.getElem_toArray, List.getElem_cons_zero, List.getElem_cons_succ, List.setIfInBounds_toArray, List.set_cons_zero, List.set_cons_succ])
          refine wpAnyH_ready (rs := [12]) (by kernel_rfl) (by simp) (AllReadyH.cons rfl (fun K hK => ?_) AllReadyH.nil)
          obtain ⟨z, hz1, hz2⟩ := hHeld
          go_simp
          refine hK.out _ _ ?_ (fun hHeld => ?_)
          · exact (HK2.out.set ha hb _).keep ha hb
          clear hK K
          (try simp only [Act.put, List.getElem_toArray, List.getElem_cons_zero, List.getElem_cons_succ, List.setIfInBounds_toArray, List.set_cons_zero, List.set_cons_succ])
          refine wpAnyH_done (by kernel_rfl) ?_ _
          clear hHeld
          have HK3 : Hid (OfI w (w2.setCell ⟨gb, a * 17 + b, none⟩ (.int .i64 (room L a b u))) gb pb cs (partC L u ps i (j + 1))) := Lib.hid (by
            have := HK2.out.set ha hb (room L a b u)
            rw [HAP.out, HBP.out, partC_cell L u hlt hlj] at this
            rw [HAP.out, HBP.out]
            exact this)
          go_wp2
          go_roundw
          case rel => exact ⟨j + 1, by omega, by go_num, HK3⟩
          case measure => simp [intOf]; omega
        · obtain rfl : j = ps.length := by omega
          rw [partC_row L u hlt] at HK
          go_wp2
          go_roundw
          case rel => exact ⟨i + 1, by omega, by go_num, HK⟩
          case measure => simp [intOf]; omega
    · obtain rfl : i = ps.length := by omega
      rw [HA.out] at HK
      go_wp2
      go_ret
      exact ⟨gb, by omega, rfl, ⟨HK.out.blk, HG.out⟩, HK.out.ch⟩
end Go.Proofs.Ytofnaigkfhfhoaa
