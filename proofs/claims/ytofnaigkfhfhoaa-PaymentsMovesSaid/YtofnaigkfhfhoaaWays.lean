/-
  The package flows: ways (an iterator over the shortest ways of a graph that the loop's body writes).
-/
import Derived.Test.YtofnaigkfhfhoaaRange
import Derived.Test.YtofnaigkfhfhoaaLeast
import Derived.RangeFuncBox
import Derived.Shelf.Abstract
import Derived.OwnWalkIn
import Derived.TacticsInMore
import Derived.LoopNIn
import Derived.LoopIn
import Derived.Sort.LoopGhostIn
namespace Go.Proofs.Ytofnaigkfhfhoaa
open Go.RowKit Go.Shelf Pl
attribute [local go_sem] Oper.semAt_some

/-- What a way's value must be: a row of parties that can be read. -/
def RdP (W : World) (base : Nat) (u : Value) (l : List Nat) : Prop := W.ownsRow base 22 1 u l.length (ptyA l)

/-- A way that comes: its value, its parties. -/
abbrev Way1 := Value × List Nat

theorem OwnP.nil {w : World} {base : Nat} {u : Value} (h : OwnP w base u []) : u = .slice none 0 0 := by
  rcases h with ⟨_, h⟩ | ⟨h, _⟩
  · exact h
  · exact absurd rfl h
theorem OwnP.some {w : World} {base : Nat} {u : Value} {l : List Nat} (hl : l ≠ []) (h : OwnP w base u l) : ∃ g cap, u = .slice (some ⟨g, 0, none⟩) l.length cap ∧ 0 < l.length ∧ w.ownsRow base 22 1 u l.length (ptyA l) := by
  have hpos : 0 < l.length := List.length_pos_iff.2 hl
  rcases h with ⟨h, _⟩ | ⟨_, h⟩
  · exact absurd h hl
  · have h' := h
    obtain ⟨_, ⟨_, h0⟩ | ⟨g, cap, cs, rfl, _⟩⟩ := h
    · omega
    · exact ⟨g, cap, rfl, hpos, h'⟩
theorem ownsRow_base {w : World} {b b' : Nat} {e : TypeId} {size : Nat} {v : Value} {n : Nat} {xs : List Value} (h : w.ownsRow b e size v n xs) (hb : b' ≤ b) : w.ownsRow b' e size v n xs := by
  obtain ⟨hl, h0 | ⟨g, c, cs, he, hbg, r⟩⟩ := h
  · exact ⟨hl, .inl h0⟩
  · exact ⟨hl, .inr ⟨g, c, cs, he, by omega, r⟩⟩

set_option maxRecDepth 100000 in
set_option maxHeartbeats 2000000 in
theorem ways_told {gv : Value} {s t : Nat} {p1 p2 p3 : Nat} {base : Nat} (cof : List Way1 → Caps) (I : List Way1 → World → Prop) (N : Nat)
    (hcells : ∀ pre W, I pre W → W.cell? ⟨p1, 0, none⟩ = some gv ∧ W.cell? ⟨p2, 0, none⟩ = some (.int .u8 s) ∧ W.cell? ⟨p3, 0, none⟩ = some (.int .u8 t) ∧ CapV W gv (cof pre) ∧ base ≤ W.heap.size)
    (hN : ∀ pre W, I pre W → pre.length ≤ N) (n : Nat) (hn : 1 ≤ n) :
    Told Fence.wide n Try.prog 133 #[.pointer (some ⟨p1, 0, none⟩), .pointer (some ⟨p2, 0, none⟩), .pointer (some ⟨p3, 0, none⟩)] (fun x : Way1 => #[x.1])
      (fun pre x W => RdP W base x.1 x.2 ∧ x.2 = short (cof pre) s t ∧ x.2 ≠ []) I (fun xs _ => short (cof xs) s t = []) := by
  intro l J Jx hJ hJI hY W h0
  refine callsIn_of_wp Try.func133 rfl trivial ?_ rfl
  simp only [Try.ntmps133, List.size_toArray, List.length_cons, List.length_nil, Nat.reduceAdd, Nat.reduceSub, Array.replicate_succ, Array.replicate_zero, List.push_toArray, List.append_toArray, List.nil_append, List.cons_append]
  have HJ : Hid (∀ s X Y, J s X → Chg [] X Y → J s Y) := fun s X Y h k => hJ s X Y h ⟨k.os, k.tape, k.output, k.size, fun i hi _ => k.block i hi (by simp)⟩
  have HY := Lib.hid hY
  have HI := Lib.hid (And.intro hJI (And.intro hcells hN))
  clear hJ hY hJI hcells hN
  gi_wp2
  gi_loopg [5] (N + 1) (fun k _ wr => ∃ pre, J pre wr ∧ Hid (k + pre.length = N + 1))
  case atStart => exact ⟨[], h0, rfl⟩
  case round =>
    obtain ⟨pre, hJs, hk⟩ := hrel
    have HJs := Lib.hid hJs
    obtain ⟨c1, c2, c3, hcap, hbase⟩ := HI.out.2.1 pre wr (HI.out.1 _ _ hJs)
    have hlen := HI.out.2.2 pre wr (HI.out.1 _ _ hJs)
    have HS := Lib.hid (pshort hcap (s := s) (t := t) rfl rfl)
    have HB := Lib.hid (And.intro hbase hlen)
    clear hJs hcap hbase hlen h0
    by_cases hnil : short (cof pre) s t = []
    · rw [hnil] at HS
      have HN := Lib.hid hnil
      clear hnil
      gi_wp2_with (refine ⟨trivial, ?_⟩; gi_at_call 134; refine (callsIn_wide.2 HS.out).mono ?_; rintro e w2 ⟨⟨u, rfl, hu⟩, hc⟩; obtain rfl := hu.nil; have HC := Lib.hid hc; clear hu hc)
      refine ⟨fun f h => (by cases h), ?_⟩
      gi_wp2
      refine bodyPost_ret (results_none rfl _ _ _) rfl ?_
      exact ⟨⟨_, rfl⟩, .inl ⟨pre, HN.out, HJ.out _ _ _ HJs.out HC.out⟩⟩
    · have HNE := Lib.hid hnil
      clear hnil
      generalize hsh : short (cof pre) s t = sh at HS HNE
      have HSH := Lib.hid hsh
      have e0 : ((sh.length : Int) == 0) = false := by rw [beq_eq_false_iff_ne]; have := List.length_pos_iff.2 HNE.out; omega
      clear hsh
      gi_wp2_with (refine ⟨trivial, ?_⟩; gi_at_call 134; refine (callsIn_wide.2 HS.out).mono ?_; rintro e w2 ⟨⟨u, rfl, hu⟩, hc⟩; obtain ⟨g, cap, rfl, hpos, hrow⟩ := hu.some HNE.out; obtain ⟨fn, tmps, assign, body, hy, hR⟩ := HY.out pre (.slice (some ⟨g, 0, none⟩) sh.length cap, sh) w2 (HJ.out _ _ _ HJs.out hc) ⟨ownsRow_base hrow HB.out.1, HSH.out.symm, HNE.out⟩; dsimp only at hy; clear hu hc hrow)
      refine hR.mono ?_
      rintro e W3 (⟨rfl, hJ3⟩ | ⟨rfl, hJx3⟩)
      · have H3 := Lib.hid hJ3
        have hlen3 := HI.out.2.2 _ _ (HI.out.1 _ _ hJ3)
        have hkk : gk ≠ 0 := by have := hk.out; have := HB.out.2; omega
        clear hJ3 hR hy
        gi_wp2
        gi_roundg (gk - 1)
        case measure => omega
        case rel => exact ⟨_, H3.out, by have := hk.out; show _ = _; simp; omega⟩
      · have H3 := Lib.hid hJx3
        clear hJx3 hR hy
        gi_wp2
        refine bodyPost_ret (results_none rfl _ _ _) rfl ?_
        exact ⟨⟨_, rfl⟩, .inr ⟨_, H3.out⟩⟩
end Go.Proofs.Ytofnaigkfhfhoaa
