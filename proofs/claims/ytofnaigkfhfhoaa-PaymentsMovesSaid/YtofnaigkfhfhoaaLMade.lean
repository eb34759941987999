/-
  The ledger that whatever acts make.
-/
import Derived.Test.YtofnaigkfhfhoaaLOf
namespace Go.Proofs.Ytofnaigkfhfhoaa
open Go.RowKit Go.Maps Pl
attribute [local go_sem ↓] Go.wp_at_zero Go.wp_at_succ

/-- An act. -/
structure Deed where
  k : Nat
  a : Nat
  b : Nat
  c : Nat
  n : Int
def Deed.small (x : Deed) : Prop := x.k < 256 ∧ x.a < 256 ∧ x.b < 256 ∧ x.c < 256
/-- Five cells that are an act. -/
def IsAct (w : World) (g o : Nat) (x : Deed) : Prop :=
  w.cell? ⟨g, o, none⟩ = some (.int .u8 x.k) ∧ w.cell? ⟨g, o + 1, none⟩ = some (.int .u8 x.a) ∧ w.cell? ⟨g, o + 2, none⟩ = some (.int .u8 x.b) ∧ w.cell? ⟨g, o + 3, none⟩ = some (.int .u8 x.c) ∧ w.cell? ⟨g, o + 4, none⟩ = some (.int .i64 x.n)
theorem IsAct.chg {w w' : World} {g o : Nat} {x : Deed} (h : IsAct w g o x) (k : Chg [] w w') : IsAct w' g o x := by
  obtain ⟨h0, h1, h2, h3, h4⟩ := h
  have hg : g < w.heap.size := block_lt_of_cell h0
  have e : ∀ i, w'.cell? ⟨g, i, none⟩ = w.cell? ⟨g, i, none⟩ := fun i => k.cell (p := ⟨g, i, none⟩) hg (by simp)
  exact ⟨(e _).trans h0, (e _).trans h1, (e _).trans h2, (e _).trans h3, (e _).trans h4⟩
/-- A value that is a slice of acts and reads as this list. -/
def RdAct (w : World) (v : Value) (l : List Deed) : Prop :=
  (l = [] ∧ ∃ ao cap, v = .slice ao 0 cap ∧ (ao = none → cap = 0)) ∨
  ∃ g off cap, v = .slice (some ⟨g, off, none⟩) l.length cap ∧ l.length ≤ cap ∧ ∀ k (h : k < l.length), l[k].small ∧ IsAct w g (off + k * 5) l[k]

/-- A ledger that is there, since a. -/
def Led (a w : World) (lb mb : Nat) : Prop := a.heap.size ≤ lb ∧ a.heap.size ≤ mb ∧ (∃ S L, IsL w lb mb S L) ∧ Chg [] a w
theorem Led.step {a w w' : World} {lb mb : Nat} {S : Nat → Bool} {L : List Ln} {s : List Nat} (h : Led a w lb mb) (hI : IsL w' lb mb S L) (k : Chg s w w') (hs : ∀ b ∈ s, b = lb ∨ b = mb) : Led a w' lb mb :=
  ⟨h.1, h.2.1, ⟨S, L, hI⟩, h.2.2.2.fresh k (fun b hb => .inr (by rcases hs b hb with rfl | rfl; exact h.1; exact h.2.1))⟩

theorem Led.alloc {a w : World} {lb mb : Nat} (h : Led a w lb mb) (o : Obj) : Led a (w.alloc o) lb mb := by
  obtain ⟨h1, h2, ⟨S, L, hI⟩, hc⟩ := h
  exact ⟨h1, h2, ⟨S, L, hI.chg0 ((Chg.refl _ _).alloc o)⟩, hc.alloc o⟩
section
variable {a w : World} {lb mb : Nat}
theorem led_open (h : Led a w lb mb) {p : Nat} (hp : p < 256) : Calls Try.prog 59 #[.pointer (some ⟨lb, 0, none⟩), .int .u8 p] w fun e w' => (∃ r, e = .returned (.int .i64 r)) ∧ Led a w' lb mb := by
  obtain ⟨S, L, hI⟩ := h.2.2.1
  exact (lopen hI hp).mono fun e w' ⟨he, hI', hc⟩ => ⟨⟨_, he⟩, h.step hI' hc (by simp)⟩
theorem led_trust (h : Led a w lb mb) (c d u : Nat) (n : Int) : Calls Try.prog 60 #[.pointer (some ⟨lb, 0, none⟩), .int .u8 c, .int .u8 d, .int .u8 u, .int .i64 n] w fun e w' => (∃ r, e = .returned (.int .i64 r)) ∧ Led a w' lb mb := by
  obtain ⟨S, L, hI⟩ := h.2.2.1
  exact (ltrust hI c d u n).mono fun e w' ⟨he, hI', hc⟩ => ⟨⟨_, he⟩, h.step hI' hc (by simp)⟩
theorem led_push (h : Led a w lb mb) {c d u : Nat} (hc : c < 256) (hd : d < 256) (hu : u < 256) (n : Int) : Calls Try.prog 35 #[.pointer (some ⟨lb, 0, none⟩), .int .u8 c, .int .u8 d, .int .u8 u, .int .i64 n] w fun e w' => (∃ r, e = .returned (.int .i64 r)) ∧ Led a w' lb mb := by
  obtain ⟨S, L, hI⟩ := h.2.2.1
  exact (lpush hI hc hd hu (n := n)).mono fun e w' ⟨he, hI', hc⟩ => ⟨⟨_, he⟩, h.step hI' hc (by simp)⟩
theorem led_forgive (h : Led a w lb mb) {c d u : Nat} (hc : c < 256) (hd : d < 256) (hu : u < 256) (n : Int) : Calls Try.prog 61 #[.pointer (some ⟨lb, 0, none⟩), .int .u8 c, .int .u8 d, .int .u8 u, .int .i64 n] w fun e w' => (∃ r, e = .returned (.int .i64 r)) ∧ Led a w' lb mb := by
  obtain ⟨S, L, hI⟩ := h.2.2.1
  exact (lforgive hI hc hd hu (n := n)).mono fun e w' ⟨he, hI', hc⟩ => ⟨⟨_, he⟩, h.step hI' hc (by simp)⟩
end

set_option maxRecDepth 100000 in
set_option maxHeartbeats 4000000 in
theorem lmade {w : World} {v : Value} {l : List Deed} (h : RdAct w v l) (hm : l.length ≤ 1000000) :
    Calls Try.prog 20 #[v] w fun e w' => ∃ lb mb, e = .returned (.pointer (some ⟨lb, 0, none⟩)) ∧ Led w w' lb mb := by
  rcases h with ⟨rfl, ao, cap, rfl, hao⟩ | ⟨g, off, cap, rfl, hcap, hrd⟩
  · go_enter Try.func20, Try.ntmps20
    go_wp2_with fail
    refine (lnew _).mono ?_
    rintro e w1 ⟨lb, mb, h1, h2, rfl, hI, hc⟩
    have HI := Lib.hid hI
    have HC := Lib.hid hc
    clear hI hc
    go_wp2
    refine wp_loop_rounds 1 ?_
    rw [rounds_succ]
    go_wp2
    go_ret
    exact ⟨lb, mb, rfl, h1, h2, ⟨_, _, HI.out⟩, HC.out⟩
  · have HRD := Lib.hid hrd
    clear hrd
    go_enter Try.func20, Try.ntmps20
    go_wp2_with fail
    refine (lnew _).mono ?_
    rintro e w1 ⟨lb, mb, h1, h2, rfl, hI, hc⟩
    have HI : Hid (Led w w1 lb mb) := Lib.hid ⟨h1, h2, ⟨_, _, hI⟩, hc⟩
    clear hI hc h1 h2
    go_wp2
    go_loopw [4] (fun i wr => ∃ k : Nat, k ≤ l.length ∧ i = .int .i64 k ∧ Hid (Led w wr lb mb)) (fun i _ => l.length - (intOf i).toNat)
    case atStart => exact ⟨0, by omega, rfl, HI⟩
    case round =>
      clear HI
      obtain ⟨k, hk, rfl, HI⟩ := hrel
      by_cases hlt : k < l.length
      · obtain ⟨hsm, hr⟩ := HRD.out k hlt
        replace hr := hr.chg HI.out.2.2.2
        generalize l[k] = x at hsm hr
        obtain ⟨xk, xa, xb, xc, xn⟩ := x
        obtain ⟨s0, s1, s2, s3⟩ := hsm
        obtain ⟨r0, r1, r2, r3, r4⟩ := hr
        dsimp only at s0 s1 s2 s3 r0 r1 r2 r3 r4
        go_wp2_with (first
          | (go_at_call 59; refine (led_open (HI.out.alloc _) s1).mono ?_; rintro e w2 ⟨⟨r, rfl⟩, hI2⟩; have HI2 := Lib.hid hI2; clear hI2 HI)
          | (go_at_call 60; refine (led_trust (HI.out.alloc _) xa xb xc xn).mono ?_; rintro e w2 ⟨⟨r, rfl⟩, hI2⟩; have HI2 := Lib.hid hI2; clear hI2 HI)
          | (go_at_call 35; refine (led_push (HI.out.alloc _) s1 s2 s3 xn).mono ?_; rintro e w2 ⟨⟨r, rfl⟩, hI2⟩; have HI2 := Lib.hid hI2; clear hI2 HI)
          | (go_at_call 61; refine (led_forgive (HI.out.alloc _) s1 s2 s3 xn).mono ?_; rintro e w2 ⟨⟨r, rfl⟩, hI2⟩; have HI2 := Lib.hid hI2; clear hI2 HI))
        all_goals refine ⟨⟨k + 1, by omega, by go_num, ?_⟩, by simp [intOf]; omega⟩
        all_goals first | exact HI2 | exact Lib.hid (HI.out.alloc _)
      · obtain rfl : k = l.length := by omega
        go_wp2
        go_ret
        exact ⟨lb, mb, rfl, HI.out⟩
end Go.Proofs.Ytofnaigkfhfhoaa
