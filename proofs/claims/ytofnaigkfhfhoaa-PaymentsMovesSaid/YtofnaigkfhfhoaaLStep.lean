/-
  A ledger of the call's own, step by step: what each method answers, where the answers are known.
-/
import Derived.Test.YtofnaigkfhfhoaaLPos
import Derived.Test.YtofnaigkfhfhoaaLCopy
import Derived.Test.YtofnaigkfhfhoaaLMade
namespace Go.Proofs.Ytofnaigkfhfhoaa
open Go.RowKit Go.Maps Pl

/-- A ledger that is there since a, with these parties and lines. -/
structure LS (a w : World) (lb mb : Nat) (S : Nat → Bool) (L : List Ln) : Prop where
  led : IsL w lb mb S L
  ch : Chg [] a w
  lb0 : a.heap.size ≤ lb
  mb0 : a.heap.size ≤ mb
section
variable {a w w' : World} {lb mb : Nat} {S : Nat → Bool} {L : List Ln}
theorem LS.chg0 (h : LS a w lb mb S L) (k : Chg [] w w') : LS a w' lb mb S L := ⟨h.led.chg0 k, h.ch.trans k, h.lb0, h.mb0⟩
theorem LS.step {S' : Nat → Bool} {L' : List Ln} {s : List Nat} (h : LS a w lb mb S L) (hI : IsL w' lb mb S' L') (k : Chg s w w') (hs : ∀ b ∈ s, b = lb ∨ b = mb) : LS a w' lb mb S' L' :=
  ⟨hI, h.ch.fresh k (fun b hb => .inr (by rcases hs b hb with rfl | rfl; exact h.lb0; exact h.mb0)), h.lb0, h.mb0⟩
theorem ls_new (w : World) : Calls Try.prog 45 #[] w fun e w' => ∃ lb mb, e = .returned (.pointer (some ⟨lb, 0, none⟩)) ∧ LS w w' lb mb (fun _ => false) [] :=
  (lnew w).mono fun _ _ ⟨lb, mb, h1, h2, he, hI, hc⟩ => ⟨lb, mb, he, hI, hc, h1, h2⟩
theorem ls_open (h : LS a w lb mb S L) {p : Nat} {q : Int} (hq : q = p) (hp : p < 256) {r : Int} {S' : Nat → Bool} (hE : lopenE S p = r) (hS : lopenS S p = S') :
    Calls Try.prog 59 #[.pointer (some ⟨lb, 0, none⟩), .int .u8 q] w fun e w' => e = .returned (.int .i64 r) ∧ LS a w' lb mb S' L := by
  subst hq hE hS
  exact (lopen h.led hp).mono fun e w' ⟨he, hI, hc⟩ => ⟨he, h.step hI hc (by simp)⟩
theorem ls_trust (h : LS a w lb mb S L) {c d u : Nat} {c' d' u' : Int} (hc : c' = c) (hd : d' = d) (hu : u' = u) {n r : Int} {L' : List Ln} (hE : ltrustE S L c d u n = r) (hL : ltrustL S L c d u n = L') :
    Calls Try.prog 60 #[.pointer (some ⟨lb, 0, none⟩), .int .u8 c', .int .u8 d', .int .u8 u', .int .i64 n] w fun e w' => e = .returned (.int .i64 r) ∧ LS a w' lb mb S L' := by
  subst hc hd hu hE hL
  exact (ltrust h.led c d u n).mono fun e w' ⟨he, hI, hc⟩ => ⟨he, h.step hI hc (by simp)⟩
theorem ls_push (h : LS a w lb mb S L) {c d u : Nat} {c' d' u' : Int} (hc : c' = c) (hd : d' = d) (hu : u' = u) (hc1 : c < 256) (hd1 : d < 256) (hu1 : u < 256) {n r : Int} {L' : List Ln} (hE : lpushE L c d u n = r) (hL : lpushL L c d u n = L') :
    Calls Try.prog 35 #[.pointer (some ⟨lb, 0, none⟩), .int .u8 c', .int .u8 d', .int .u8 u', .int .i64 n] w fun e w' => e = .returned (.int .i64 r) ∧ LS a w' lb mb S L' := by
  subst hc hd hu hE hL
  exact (lpush h.led hc1 hd1 hu1 (n := n)).mono fun e w' ⟨he, hI, hc⟩ => ⟨he, h.step hI hc (by simp)⟩
theorem ls_room (h : LS a w lb mb S L) {c d u : Nat} {c' d' u' : Int} (hc : c' = c) (hd : d' = d) (hu : u' = u) (hc1 : c < 256) (hd1 : d < 256) (hu1 : u < 256) {r : Int} (hE : room L c d u = r) :
    Calls Try.prog 34 #[.pointer (some ⟨lb, 0, none⟩), .int .u8 c', .int .u8 d', .int .u8 u'] w fun e w' => e = .returned (.int .i64 r) ∧ LS a w' lb mb S L := by
  subst hc hd hu hE
  exact (lroom h.led hc1 hd1 hu1).mono fun e w' ⟨he, hc⟩ => ⟨he, h.chg0 hc⟩
theorem ls_line (h : LS a w lb mb S L) {c d u : Nat} {c' d' u' : Int} (hc : c' = c) (hd : d' = d) (hu : u' = u) (hc1 : c < 256) (hd1 : d < 256) (hu1 : u < 256) {lm db : Int} (hE : findR L (rk c d u) = some ⟨c, d, u, lm, db⟩) :
    Calls Try.prog 37 #[.pointer (some ⟨lb, 0, none⟩), .int .u8 c', .int .u8 d', .int .u8 u'] w fun e w' => e = .returned (.tuple #[.agg #[.int .u8 c', .int .u8 d', .int .u8 u', .int .i64 lm, .int .i64 db], .bool true]) ∧ LS a w' lb mb S L := by
  subst hc hd hu
  refine (lline h.led hc1 hd1 hu1).mono fun e w' ⟨he, hc⟩ => ⟨?_, h.chg0 hc⟩
  rw [he, (lineV_some hE).1, hE]
  rfl
theorem ls_pos (h : LS a w lb mb S L) {p c : Nat} {p' c' : Int} (hp : p' = p) (hc : c' = c) {r : Int} (hE : posOf L p c = r) :
    Calls Try.prog 36 #[.pointer (some ⟨lb, 0, none⟩), .int .u8 p', .int .u8 c'] w fun e w' => e = .returned (.int .i64 r) ∧ LS a w' lb mb S L := by
  subst hp hc hE
  exact (lposition h.led p c).mono fun e w' ⟨he, hc⟩ => ⟨he, h.chg0 hc⟩
theorem ls_tot (h : LS a w lb mb S L) {c : Nat} {c' : Int} (hc : c' = c) {r : Int} (hE : totOf L c = r) :
    Calls Try.prog 24 #[.pointer (some ⟨lb, 0, none⟩), .int .u8 c'] w fun e w' => e = .returned (.int .i64 r) ∧ LS a w' lb mb S L := by
  subst hc hE
  exact (ltotal h.led c).mono fun e w' ⟨he, hc⟩ => ⟨he, h.chg0 hc⟩
end
end Go.Proofs.Ytofnaigkfhfhoaa
