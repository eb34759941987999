/-
  Lists of flows as pages of a book.
-/
import Derived.Test.YtfpdkeokdojejaaApart
import Derived.Shelf.Abstract
namespace Go.Proofs.Ytfpdkeokdojejaa
open Go.RowKit Pl

theorem rowF_mw (x : Value) (n : Nat) (W : World) (h : 0 < n) : (method n 86 x "countinghouse/countinghouselaw01.write").run Try.prog W = .ok (82, x) W := by
  obtain ⟨n, rfl⟩ : ∃ m, n = m + 1 := ⟨n - 1, by omega⟩
  kernel_rfl
theorem rowF_mb (x : Value) (n : Nat) (W : World) (h : 0 < n) : (method n 86 x "countinghouse/countinghouselaw01.writeBehind").run Try.prog W = .ok (83, x) W := by
  obtain ⟨n, rfl⟩ : ∃ m, n = m + 1 := ⟨n - 1, by omega⟩
  kernel_rfl
theorem rowF_ms (x : Value) (n : Nat) (W : World) (h : 0 < n) : (method n 86 x "countinghouse/countinghouselaw01.stands").run Try.prog W = .ok (81, x) W := by
  obtain ⟨n, rfl⟩ : ∃ m, n = m + 1 := ⟨n - 1, by omega⟩
  kernel_rfl

theorem rowF_ew (args : Array Value) (W : World) : (callFunc 82 args).run Try.prog W = .ok (.enter 82 args) W := enters_of Try.func82 (by kernel_rfl) rfl args W
theorem rowF_eb (args : Array Value) (W : World) : (callFunc 83 args).run Try.prog W = .ok (.enter 83 args) W := enters_of Try.func83 (by kernel_rfl) rfl args W
theorem rowF_es (args : Array Value) (W : World) : (callFunc 81 args).run Try.prog W = .ok (.enter 81 args) W := enters_of Try.func81 (by kernel_rfl) rfl args W

/-- The page of a row of n flows in block g, with the number N. -/
def flowPage (g n : Nat) (N : Int) (hn : n ≤ 2000000) : Page where
  T := 86
  x := rowF (.slice (some ⟨g, 0, none⟩) n n) ⟨0, 0, N⟩ ⟨0, 0, -N⟩
  gs := [g]
  fw := 82
  fb := 83
  fs := 81
  Ready W := FirstF W g n 0 ⟨0, 0, N⟩
  Marked W := FirstF W g n n ⟨0, 0, N⟩
  mw := rowF_mw _
  mb := rowF_mb _
  ms := rowF_ms _
  ew := rowF_ew
  eb := rowF_eb
  es := rowF_es
  ready _ _ _ h hc hg := h.chg hc (hg g (by simp))
  marked _ _ _ h hc hg := h.chg hc (hg g (by simp))
  write _ h := rowF_write h hn
  behind _ _ := rowF_behind
  stands _ h := rowF_stands h hn

/-- The page of a list that is not there. -/
def flowPage0 (N : Int) : Page where
  T := 86
  x := rowF (.slice none 0 0) ⟨0, 0, N⟩ ⟨0, 0, -N⟩
  gs := []
  fw := 82
  fb := 83
  fs := 81
  Ready _ := True
  Marked _ := True
  mw := rowF_mw _
  mb := rowF_mb _
  ms := rowF_ms _
  ew := rowF_ew
  eb := rowF_eb
  es := rowF_es
  ready _ _ _ _ _ _ := trivial
  marked _ _ _ _ _ _ := trivial
  write _ _ := rowF_write_nil.mono fun _ _ h => ⟨h.1, trivial, h.2⟩
  behind _ _ := rowF_behind_nil
  stands _ _ := rowF_stands_nil

theorem flowPage_val (g n : Nat) (N : Int) (hn : n ≤ 2000000) : (flowPage g n N hn).val = pageF (.slice (some ⟨g, 0, none⟩) n n) N := rfl
theorem flowPage0_val (N : Int) : (flowPage0 N).val = pageF (.slice none 0 0) N := rfl

/-- Whatever list a call made for itself is a page: which blocks it writes lie from 'base' on. -/
theorem OwnSl.page {w : World} {base : Nat} {v : Value} {n : Nat} {xs : List Value} (h : OwnSl w base 35 3 v n xs) (hn : n ≤ 2000000) (N : Int) :
    ∃ p : Page, p.val = pageF v N ∧ p.Ready w ∧ (∀ g ∈ p.gs, base ≤ g ∧ g < w.heap.size) ∧ (v = .slice none 0 0 ∨ ∃ g n, v = .slice (some ⟨g, 0, none⟩) n n) := by
  obtain ⟨hl, ⟨rfl, h0⟩ | ⟨g, cs, rfl, hb, hk, hs, ht⟩⟩ := h
  · exact ⟨flowPage0 N, rfl, trivial, by intro g hg; simp [flowPage0] at hg, .inl rfl⟩
  · refine ⟨flowPage g n N hn, rfl, ⟨cs, hk, hs, by simp [flsCells]⟩, ?_, .inr ⟨g, n, rfl⟩⟩
    intro g' hg'
    simp [flowPage] at hg'
    subst hg'
    exact ⟨hb, hk.lt⟩
end Go.Proofs.Ytfpdkeokdojejaa
