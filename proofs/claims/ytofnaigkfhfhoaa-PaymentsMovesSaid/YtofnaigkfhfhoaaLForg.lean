/-
  The package ledgers: Line, Forgive.
-/
import Derived.Test.YtofnaigkfhfhoaaLTrust
namespace Go.Proofs.Ytofnaigkfhfhoaa
open Go.RowKit Go.Maps Pl
attribute [local go_sem ↓] Go.wp_at_zero Go.wp_at_succ
attribute [local go_sem] owed_lim owed_deb

theorem results_cell_row_tmp {fn : Func} {p q : Tmp} {ty : TypeId} (h : fn.results = #[.cell p ty, .tmp q]) (tmps : Array Value) (w : World) (g : Nat) (t : TypeId) (cs : Array Value) (fr : Nat × Nat) (fs : Array Field)
    (hp : tmps.getD p undef = .pointer (some ⟨g, 0, none⟩)) (hg : w.heap[g]? = some (.cells cs t fr))
    (hu : Try.prog.underlying ty = some (.struct fs)) (hi : (Try.prog.info? ty).map (·.size) = some cs.size) :
    (results fn tmps).run Try.prog w = .ok (.tuple #[.agg cs, tmps.getD q undef]) w := by
  rw [results_cell_tmp h, hp]
  simp [asAddr, run_loadVar_row w g t ty cs fr _ hg hu rfl hi]

section
variable {w : World} {lb mb : Nat} {S : Nat → Bool} {L : List Ln} {c d u : Nat} {n : Int}
/-- What Line answers, as a value. -/
def lineV (L : List Ln) (c d u : Nat) : Value := match findR L (rk c d u) with | some x => .agg #[.int .u8 c, .int .u8 d, .int .u8 u, .int .i64 x.lim, .int .i64 x.deb] | none => .agg #[.int .u8 0, .int .u8 0, .int .u8 0, .int .i64 0, .int .i64 0]

set_option maxHeartbeats 2000000 in
theorem lline (h : IsL w lb mb S L) (hc : c < 256) (hd : d < 256) (hu : u < 256) :
    Calls Try.prog 37 #[.pointer (some ⟨lb, 0, none⟩), .int .u8 c, .int .u8 d, .int .u8 u] w fun e w' => e = .returned (.tuple #[lineV L c d u, .bool (findR L (rk c d u)).isSome]) ∧ Chg [] w w' := by
  have HT := Lib.hid (fun W (k : Chg [] w W) => lthere_yes (h.chg0 k).cell)
  have HL := Lib.hid (fun W (k : Chg [] w W) => And.intro (h.chg0 k).cell ((h.map.chg k (by simp)).look_ok hc hd hu))
  unfold lineV
  cases hf : findR L (rk c d u) with
  | none =>
    have e1 : owedAt L (rk c d u) = (0, 0) := by unfold owedAt; rw [hf]
    rw [hf, e1] at HL
    clear h hc hd hu hf e1
    obtain ⟨k1, k2⟩ := HL.out _ ((Chg.refl [] w).alloc (.cells #[.int .u8 0, .int .u8 0, .int .u8 0, .int .i64 0, .int .i64 0] 62))
    go_enter Try.func37, Try.ntmps37
    go_wp2_with fail
    refine (HT.out _ (by (repeat first | exact Chg.refl _ _ | apply Chg.alloc))).mono ?_; rintro e w' ⟨rfl, rfl⟩
    go_wp2_with fail
    refine bodyPost_ret (results_cell_row_tmp rfl _ _ w.heap.size 62 #[.int .u8 0, .int .u8 0, .int .u8 0, .int .i64 0, .int .i64 0] (0, 0) _ rfl ((Blk.new _ _ _).alloc _) Try.underlying62 (by kernel_rfl)) rfl ?_
    exact ⟨rfl, ((Chg.refl _ _).alloc _).alloc _⟩
  | some x =>
    have e1 : owedAt L (rk c d u) = (x.lim, x.deb) := by unfold owedAt; rw [hf]
    rw [hf, e1] at HL
    obtain ⟨l, hl⟩ : ∃ l, l = x.lim := ⟨_, rfl⟩
    obtain ⟨b, hb⟩ : ∃ b, b = x.deb := ⟨_, rfl⟩
    dsimp only
    rw [← hl, ← hb] at HL ⊢
    clear h hc hd hu hf e1 hl hb
    obtain ⟨k1, k2⟩ := HL.out _ ((Chg.refl [] w).alloc (.cells #[.int .u8 0, .int .u8 0, .int .u8 0, .int .i64 0, .int .i64 0] 62))
    go_enter Try.func37, Try.ntmps37
    go_wp2_with fail
    refine (HT.out _ (by (repeat first | exact Chg.refl _ _ | apply Chg.alloc))).mono ?_; rintro e w' ⟨rfl, rfl⟩
    go_wp2_with fail
    refine bodyPost_ret (results_cell_row_tmp rfl _ _ w.heap.size 62 #[.int .u8 c, .int .u8 d, .int .u8 u, .int .i64 l, .int .i64 b] (0, 0) _ rfl ?_ Try.underlying62 (by kernel_rfl)) rfl ?_
    · exact (Blk.new _ _ _).alloc _
    exact ⟨rfl, ((Chg.refl _ _).alloc _).alloc _⟩

/-- What forgiving answers; the lines behind it. -/
def lforgiveE (L : List Ln) (c d u : Nat) (n : Int) : Int := if n < 1 then 1 else if (findR L (rk c d u)).isSome = false then 7 else if (owedAt L (rk c d u)).2 < n then 14 else 0
def lforgiveL (L : List Ln) (c d u : Nat) (n : Int) : List Ln := if lforgiveE L c d u n = 0 then addL L c d u (-n) else L
theorem lineV_some {x : Ln} (hf : findR L (rk c d u) = some x) : lineV L c d u = .agg #[.int .u8 c, .int .u8 d, .int .u8 u, .int .i64 x.lim, .int .i64 x.deb] ∧ owedAt L (rk c d u) = (x.lim, x.deb) := by
  unfold lineV owedAt
  rw [hf]
  exact ⟨rfl, rfl⟩

set_option maxHeartbeats 2000000 in
theorem lforgive (h : IsL w lb mb S L) (hc : c < 256) (hd : d < 256) (hu : u < 256) :
    Calls Try.prog 61 #[.pointer (some ⟨lb, 0, none⟩), .int .u8 c, .int .u8 d, .int .u8 u, .int .i64 n] w fun e w' => e = .returned (.int .i64 (lforgiveE L c d u n)) ∧ IsL w' lb mb S (lforgiveL L c d u n) ∧ Chg [mb] w w' := by
  have hlm := h.ne
  have HT := Lib.hid (fun W (k : Chg [] w W) => lthere_yes (h.chg0 k).cell)
  have HLN := Lib.hid (lline h hc hd hu)
  have HI := Lib.hid h
  have HS := Lib.hid (And.intro hc (And.intro hd hu))
  clear hc hd hu
  by_cases h1 : n < 1
  · have HE : Hid (lforgiveE L c d u n = 1) := Lib.hid (by unfold lforgiveE; rw [if_pos h1])
    have HQ : Hid (lforgiveL L c d u n = L) := Lib.hid (by unfold lforgiveL; rw [HE.out, if_neg (by omega)])
    have HV : Hid (∃ l b : Int, lineV L c d u = .agg #[.int .u8 c, .int .u8 d, .int .u8 u, .int .i64 l, .int .i64 b] ∨ lineV L c d u = .agg #[.int .u8 0, .int .u8 0, .int .u8 0, .int .i64 0, .int .i64 0]) := Lib.hid (by
      cases hf : findR L (rk c d u) with
      | none => exact ⟨0, 0, .inr (by unfold lineV; rw [hf])⟩
      | some x => exact ⟨_, _, .inl (lineV_some hf).1⟩)
    obtain ⟨l, b, hv⟩ := HV.out
    generalize (findR L (rk c d u)).isSome = is at HLN
    rcases hv with hv | hv
    all_goals rw [hv] at HLN
    all_goals clear h hv HV
    · go_enter Try.func61, Try.ntmps61
      go_wp2_with fail
      refine HLN.out.mono ?_; rintro e w2 ⟨rfl, hc2⟩
      have HC := Lib.hid hc2
      clear hc2
      go_wp2_with fail
      refine (HT.out _ (by first | exact HC.out.alloc _ | exact HC.out)).mono ?_; rintro e w' ⟨rfl, rfl⟩
      go_wp2_with fail
      go_ret
      exact ⟨by rw [HE.out]; rfl, by rw [HQ.out]; exact HI.out.chg0 (HC.out.alloc _), (HC.out.alloc _).mono (by simp)⟩
    · go_enter Try.func61, Try.ntmps61
      go_wp2_with fail
      refine HLN.out.mono ?_; rintro e w2 ⟨rfl, hc2⟩
      have HC := Lib.hid hc2
      clear hc2
      go_wp2_with fail
      refine (HT.out _ (by first | exact HC.out.alloc _ | exact HC.out)).mono ?_; rintro e w' ⟨rfl, rfl⟩
      go_wp2_with fail
      go_ret
      exact ⟨by rw [HE.out]; rfl, by rw [HQ.out]; exact HI.out.chg0 (HC.out.alloc _), (HC.out.alloc _).mono (by simp)⟩
  cases hf : findR L (rk c d u) with
  | none =>
    have HE : Hid (lforgiveE L c d u n = 7) := Lib.hid (by unfold lforgiveE; rw [if_neg h1, hf]; rfl)
    have HQ : Hid (lforgiveL L c d u n = L) := Lib.hid (by unfold lforgiveL; rw [HE.out, if_neg (by omega)])
    have hv : lineV L c d u = .agg #[.int .u8 0, .int .u8 0, .int .u8 0, .int .i64 0, .int .i64 0] := by unfold lineV; rw [hf]
    rw [hv, hf] at HLN
    clear h hv hf
    go_enter Try.func61, Try.ntmps61
    go_wp2_with fail
    refine HLN.out.mono ?_; rintro e w2 ⟨rfl, hc2⟩
    have HC := Lib.hid hc2
    clear hc2
    go_wp2_with fail
    refine (HT.out _ (by first | exact HC.out.alloc _ | exact HC.out)).mono ?_; rintro e w' ⟨rfl, rfl⟩
    go_wp2_with fail
    go_ret
    exact ⟨by rw [HE.out]; rfl, by rw [HQ.out]; exact HI.out.chg0 (HC.out.alloc _), (HC.out.alloc _).mono (by simp)⟩
  | some x =>
    obtain ⟨hv, ho⟩ := lineV_some hf
    obtain ⟨b1, b2, b3, b4⟩ := h.good.at (rk c d u)
    rw [ho] at b1 b2 b3 b4
    have hE0 : lforgiveE L c d u n = if x.deb < n then 14 else 0 := by unfold lforgiveE; rw [if_neg h1, hf, ho, if_neg (by simp)]
    by_cases h2 : x.deb < n
    · rw [if_pos h2] at hE0
      have HE := Lib.hid hE0
      have HQ : Hid (lforgiveL L c d u n = L) := Lib.hid (by unfold lforgiveL; rw [HE.out, if_neg (by omega)])
      rw [hv, hf] at HLN
      clear h hv hf ho hE0
      generalize x.lim = l at *
      generalize x.deb = b at *
      go_enter Try.func61, Try.ntmps61
      go_wp2_with fail
      refine HLN.out.mono ?_; rintro e w2 ⟨rfl, hc2⟩
      have HC := Lib.hid hc2
      clear hc2
      go_wp2_with fail
      refine (HT.out _ (by first | exact HC.out.alloc _ | exact HC.out)).mono ?_; rintro e w' ⟨rfl, rfl⟩
      go_wp2_with fail
      go_ret
      exact ⟨by rw [HE.out]; rfl, by rw [HQ.out]; exact HI.out.chg0 (HC.out.alloc _), (HC.out.alloc _).mono (by simp)⟩
    · rw [if_neg h2] at hE0
      have HE := Lib.hid hE0
      have HQ : Hid (lforgiveL L c d u n = addL L c d u (-n)) := Lib.hid (by unfold lforgiveL; rw [HE.out, if_pos rfl])
      have HG : Hid (GoodL S (addL L c d u (-n))) := Lib.hid (h.good.add h.map.sorted h.map.small HS.out.1 HS.out.2.1 (.inr (by rw [hf]; rfl)) (by rw [ho]; dsimp only; omega) (by rw [ho]; dsimp only at *; omega))
      rw [hv, hf] at HLN
      clear h hv hf ho hE0
      dsimp only at b1 b2 b3 b4
      generalize x.lim = l at *
      generalize x.deb = b at *
      go_enter Try.func61, Try.ntmps61
      go_wp2_with fail
      refine HLN.out.mono ?_; rintro e w2 ⟨rfl, hc2⟩
      have HC := Lib.hid hc2
      clear hc2
      go_wp2_with fail
      refine (HT.out _ (by first | exact HC.out.alloc _ | exact HC.out)).mono ?_; rintro e w' ⟨rfl, rfl⟩
      go_wp2_with fail
      obtain ⟨hc, hd, hu⟩ := HS.out
      have HC2 := Lib.hid (HC.out.alloc (.cells #[.int .u8 c, .int .u8 d, .int .u8 u, .int .i64 l, .int .i64 b] 62))
      refine (ladd (HI.out.chg0 HC2.out) hc hd hu (n := -n) (by omega) (by omega)).mono ?_
      rintro e w3 ⟨rfl, hm3, hc3⟩
      have HM3 := Lib.hid hm3
      have HC3 := Lib.hid ((HC2.out.mono (s' := [mb]) (by simp)).trans hc3)
      clear hm3 hc3 hc hd hu
      go_wp2_with fail
      go_ret
      exact ⟨by rw [HE.out]; rfl, by rw [HQ.out]; exact ⟨HI.out.blk.chg HC3.out (by simpa using hlm), HM3.out, HG.out⟩, HC3.out⟩
end
end Go.Proofs.Ytofnaigkfhfhoaa
