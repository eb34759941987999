/-
  The package paths: hops (how far each party is from one).
-/
import Derived.Test.YtofnaigkfhfhoaaVoidL
import Derived.ArgAppend
import Derived.Deep.LoopGhost
namespace Go.Proofs.Ytofnaigkfhfhoaa
open Go.RowKit Pl

/-! ### A graph's capacities, whether it is there or not -/

/-- What a graph value says: a graph, or none (then nothing goes). -/
def CapV (w : World) (v : Value) (C : Caps) : Prop := (∃ b, v = .pointer (some ⟨b, 0, none⟩) ∧ IsG w b C) ∨ (VoidG w v ∧ C = fun _ _ => 0)
theorem CapV.ok {w : World} {v : Value} {C : Caps} (h : CapV w v C) : CapOk 4398046511104 C := by
  rcases h with ⟨b, rfl, h⟩ | ⟨_, rfl⟩
  · exact h.good
  · exact Laid.zero.good
theorem CapV.chg {w w' : World} {v : Value} {C : Caps} {s : List Nat} (h : CapV w v C) (k : Chg s w w') (hs : ∀ a, v = .pointer (some a) → a.block ∉ s) : CapV w' v C := by
  rcases h with ⟨b, rfl, h⟩ | ⟨h, rfl⟩
  · exact .inl ⟨b, rfl, h.chg k (hs _ rfl)⟩
  · exact .inr ⟨h.chg k hs, rfl⟩
theorem CapV.chg0 {w w' : World} {v : Value} {C : Caps} (h : CapV w v C) (k : Chg [] w w') : CapV w' v C := h.chg k (by simp)
theorem gcapV {w : World} {v : Value} {C : Caps} (h : CapV w v C) {p q : Int} {f t : Nat} (hp : p = f) (hq : q = t) :
    Calls Try.prog 107 #[v, .int .u8 p, .int .u8 q] w fun e w' => e = .returned (.int .i64 (C f t)) ∧ w = w' := by
  rcases h with ⟨b, rfl, h⟩ | ⟨h, rfl⟩
  · exact gcap h hp hq
  · exact gcap_void h p q

/-! ### Rows of numbers by party -/

def intsA (d : Nat → Nat) : Array Value := ((List.range 17).map fun i => Value.int .i64 (d i)).toArray
theorem intsA_size (d : Nat → Nat) : (intsA d).size = 17 := by simp [intsA]
theorem intsA_get (d : Nat → Nat) {i : Nat} (h : i < 17) : (intsA d)[i]? = some (.int .i64 (d i)) := by simp [intsA, List.getElem?_map, List.getElem?_range h]
theorem intsA_congr {d e : Nat → Nat} (h : ∀ i, i < 17 → d i = e i) : intsA d = intsA e := by
  unfold intsA
  congr 1
  exact List.map_congr_left fun i hi => by rw [h i (List.mem_range.1 hi)]
theorem intsA_set (d : Nat → Nat) {i : Nat} (n : Nat) : (intsA d).setIfInBounds i (.int .i64 n) = intsA (upd d i n) := by
  apply Array.ext_getElem?
  intro k
  rw [Array.getElem?_setIfInBounds]
  by_cases hk : k < 17
  · rw [intsA_get _ hk, intsA_get _ hk]
    by_cases e : i = k
    · subst e
      rw [if_pos rfl, if_pos (by rw [intsA_size]; exact hk), upd_same]
    · rw [if_neg e, upd_other _ _ (Ne.symm e)]
  · by_cases e : i = k
    · rw [if_pos e, if_neg (by rw [intsA_size]; omega), Array.getElem?_eq_none (by rw [intsA_size]; omega)]
    · rw [if_neg e, Array.getElem?_eq_none (by rw [intsA_size]; omega), Array.getElem?_eq_none (by rw [intsA_size]; omega)]
theorem intsA_one (d : Nat → Nat) : ∀ u ∈ (intsA d).toList, u.oneCell' = true := by
  refine int_oneCell _ fun v hv => ?_
  simp [intsA] at hv
  obtain ⟨k, _, rfl⟩ := hv
  exact ⟨_, _, .inl rfl⟩
theorem zero_ints : (Try.prog.info? 135).bind (fun i => i.zero.map Value.cells) = some (intsA fun _ => 0) := by kernel_rfl
theorem size_ints : (Try.prog.info? 135).map (·.size) = some 17 := by kernel_rfl

/-! ### A queue: a slice of the call's own that begins anywhere in its row -/

def QSl (w : World) (base : Nat) (e : TypeId) (v : Value) (q : List Value) : Prop :=
  ∃ g off cap cs, v = .slice (some ⟨g, off, none⟩) q.length cap ∧ base ≤ g ∧ Blk w g e cs ∧ q.length ≤ cap ∧ off + cap ≤ cs.size ∧ ∀ j, j < q.length → cs[off + j]? = q[j]?

theorem QSl.chg {w w' : World} {base : Nat} {e : TypeId} {v : Value} {q : List Value} {s : List Nat} (h : QSl w base e v q) (k : Chg s w w') (hs : ∀ g, v.ownBlock = some g → g ∉ s) : QSl w' base e v q := by
  obtain ⟨g, off, cap, cs, rfl, hb, hk, r⟩ := h
  exact ⟨g, off, cap, cs, rfl, hb, hk.chg k (hs g rfl), r⟩
theorem QSl.tail {w : World} {base g off cap : Nat} {e : TypeId} {x : Value} {q : List Value} (h : QSl w base e (.slice (some ⟨g, off, none⟩) (q.length + 1) cap) (x :: q)) : QSl w base e (.slice (some ⟨g, off + 1, none⟩) q.length (cap - 1)) q := by
  obtain ⟨g', off', cap', cs, he, hb, hk, h1, h2, h3⟩ := h
  simp only [Value.slice.injEq, Option.some.injEq, Addr.mk.injEq, List.length_cons] at he
  obtain ⟨⟨rfl, rfl, _⟩, _, rfl⟩ := he
  simp only [List.length_cons] at h1 h3
  refine ⟨g, off + 1, cap - 1, cs, rfl, hb, hk, by omega, by omega, fun j hj => ?_⟩
  have := h3 (j + 1) (by omega)
  rw [List.getElem?_cons_succ] at this
  rw [← this, Nat.add_assoc, Nat.add_comm 1 j]

theorem wpList_append_queue {P : Program} {w : World} {ops : Array Oper} {rest : List Oper} {o : Oper} {a : Act} {Q : Exit → Act → World → Prop} (hgd : o.guard = none) (s x : Operand) (t : TypeId)
    (ho : o.op = .call { callee := .builtin .append, args := #[s, x], argTypes := #[t, t] })
    (base : Nat) (e : TypeId) (i : TypeInfo) (z : Value) (bytes : Nat) (ht : P.underlying t = some (.slice e)) (hi : P.info? e = some i) (hz : i.zero = some z)
    (hsize : i.size = 1) (hby : i.bytes = bytes) (hzs : z.cells.size = 1)
    (v : Value) (q : List Value) (hs : a.eval s = v) (hq : QSl w base e v q)
    (ad : Addr) (c : Nat) (u : Value) (hx : a.eval x = .slice (some ad) 1 c) (hu : w.cell? ad = some u) (h1 : u.oneCell' = true)
    (h63 : q.length + 1 ≤ maxLen) (hbytes : (q.length + 1) * bytes ≤ 140737488355328) (hbase : base ≤ w.heap.size)
    (h : ∀ v' w', QSl w' base e v' (q ++ [u]) → Chg v.ownBlock.toList w w' → (v'.ownBlock = v.ownBlock ∨ ∃ g, v'.ownBlock = some g ∧ w.heap.size ≤ g) → wpList P ops Q rest (a.put o.dst v') w') : wpList P ops Q (o :: rest) a w := by
  obtain ⟨g, off, cap, cs, rfl, hb, hk, hn, hc, hj⟩ := hq
  refine wpList_append_arg w hgd s x t ho e i z 1 bytes ht hi hz hsize hby hzs (by omega) g off q.length cap q hs (by omega) (fun j u' hu' => ?_) ad 1 c [u] hx (by simp) (fun j u' hu' => ?_) (by simpa using h1) (fun hroom j hjl => ?_) h63 hbytes (fun hroom => ?_) (fun hfull v' w' hown hgrow => ?_)
  · have hjq : j < q.length := (List.getElem?_eq_some_iff.1 hu').1
    rw [hk.cell, hj j hjq, hu']
  · have : j = 0 := by
      have := (List.getElem?_eq_some_iff.1 hu').1
      simpa using this
    subst this
    simp at hu'
    rw [show ad.add 0 = ad from rfl, hu, hu']
  · simp at hjl
    subst hjl
    refine ⟨?_, hk.frozen _⟩
    rw [hk.cell, Array.getElem?_eq_getElem (by omega)]; rfl
  · refine h _ _ ⟨g, off, cap, cs.setIfInBounds (off + q.length * 1) u, by simp, hb, hk.set _ _, by simp; omega, by simpa using hc, fun j hjl => ?_⟩ ((Chg.refl _ w).setCell (p := ⟨g, off + q.length * 1, none⟩) (.inl (by simp [Value.ownBlock])) u) (.inl rfl)
    rw [Nat.mul_one, Array.getElem?_setIfInBounds]
    simp at hjl
    by_cases e : j = q.length
    · subst e
      rw [if_pos rfl, if_pos (by omega)]; simp
    · rw [if_neg (by omega), hj j (by omega), List.getElem?_append_left (by omega)]
  · have hs' := hgrow.size
    obtain ⟨hl, ⟨_, h0⟩ | ⟨g', cap', cs', rfl, hb', hk', hn', _, hs2, ht'⟩⟩ := hown
    · omega
    · refine h _ _ ⟨g', 0, cap', cs', by simp, by omega, hk', by simpa using hn', by rw [hs2]; omega, fun j hjl => ?_⟩ ⟨hgrow.os, hgrow.tape, hgrow.output, hgrow.size, fun k hk2 _ => hgrow.block k hk2 (by simp)⟩ (.inr ⟨g', rfl, hb'⟩)
      rw [← ht', List.getElem?_take, if_pos (by simpa using hjl), Nat.zero_add]
      simp

/-! ### hops -/

theorem info_Party : (Try.prog.info? 22).map (fun i => (i.zero, i.size, i.bytes)) = some (some (.int .u8 0), 1, 1) := by kernel_rfl
def ptyA (q : List Nat) : List Value := q.map fun (p : Nat) => Value.int .u8 (p : Int)
theorem QSl.own {w : World} {base : Nat} {e : TypeId} {v : Value} {q : List Value} (h : QSl w base e v q) : ∀ g, v.ownBlock = some g → base ≤ g ∧ g < w.heap.size := by
  obtain ⟨g, off, cap, cs, rfl, hb, hk, _⟩ := h
  intro g' hg
  simp [Value.ownBlock] at hg
  subst hg
  exact ⟨hb, hk.lt⟩
theorem scan_step (C : Caps) (x j : Nat) (s : (Nat → Nat) × List Nat) : scan C x (List.range' 1 (j + 1)) s = Pl.look C x (scan C x (List.range' 1 j) s) (j + 1) := by
  rw [List.range'_concat, scan_snoc, Nat.mul_comm, Nat.mul_one, Nat.add_comm]
theorem bfs_nil (C : Caps) (k : Nat) (d : Nat → Nat) : bfs C k d [] = d := by cases k <;> rfl

/-- What is left of the search comes to R. (A structure: so that nothing looks into it.) -/
structure Left (C : Caps) (k : Nat) (d : Nat → Nat) (q : List Nat) (R : Nat → Nat) : Prop where
  eq : bfs C k d q = R
structure Start (C : Caps) (to : Nat) (R : Nat → Nat) : Prop where
  left : Left C 17 (upd (fun _ => 17) to 0) [to] R
  front : Front C to (upd (fun _ => 17) to 0) [] [to]

set_option maxRecDepth 100000 in
set_option maxHeartbeats 1000000 in
theorem phops {w : World} {v : Value} {C : Caps} (hv : CapV w v C) {to : Nat} (ht : to ∈ P16) {p : Int} (hp : p = to) :
    Calls Try.prog 170 #[v, .int .u8 p] w fun e w' => e = .returned (.agg (intsA (hops C to))) ∧ Chg [] w w' := by
  subst hp
  generalize hH : hops C to = R
  have HH : Start C to R := ⟨⟨hH⟩, Front.start C ht⟩
  clear hH
  obtain ⟨ht1, ht2⟩ := mem_P16.1 ht
  clear ht
  have CAP : Hid (∀ W, Chg [] w W → ∀ (p q : Int) (a b : Nat), p = a → q = b → Calls Try.prog 107 #[v, .int .u8 p, .int .u8 q] W fun e w' => e = .returned (.int .i64 (C a b)) ∧ W = w') := fun W hW p q a b hp hq => gcapV (hv.chg0 hW) hp hq
  clear hv
  obtain ⟨i0, hi, hz0, hz1, hz2⟩ := info_parts info_Party
  have II := Lib.hid (And.intro hi (And.intro hz0 (And.intro hz1 hz2)))
  clear hi hz0 hz1 hz2
  go_enter Try.func170, Try.ntmps170
  go_wp2_with (refine wpList_alloc_zero rfl 135 rfl _ zero_ints ?_)
  have hb0 : Blk ((w.alloc (.cells (intsA fun _ => 0) 135)).alloc (.cells (intsA fun _ => 0) 135)) w.heap.size 135 (intsA fun _ => 0) := (Blk.new _ _ _).alloc _
  have hb1 : Blk ((w.alloc (.cells (intsA fun _ => 0) 135)).alloc (.cells (intsA fun _ => 0) 135)) (w.heap.size + 1) 135 (intsA fun _ => 0) := by
    have := Blk.new (w.alloc (.cells (intsA fun _ => 0) 135)) 135 (intsA fun _ => 0)
    rwa [World.size_alloc] at this
  have hc : Chg [] w ((w.alloc (.cells (intsA fun _ => 0) 135)).alloc (.cells (intsA fun _ => 0) 135)) := ((Chg.refl _ _).alloc _).alloc _
  obtain ⟨W, hW⟩ : ∃ W : World, W = (w.alloc (.cells (intsA fun _ => 0) 135)).alloc (.cells (intsA fun _ => 0) 135) := ⟨_, rfl⟩
  rw [← hW] at hb0 hb1 hc ⊢
  clear hW
  go_loopw [10] (fun i wr => ∃ k : Nat, k ≤ 17 ∧ i = .int .i64 k ∧ Blk wr w.heap.size 135 (intsA fun _ => 0) ∧ Blk wr (w.heap.size + 1) 135 (intsA fun i => if i < k then 17 else 0) ∧ Chg [] w wr) (fun i _ => 17 - (intOf i).toNat)
  case atStart => exact ⟨0, by omega, rfl, hb0, by simpa using hb1, hc⟩
  case round =>
    clear hb0 hb1 hc
    obtain ⟨k, hk, rfl, hb0, hb1, hchg⟩ := hrel
    by_cases hlt : k < 17
    · have f1 := hb1.frozen k
      have c1 : wr.cell? ⟨w.heap.size + 1, k, none⟩ = some (.int .i64 ((if k < k then 17 else 0 : Nat) : Int)) := by rw [hb1.cell, intsA_get _ hlt]
      have hb1' := hb1.set k (.int .i64 ((17 : Nat) : Int))
      rw [intsA_set _ 17] at hb1'
      have hup : upd (fun i => if i < k then 17 else 0) k 17 = fun i => if i < k + 1 then 17 else 0 := by
        funext i
        by_cases e : i = k
        · subst e; rw [upd_same, if_pos (by omega)]
        · rw [upd_other _ _ e]; by_cases e2 : i < k
          · rw [if_pos e2, if_pos (by omega)]
          · rw [if_neg e2, if_neg (by omega)]
      rw [hup] at hb1'
      have FF := Lib.hid (And.intro (hb0.far (a := ⟨w.heap.size + 1, k, none⟩) (by simp) (.int .i64 ((17 : Nat) : Int))) (And.intro hb1' (hchg.setCell (p := ⟨w.heap.size + 1, k, none⟩) (.inr (by simp)) (.int .i64 ((17 : Nat) : Int)))))
      clear hup hb1' hb0 hb1 hchg
      go_wp2
      go_roundw
      case rel => exact ⟨k + 1, by omega, by go_num, FF.out⟩
      case measure => simp [intOf]; omega
    · obtain rfl : k = 17 := by omega
      have hall : Blk wr (w.heap.size + 1) 135 (intsA fun _ => 17) := by
        have e : intsA (fun i => if i < 17 then 17 else 0) = intsA fun _ => 17 := intsA_congr fun i hi => if_pos hi
        rwa [e] at hb1
      have f1 := hall.frozen to
      have c1 : wr.cell? ⟨w.heap.size + 1, to, none⟩ = some (.int .i64 17) := by rw [hall.cell, intsA_get _ (by omega)]; rfl
      have hb1' := hall.set to (.int .i64 ((0 : Nat) : Int))
      rw [intsA_set _ 0] at hb1'
      have hq : QSl ((wr.setCell ⟨w.heap.size + 1, to, none⟩ (.int .i64 ((0 : Nat) : Int))).alloc (.cells #[.int .u8 to] 22)) w.heap.size 22 (.slice (some ⟨wr.heap.size, 0, none⟩) 1 1) (ptyA [to]) :=
        ⟨wr.heap.size, 0, 1, #[.int .u8 to], rfl, hchg.size, by
          have := Blk.new (wr.setCell ⟨w.heap.size + 1, to, none⟩ (.int .i64 ((0 : Nat) : Int))) 22 #[.int .u8 to]
          simpa [World.setCell] using this, by simp [ptyA], by simp, fun j hj => by simp [ptyA] at hj; subst hj; simp [ptyA]⟩
      have FF := Lib.hid (And.intro hq (And.intro (hb1'.alloc (.cells #[.int .u8 to] 22)) (And.intro ((hb0.far (a := ⟨w.heap.size + 1, to, none⟩) (by simp) (.int .i64 ((0 : Nat) : Int))).alloc (.cells #[.int .u8 to] 22)) (And.intro ((hchg.setCell (p := ⟨w.heap.size + 1, to, none⟩) (.inr (by simp)) (.int .i64 ((0 : Nat) : Int))).alloc (.cells #[.int .u8 to] 22)) hb1.lt))))
      clear hq hb1' hall hb0 hb1 hchg
      go_wp2
      go_loopg [7] 17 (fun k u ws => ∃ (d : Nat → Nat) (D q : List Nat), QSl ws w.heap.size 22 u (ptyA q) ∧ Blk ws (w.heap.size + 1) 135 (intsA d) ∧ Blk ws w.heap.size 135 (intsA fun _ => 0) ∧ Chg [] w ws ∧ Front C to d D q ∧ Left C k d q R ∧ Hid (k + D.length = 17) ∧ Hid (∀ g, u.ownBlock = some g → w.heap.size + 1 < g))
      case atStart =>
        have hlt := FF.out.2.2.2.2
        exact ⟨_, [], [to], FF.out.1, FF.out.2.1, FF.out.2.2.1, FF.out.2.2.2.1, HH.front, HH.left, rfl, fun g hg => by simp [Value.ownBlock] at hg; omega⟩
      case round =>
        clear FF c1 f1
        obtain ⟨d, D, q, hq, hb1, hb0, hchg, hF, hbf, hkd, hown⟩ := hrel
        cases q with
        | nil =>
          obtain ⟨g, off, cap, cs, rfl, hgb, hgk, _⟩ := hq
          have ed : d = R := by have := hbf.eq; rwa [bfs_nil] at this
          rw [ed] at hb1
          clear ed hbf
          have hbr := (hb0.row (intsA R))
          have hcr := hchg.setRow (g := w.heap.size) (.inr (Nat.le_refl _)) (intsA R)
          have RR := Lib.hid (And.intro hbr hcr)
          clear hbr hcr hF hkd hown hgk
          go_wp2_with (first
            | (refine wpList_load_row rfl 135 (.tmp 5) rfl (w.heap.size + 1) rfl 135 (intsA R) (0, 0) _ hb1 Try.underlying135 rfl (by rw [intsA_size]; exact size_ints) ?_)
            | (refine wpList_store_whole rfl 135 (.tmp 4) (.tmp 53) rfl w.heap.size rfl (intsA R) rfl _ _ hb0 (by rw [intsA_size]; exact size_ints) (by rw [intsA_size, intsA_size]) (intsA_one _) ?_))
          refine bodyPost_ret (results_cell_row rfl _ _ w.heap.size 135 (intsA R) (0, 0) _ rfl RR.out.1 Try.underlying135 rfl (by rw [intsA_size]; exact size_ints)) rfl ?_
          exact ⟨rfl, RR.out.2⟩
        | cons x q =>
          have hlen := hF.len
          obtain ⟨kk, rfl⟩ : ∃ kk, gk = kk + 1 := ⟨gk - 1, by have := hkd.out; simp at hlen; omega⟩
          have hkd2 : Hid (kk + (D ++ [x]).length = 17) := by have := hkd.out; show _ = _; simp; omega
          have hxin := hF.inP x (by simp)
          obtain ⟨hx1, hx2⟩ := mem_P16.1 hxin
          have hmid := hF.mid
          have hbf2 : Left C kk (scan C x P16 (d, q)).1 (scan C x P16 (d, q)).2 R := ⟨by have := hbf.eq; rwa [bfs] at this⟩
          have hFn := hF.step
          obtain ⟨g, off, cap, cs, rfl, hgb, hgk, hq1, hq2, hq3⟩ := hq
          have c0 : wr.cell? ⟨g, off, none⟩ = some (.int .u8 x) := by
            have := hq3 0 (by simp [ptyA])
            rw [Nat.add_zero] at this
            rw [hgk.cell, this]; rfl
          have hqt : ∃ off', ((cap = 1 ∧ off' = off) ∨ (cap ≠ 1 ∧ off' = off + 1)) ∧ QSl wr w.heap.size 22 (.slice (some ⟨g, off', none⟩) q.length (cap - 1)) (ptyA q) := by
            by_cases hcap : cap = 1
            · refine ⟨off, .inl ⟨hcap, rfl⟩, g, off, cap - 1, cs, by simp [ptyA], hgb, hgk, by simp [ptyA] at hq1 ⊢; omega, by omega, fun j hj => ?_⟩
              simp [ptyA] at hj hq1; omega
            · refine ⟨off + 1, .inr ⟨hcap, rfl⟩, ?_⟩
              have : QSl wr w.heap.size 22 (.slice (some ⟨g, off, none⟩) ((ptyA q).length + 1) cap) (Value.int .u8 x :: ptyA q) := ⟨g, off, cap, cs, rfl, hgb, hgk, hq1, hq2, hq3⟩
              have := this.tail
              simpa [ptyA] using this
          obtain ⟨off', hoff, hqt⟩ := hqt
          have hl0 : (ptyA (x :: q)).length = q.length + 1 := by simp [ptyA]
          rw [hl0] at hq1 ⊢
          have hown0 : g ≠ w.heap.size + 1 ∧ w.heap.size + 1 < g := by have := hown.out g rfl; exact ⟨by omega, this⟩
          have FQ := Lib.hid (And.intro hqt (And.intro hb1 (And.intro hb0 (And.intro hchg (And.intro hmid hown0.2)))))
          have FN := Lib.hid (And.intro hbf2 (And.intro hFn hkd2))
          clear hqt hb1 hb0 hchg hmid hbf2 hFn hF hbf hkd hkd2 hgk hq2 hq3 hown hxin hl0 hown0 hgb
          rcases hoff with ⟨rfl, rfl⟩ | ⟨h1, rfl⟩
          all_goals
            go_wp2
            clear c0
            go_loopw [7, 9] (fun u i ws => ∃ (j : Nat) (s : (Nat → Nat) × List Nat), j ≤ 16 ∧ i = .int .u8 ((j : Int) + 1) ∧ Hid (s = scan C x (List.range' 1 j) (d, q)) ∧ QSl ws w.heap.size 22 u (ptyA s.2) ∧ Blk ws (w.heap.size + 1) 135 (intsA s.1) ∧ Blk ws w.heap.size 135 (intsA fun _ => 0) ∧ Chg [] w ws ∧ Hid (∀ g, u.ownBlock = some g → w.heap.size + 1 < g)) (fun _ i _ => 17 - (intOf i).toNat)
            case atStart => exact ⟨0, (d, q), by omega, rfl, rfl, by first | exact FQ.out.1 | (have h := FQ.out.1; rw [show q.length = 0 from by first | omega | (simp at hq1; simp [hq1])] at h; exact h), FQ.out.2.1, FQ.out.2.2.1, FQ.out.2.2.2.1, fun g' hg' => by simp [Value.ownBlock] at hg'; subst hg'; exact FQ.out.2.2.2.2.2⟩
            case round =>
              obtain ⟨j, s, hj, rfl, hs, hq, hb1, hb0, hchg, hown⟩ := hrel
              by_cases hjt : j < 16
              · have hmid := FQ.out.2.2.2.2.1.scan (List.range' 1 j) [] (fun r hr => by rw [List.mem_range'_1] at hr; rw [mem_P16]; omega)
                rw [← hs.out] at hmid
                have hle16 := length_le16 hmid.nodup hmid.inP
                have hsx := hmid.small x (by simp)
                have hsx15 : s.1 x ≤ 15 := by omega
                clear hmid hle16 hsx
                have hj1 : (j : Int) + 1 ≤ 16 := by omega
                have c1 : wr.cell? ⟨w.heap.size + 1, j + 1, none⟩ = some (.int .i64 (s.1 (j + 1))) := by rw [hb1.cell, intsA_get _ (by omega)]
                have c2 : wr.cell? ⟨w.heap.size + 1, x, none⟩ = some (.int .i64 (s.1 x)) := by rw [hb1.cell, intsA_get _ (by omega)]
                have f1 := hb1.frozen (j + 1)
                have HL : Hid (∀ s', s' = Pl.look C x s (j + 1) → s' = scan C x (List.range' 1 (j + 1)) (d, q)) := fun s' h => by rw [h, scan_step, ← hs.out]
                by_cases h17 : s.1 (j + 1) = 17
                · rw [h17] at c1
                  have HC := Lib.hid hchg
                  by_cases hpos : 0 < C (j + 1) x
                  · have HS := HL.out (upd s.1 (j + 1) (s.1 x + 1), s.2 ++ [j + 1]) (by unfold Pl.look; rw [if_pos ⟨h17, hpos⟩])
                    have hb1' := hb1.set (j + 1) (.int .i64 ((s.1 x + 1 : Nat) : Int))
                    rw [intsA_set _ (s.1 x + 1)] at hb1'
                    have hcw := (Chg.refl [w.heap.size + 1] wr).setCell (p := ⟨w.heap.size + 1, j + 1, none⟩) (.inl (by simp)) (.int .i64 ((s.1 x + 1 : Nat) : Int))
                    have hqx := (hq.chg hcw (by intro g' hg'; have := hown.out g' hg'; simp; omega)).chg ((Chg.refl [] _).alloc (.cells #[.int .u8 ((j : Int) + 1)] 22)) (by simp)
                    have hbx := hb1'.alloc (.cells #[.int .u8 ((j : Int) + 1)] 22)
                    have hb0x := (hb0.far (a := ⟨w.heap.size + 1, j + 1, none⟩) (by simp) (.int .i64 ((s.1 x + 1 : Nat) : Int))).alloc (.cells #[.int .u8 ((j : Int) + 1)] 22)
                    have hcx := (hchg.setCell (p := ⟨w.heap.size + 1, j + 1, none⟩) (.inr (by simp)) (.int .i64 ((s.1 x + 1 : Nat) : Int))).alloc (.cells #[.int .u8 ((j : Int) + 1)] 22)
                    have hcell : ((wr.setCell ⟨w.heap.size + 1, j + 1, none⟩ (.int .i64 ((s.1 x + 1 : Nat) : Int))).alloc (.cells #[.int .u8 ((j : Int) + 1)] 22)).cell? ⟨wr.heap.size, 0, none⟩ = some (.int .u8 ((j : Int) + 1)) := by
                      have := (Blk.new (wr.setCell ⟨w.heap.size + 1, j + 1, none⟩ (.int .i64 ((s.1 x + 1 : Nat) : Int))) 22 #[.int .u8 ((j : Int) + 1)]).cell 0
                      simpa [World.setCell] using this
                    have hob := hb1.lt
                    have hbase := hcx.size
                    have hq16 : s.2.length ≤ 1000 := by
                      have hm2 := FQ.out.2.2.2.2.1.scan (List.range' 1 j) [] (fun r hr => by rw [List.mem_range'_1] at hr; rw [mem_P16]; omega)
                      rw [← hs.out] at hm2
                      have := length_le16 hm2.nodup hm2.inP
                      simp at this; omega
                    have HS2 := Lib.hid HS
                    have FX := Lib.hid (And.intro hqx (And.intro hbx (And.intro hb0x (And.intro hcx (And.intro hcell (And.intro hob (And.intro hbase (And.intro hown.out hq.own))))))))
                    clear HS HL hqx hbx hb0x hcx hcell hob hbase hb1' hcw hq hb1 hb0 hchg hown hs h17
                    go_wp2_with fail
                    refine (CAP.out _ HC.out _ _ (j + 1) x (by omega) rfl).mono ?_; rintro e w' ⟨rfl, rfl⟩
                    go_wp2_with (at_builtin; refine wpList_append_queue rfl _ _ 66 rfl w.heap.size 22 i0 _ 1 Try.underlying66 II.out.1 II.out.2.1 II.out.2.2.1 II.out.2.2.2 rfl _ (ptyA s.2) rfl FX.out.1 ⟨wr.heap.size, 0, none⟩ 1 (.int .u8 ((j : Int) + 1)) rfl FX.out.2.2.2.2.1 rfl (by simp [ptyA]; exact le_maxLen (by omega)) (by simp [ptyA]; omega) FX.out.2.2.2.2.2.2.1 ?_)
                    intro v' w1 hq' hc' ho'
                    have hptya : ptyA s.2 ++ [Value.int .u8 ((j : Int) + 1)] = ptyA (s.2 ++ [j + 1]) := by simp [ptyA]
                    rw [hptya] at hq'
                    have FY : Hid (QSl w1 w.heap.size 22 v' (ptyA (s.2 ++ [j + 1])) ∧ Blk w1 (w.heap.size + 1) 135 (intsA (upd s.1 (j + 1) (s.1 x + 1))) ∧ Blk w1 w.heap.size 135 (intsA fun _ => 0) ∧ Chg [] w w1 ∧ Hid (∀ g, v'.ownBlock = some g → w.heap.size + 1 < g)) := by
                      have hno : ∀ g, g ∈ (Value.ownBlock _).toList → w.heap.size + 1 < g := fun g hg => FX.out.2.2.2.2.2.2.2.1 g (by simpa using hg)
                      refine ⟨hq', FX.out.2.1.chg hc' (fun h => by have := hno _ h; omega), FX.out.2.2.1.chg hc' (fun h => by have := hno _ h; omega), FX.out.2.2.2.1.fresh hc' (fun g hg => .inr (by have := hno _ hg; omega)), fun g hg => ?_⟩
                      rcases ho' with h | ⟨g', h, h'⟩
                      · rw [h] at hg; exact FX.out.2.2.2.2.2.2.2.1 g hg
                      · rw [h] at hg; cases hg
                        have := FX.out.2.2.2.2.2.1
                        (try simp [World.setCell] at h')
                        omega
                    clear hq' hc' ho' FX hptya
                    go_wp2
                    go_roundw
                    case rel => first | exact ⟨j + 1, _, by omega, by go_num, HS2, FY.out⟩ | ((repeat apply Exists.intro); exact ⟨⟨j + 1, _, by omega, by go_num, HS2, FY.out⟩, rfl⟩)
                    case measure => simp [intOf]; omega
                  · have HS := HL.out s (by unfold Pl.look; rw [if_neg (fun h => hpos h.2)])
                    have FF := Lib.hid (And.intro hq (And.intro hb1 (And.intro hb0 (And.intro hchg hown.out))))
                    have HS2 := Lib.hid HS
                    have HP := Lib.hid (show (C (j + 1) x ≤ 0) from by omega)
                    clear HS HL hq hb1 hb0 hchg hown hs h17
                    go_wp2_with fail
                    refine (CAP.out _ HC.out _ _ (j + 1) x (by omega) rfl).mono ?_; rintro e w' ⟨rfl, rfl⟩
                    have hn := HP.out
                    go_wp2
                    go_roundw
                    case rel => first | exact ⟨j + 1, s, by omega, by go_num, HS2, FF.out⟩ | ((repeat apply Exists.intro); exact ⟨⟨j + 1, s, by omega, by go_num, HS2, FF.out⟩, rfl⟩)
                    case measure => simp [intOf]; omega
                · have HS := HL.out s (by unfold Pl.look; rw [if_neg (fun h => h17 h.1)])
                  have FF := Lib.hid (And.intro hq (And.intro hb1 (And.intro hb0 (And.intro hchg hown.out))))
                  have HS2 := Lib.hid HS
                  have d1 : ((s.1 (j + 1) : Int) == 17) = false := by rw [beq_eq_false_iff_ne]; omega
                  clear HS HL hq hb1 hb0 hchg hown hs h17
                  go_wp2
                  go_roundw
                  case rel => exact ⟨j + 1, s, by omega, by go_num, HS2, FF.out⟩
                  case measure => simp [intOf]; omega
              · obtain rfl : j = 16 := by omega
                have e := hs.out
                rw [show List.range' 1 16 = P16 from rfl] at e
                have hF2 := FN.out.2.1
                have hL2 := FN.out.1
                rw [← e] at hF2 hL2
                have FF := Lib.hid (And.intro hq (And.intro hb1 (And.intro hb0 (And.intro hchg (And.intro hF2 (And.intro hL2 (And.intro FN.out.2.2 hown)))))))
                clear e hF2 hL2 hs hq hb1 hb0 hchg hown
                go_wp2
                go_roundg kk
                case measure => omega
                case rel => exact ⟨s.1, D ++ [x], s.2, FF.out⟩
end Go.Proofs.Ytofnaigkfhfhoaa
