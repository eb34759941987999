/-
  The package flows: Route.
-/
import Derived.Test.YtofnaigkfhfhoaaRoute
import Derived.Deep.AppendLies
import Derived.Deep.RegionHeld3
namespace Go.Proofs.Ytofnaigkfhfhoaa
open Go.RowKit Go.Shelf Pl
attribute [local go_sem] Oper.semAt_some
attribute [local go_sem ↓] Go.wp_at_zero Go.wp_at_succ

theorem RdP.cells {Y : World} {base g c : Nat} {l : List Nat} (h : RdP Y base (.slice (some ⟨g, 0, none⟩) l.length c) l) : ∀ j (hj : j < l.length), Y.cell? ⟨g, j, none⟩ = some (.int .u8 l[j]) := by
  intro k hk
  obtain ⟨_, ⟨h0, _⟩ | ⟨g', c', cs, e, hgb, hgk, hcap, _, hsz, htk⟩⟩ := h
  · cases h0
  · injection e with e1 e2 e3
    injection e1 with e1
    injection e1 with e1
    subst e1
    rw [cell_of_row Y g k cs _ _ hgk]
    have : (cs.toList.take (l.length * 1))[k]? = (ptyA l)[k]? := by rw [htk]
    rw [List.getElem?_take, if_pos (by omega)] at this
    simpa [ptyA, hk] using this
theorem RdP.gle {Y : World} {base g c : Nat} {l : List Nat} (h : RdP Y base (.slice (some ⟨g, 0, none⟩) l.length c) l) : base ≤ g := by
  obtain ⟨_, ⟨h0, _⟩ | ⟨g', c', cs, e, hgb, hgk, hcap, _, hsz, htk⟩⟩ := h
  · cases h0
  · injection e with e1 e2 e3
    injection e1 with e1
    injection e1 with e1
    subst e1
    exact hgb
theorem RdP.blk {Y : World} {base g n c : Nat} {l : List Nat} (h : RdP Y base (.slice (some ⟨g, 0, none⟩) n c) l) : ∃ cs, Blk Y g 22 cs := by
  obtain ⟨_, ⟨h0, _⟩ | ⟨g', c', cs, e, hgb, hgk, hcap, _, hsz, htk⟩⟩ := h
  · cases h0
  · injection e with e1 e2 e3
    injection e1 with e1
    injection e1 with e1
    subst e1
    exact ⟨cs, hgk⟩
theorem ownsRow_far {Y : World} {base n : Nat} {e : TypeId} {size : Nat} {v u : Value} {xs : List Value} {k : Nat} (h : Y.ownsRow base e size v n xs) (hk : k < base) : (Y.setCell ⟨k, 0, none⟩ u).ownsRow base e size v n xs := by
  obtain ⟨hl, h0 | ⟨g, c, cs, he, hbg, hk2, r⟩⟩ := h
  · exact ⟨hl, .inl h0⟩
  · exact ⟨hl, .inr ⟨g, c, cs, he, hbg, Blk.far (t := e) hk2 (by dsimp only; omega) _, r⟩⟩
theorem along_split : ∀ (l : List Nat) (n : Int) (k : Nat) (h : k + 1 < l.length), ∃ ys, along l n = along (l.take (k + 1)) n ++ ⟨l[k], l[k + 1], n⟩ :: ys
  | [], _, _, h => by simp at h
  | [_], _, _, h => by simp at h
  | a :: b :: l, n, 0, _ => ⟨along (b :: l) n, by simp [along]⟩
  | a :: b :: l, n, k + 1, h => by
    obtain ⟨ys, hys⟩ := along_split (b :: l) n k (by simpa using h)
    refine ⟨ys, ?_⟩
    have e2 : (a :: b :: l).take (k + 1 + 1) = a :: (b :: l).take (k + 1) := rfl
    have e4 : (b :: l).take (k + 1) = b :: l.take k := rfl
    rw [e2]
    rw [e4] at hys ⊢
    have c1 : along (a :: b :: l) n = ⟨a, b, n⟩ :: along (b :: l) n := rfl
    have c2 : along (a :: b :: l.take k) n = ⟨a, b, n⟩ :: along (b :: l.take k) n := rfl
    rw [c1, c2, hys]
    rfl

/-- What Route answers of a graph with these capacities: its pushes in a list of its own, and how much it got. -/
def RouteP (C : Caps) (s t : Nat) (want : Int) (w : World) (e : Ending) (w' : World) : Prop :=
  ∃ v, e = .returned (.tuple #[v, .int .i64 (route s t want.toNat C want).2.1]) ∧ OwnSl w' w.heap.size 114 3 v (route s t want.toNat C want).1.length (flsCells (route s t want.toNat C want).1) ∧ Chg [] w w'

theorem OwnSl.isSlice {w : World} {base : Nat} {e : TypeId} {size : Nat} {v : Value} {n : Nat} {xs : List Value} (h : OwnSl w base e size v n xs) : ∃ a k c, v = .slice a k c := by
  obtain ⟨_, ⟨rfl, _⟩ | ⟨g, cs, rfl, _⟩⟩ := h
  · exact ⟨_, _, _, rfl⟩
  · exact ⟨_, _, _, rfl⟩

theorem Blk.put {w : World} {b D : Nat} {t : TypeId} {cs : Array Value} (h : Blk w b t cs) (hne : b ≠ D) (o : Obj) : Blk (w.putObj D o) b t cs := (World.putObj_heap_other hne).trans h
theorem Chg.put {s : List Nat} {a w : World} {D : Nat} (h : Chg s a w) (hD : D ∈ s ∨ a.heap.size ≤ D) (o : Obj) : Chg s a (w.putObj D o) :=
  ⟨h.os, h.tape, h.output, by simpa [World.putObj] using h.size, fun k hk hn => (World.putObj_heap_other (by
    rintro rfl
    rcases hD with hD | hD
    · exact hn hD
    · omega)).trans (h.block k hk hn)⟩
theorem OwnSl.move {X Z : World} {base base' : Nat} {e : TypeId} {size : Nat} {v : Value} {n : Nat} {xs : List Value} (h : OwnSl X base e size v n xs) (hb : base' ≤ base) (hg : ∀ g cs, base ≤ g → Blk X g e cs → Blk Z g e cs) : OwnSl Z base' e size v n xs := by
  obtain ⟨hl, h0 | ⟨g, cs, rfl, hbg, hk, r⟩⟩ := h
  · exact ⟨hl, .inl h0⟩
  · exact ⟨hl, .inr ⟨g, cs, rfl, by omega, hg g cs hbg hk, r⟩⟩

set_option maxRecDepth 100000 in
set_option maxHeartbeats 2000000 in
theorem froute_pos {w : World} {b : Nat} {C : Caps} (h : IsG w b C) {s t : Nat} {want : Int} (hw : 0 < want) (hw2 : want ≤ 9223372036854775807) :
    Calls Try.prog 69 #[.pointer (some ⟨b, 0, none⟩), .int .u8 s, .int .u8 t, .int .i64 want] w (RouteP C s t want w) := by
  have hg0 := (((h.alloc (.cells #[.pointer (some ⟨b, 0, none⟩)] 96)).alloc (.cells #[.int .i64 want] 2)).alloc (.cells #[.slice none 0 0] 43)).alloc (.cells #[.int .i64 0] 2)
  have HG := Lib.hid (gcopy hg0)
  have HB : Hid (Blk ((((w.alloc (.cells #[.pointer (some ⟨b, 0, none⟩)] 96)).alloc (.cells #[.int .i64 want] 2)).alloc (.cells #[.slice none 0 0] 43)).alloc (.cells #[.int .i64 0] 2)) w.heap.size 96 #[.pointer (some ⟨b, 0, none⟩)] ∧ True) := ⟨(((Blk.new w _ _).alloc _).alloc _).alloc _, trivial⟩
  have HB2 : Hid (Blk ((((w.alloc (.cells #[.pointer (some ⟨b, 0, none⟩)] 96)).alloc (.cells #[.int .i64 want] 2)).alloc (.cells #[.slice none 0 0] 43)).alloc (.cells #[.int .i64 0] 2)) (w.heap.size + 1) 2 #[.int .i64 want] ∧
      Blk ((((w.alloc (.cells #[.pointer (some ⟨b, 0, none⟩)] 96)).alloc (.cells #[.int .i64 want] 2)).alloc (.cells #[.slice none 0 0] 43)).alloc (.cells #[.int .i64 0] 2)) (w.heap.size + 2) 43 #[.slice none 0 0] ∧
      Blk ((((w.alloc (.cells #[.pointer (some ⟨b, 0, none⟩)] 96)).alloc (.cells #[.int .i64 want] 2)).alloc (.cells #[.slice none 0 0] 43)).alloc (.cells #[.int .i64 0] 2)) (w.heap.size + 3) 2 #[.int .i64 0]) := by
    have a1 := Blk.new (w.alloc (.cells #[.pointer (some ⟨b, 0, none⟩)] 96)) 2 #[.int .i64 want]
    have a2 := Blk.new ((w.alloc (.cells #[.pointer (some ⟨b, 0, none⟩)] 96)).alloc (.cells #[.int .i64 want] 2)) 43 #[.slice none 0 0]
    have a3 := Blk.new (((w.alloc (.cells #[.pointer (some ⟨b, 0, none⟩)] 96)).alloc (.cells #[.int .i64 want] 2)).alloc (.cells #[.slice none 0 0] 43)) 2 #[.int .i64 0]
    rw [World.size_alloc] at a1
    rw [World.size_alloc, World.size_alloc] at a2
    rw [World.size_alloc, World.size_alloc, World.size_alloc] at a3
    exact ⟨(a1.alloc _).alloc _, a2.alloc _, a3⟩
  obtain ⟨i0, q0, q1, q2, q3⟩ := info_parts info_Flow
  have II := Lib.hid (And.intro q0 (And.intro q1 (And.intro q2 q3)))
  clear q0 q1 q2 q3
  clear h hg0
  refine (callsIn_wide (n := 3)).1 ?_
  refine callsIn_of_wp_marks Try.func69 rfl trivial ?_ rfl
  simp only [Try.ntmps69, List.size_toArray, List.length_cons, List.length_nil, Nat.reduceAdd, Nat.reduceSub, Array.replicate_succ, Array.replicate_zero, List.push_toArray, List.append_toArray, List.nil_append, List.cons_append]
  gi_wp2_with (first
    | (refine ⟨trivial, ?_⟩; gi_at_call 111; refine (callsIn_wide.2 HG.out).mono ?_; rintro e w1 ⟨rfl, hG1, hc1⟩; have hgb := (HB.out.1).chg hc1 (by simp); have hgc : w1.cell? ⟨w.heap.size, 0, none⟩ = some (.pointer (some ⟨b, 0, none⟩)) := hgb.cell 0; have hgf := hgb.frozen 0; have K1 := Lib.hid (And.intro hG1 (And.intro hc1 hgb)); clear hG1 hc1 hgb)
    | (refine ⟨trivial, ?_⟩; gi_at_call 112; refine (callsIn_wide.2 fways).mono ?_; rintro e w2 ⟨rfl, rfl⟩))
  obtain ⟨hG1, hc1, hgb⟩ := K1.out
  simp only [World.size_alloc] at hG1
  have hs1 : w.heap.size + 4 < w1.heap.size := by have := hG1.lt; omega
  have hq1 := HB2.out.1.chg hc1 (by simp)
  have hq2 := HB2.out.2.1.chg hc1 (by simp)
  have hq3 := HB2.out.2.2.chg hc1 (by simp)
  have hch1 : Chg [] w w1 := ((((((Chg.refl [] w).alloc _).alloc _).alloc _).alloc _)).trans hc1
  have HW : Hid (RM w ((((w1.setCell ⟨w.heap.size, 0, none⟩ (.pointer (some ⟨w.heap.size + 1 + 1 + 1 + 1, 0, none⟩))).alloc (.cells #[.pointer (some ⟨w.heap.size + 1 + 1 + 1 + 1, 0, none⟩)] 96)).alloc (.cells #[.int .u8 s] 22)).alloc (.cells #[.int .u8 t] 22)) w.heap.size (w.heap.size + 4) w1.heap.size want s t C [] 0) := by
    have hsz : (w1.setCell ⟨w.heap.size, 0, none⟩ (.pointer (some ⟨w.heap.size + 1 + 1 + 1 + 1, 0, none⟩))).heap.size = w1.heap.size := by simp [World.setCell]
    have n1 := Blk.new (w1.setCell ⟨w.heap.size, 0, none⟩ (.pointer (some ⟨w.heap.size + 1 + 1 + 1 + 1, 0, none⟩))) 96 #[.pointer (some ⟨w.heap.size + 1 + 1 + 1 + 1, 0, none⟩)]
    have n2 := Blk.new ((w1.setCell ⟨w.heap.size, 0, none⟩ (.pointer (some ⟨w.heap.size + 1 + 1 + 1 + 1, 0, none⟩))).alloc (.cells #[.pointer (some ⟨w.heap.size + 1 + 1 + 1 + 1, 0, none⟩)] 96)) 22 #[.int .u8 s]
    have n3 := Blk.new (((w1.setCell ⟨w.heap.size, 0, none⟩ (.pointer (some ⟨w.heap.size + 1 + 1 + 1 + 1, 0, none⟩))).alloc (.cells #[.pointer (some ⟨w.heap.size + 1 + 1 + 1 + 1, 0, none⟩)] 96)).alloc (.cells #[.int .u8 s] 22)) 22 #[.int .u8 t]
    rw [hsz] at n1
    rw [World.size_alloc, hsz] at n2
    rw [World.size_alloc, World.size_alloc, hsz] at n3
    refine ⟨⟨(((hG1.blk.far (by dsimp only; omega) _).alloc _).alloc _).alloc _, hG1.good⟩, (((hgb.set 0 _).alloc _).alloc _).alloc _, (((hq1.far (by dsimp only; omega) _).alloc _).alloc _).alloc _, ⟨_, (((hq2.far (by dsimp only; omega) _).alloc _).alloc _).alloc _, World.ownsRow_nil _ _ _ _⟩, (((hq3.far (by dsimp only; omega) _).alloc _).alloc _).alloc _, (n1.alloc _).alloc _, n2.alloc _, n3, (((hch1.setCell (.inr (Nat.le_refl _)) _).alloc _).alloc _).alloc _, ⟨by omega, by omega⟩⟩
  have HGood := hG1.good
  clear hq1 hq2 hq3 hG1 hc1 hgb
  obtain ⟨W, hW⟩ : ∃ W : World, W = (((w1.setCell ⟨w.heap.size, 0, none⟩ (.pointer (some ⟨w.heap.size + 1 + 1 + 1 + 1, 0, none⟩))).alloc (.cells #[.pointer (some ⟨w.heap.size + 1 + 1 + 1 + 1, 0, none⟩)] 96)).alloc (.cells #[.int .u8 s] 22)).alloc (.cells #[.int .u8 t] 22) := ⟨_, rfl⟩
  rw [← hW] at HW
  have hWs : w.heap.size ≤ W.heap.size := HW.out.ch.size
  rw [← hW]
  refine wpIn_rangeFunc_told rfl (by omega) (gf := 133) (lb := #[.pointer (some ⟨w1.heap.size, 0, none⟩), .pointer (some ⟨w1.heap.size + 1, 0, none⟩), .pointer (some ⟨w1.heap.size + 2, 0, none⟩)]) rfl trivial (enters_of Try.func133 (by kernel_rfl) rfl)
    (encs := fun x : Way1 => #[x.1])
    (fun pre x X => RdP X (w1.heap.size + 3) x.1 x.2 ∧ x.2 = short (stR C want (pre.map Prod.snd)).1 s t ∧ x.2 ≠ [])
    (fun pre X => RSL C s t want.toNat want (pre.map Prod.snd) ∧ (stR C want (pre.map Prod.snd)).2.2 < want ∧ RM w X w.heap.size (w.heap.size + 4) w1.heap.size want s t (stR C want (pre.map Prod.snd)).1 (stR C want (pre.map Prod.snd)).2.1 (stR C want (pre.map Prod.snd)).2.2)
    (fun c pre X => c = .exit 0 ∧ RSL C s t want.toNat want (pre.map Prod.snd) ∧ (stR C want (pre.map Prod.snd)).2.2 = want ∧ RM w X w.heap.size (w.heap.size + 4) w1.heap.size want s t (stR C want (pre.map Prod.snd)).1 (stR C want (pre.map Prod.snd)).2.1 (stR C want (pre.map Prod.snd)).2.2)
    (fun xs _ => short (stR C want (xs.map Prod.snd)).1 s t = [])
    ?seq (fun _ => rfl) ?hI ?hA ?hIx ?hS ?h0 (fun x => { tmps := #[.pointer (some ⟨b, 0, none⟩), .int .u8 s, .int .u8 t, .int .i64 want, .pointer (some ⟨w.heap.size, 0, none⟩), undef, undef, .pointer (some ⟨w.heap.size + 1, 0, none⟩), .pointer (some ⟨w.heap.size + 1 + 1, 0, none⟩), .pointer (some ⟨w.heap.size + 1 + 1 + 1, 0, none⟩), x.1, undef, undef, .int .i64 want, .bool (decide (want ≤ 0)), .pointer (some ⟨b, 0, none⟩), .pointer (some ⟨w.heap.size + 1 + 1 + 1 + 1, 0, none⟩), .pointer (some ⟨w.heap.size + 1 + 1 + 1 + 1, 0, none⟩), .int .u8 s, .int .u8 t, .func (.func 133) #[] #[.pointer (some ⟨w1.heap.size, 0, none⟩), .pointer (some ⟨w1.heap.size + 1, 0, none⟩), .pointer (some ⟨w1.heap.size + 2, 0, none⟩)], x.1, undef, undef, undef, undef, undef, undef, undef, undef, undef, undef, undef, undef, undef, undef, undef, undef, undef, undef, undef, undef, undef, undef, undef, undef, undef, undef, undef, undef, undef, undef, undef, undef, undef, undef, undef, undef, undef, undef, undef, undef, undef, undef, undef, undef, undef, undef, undef, undef], defers := [] }) ?assign ?body ?done ?stop
  case seq =>
    exact ways_told (base := w1.heap.size + 3) (gv := .pointer (some ⟨w.heap.size + 4, 0, none⟩)) (fun pre => (stR C want (pre.map Prod.snd)).1) _ 70161
      (fun pre X h => ⟨h.2.2.b1.cell 0, h.2.2.b2.cell 0, h.2.2.b3.cell 0, .inl ⟨_, rfl, h.2.2.g⟩, by have := h.2.2.b3.lt; omega⟩) (fun pre X h => by have := h.1.few; simpa using this) _ (by omega)
  case hI => exact fun pre X Y row h hg hr => ⟨h.1, h.2.1, h.2.2.kept hWs hg hr⟩
  case hA => exact fun x pre X Y row h hg hr => ⟨ownsRow_kept h.1 hg (fun r e => (hr r e).2), h.2⟩
  case hIx => exact fun c pre X Y row h hg hr => ⟨h.1, h.2.1, h.2.2.1, h.2.2.2.kept hWs hg hr⟩
  case hS => exact fun xs X Y row h _ _ => h
  case h0 => exact ⟨RSL.start s t want.toNat HGood (by omega) (by omega), hw, HW.out⟩
  case assign =>
    intro l x X K hK
    gi_wp2
    exact hK
  case body =>
    rintro l pre x X ⟨hRS, hlt, hM⟩ ⟨hrd, hxs, hne⟩
    obtain ⟨u, lx⟩ := x
    dsimp only at hrd hxs hne
    have hpos : 0 < lx.length := List.length_pos_iff.2 hne
    have hlen : lx.length ≤ 16 := by
      have hW := short_way (C := (stR C want (pre.map Prod.snd)).1) (s := s) (t := t) (by rw [← hxs]; exact hne)
      rw [← hxs] at hW
      exact length_le16 hW.nodup hW.inP
    have hnn := hRS.nn
    obtain ⟨_, ⟨_, h0⟩ | ⟨g, cap, cs, rfl, hgb, hgk, hcap, _, hsz, htk⟩⟩ := id hrd
    · omega
    have hcells : ∀ k (h : k < lx.length), X.cell? ⟨g, k, none⟩ = some (.int .u8 lx[k]) := fun k h => by
      rw [cell_of_row X g k cs _ _ hgk]
      have : (cs.toList.take (lx.length * 1))[k]? = (ptyA lx)[k]? := by rw [htk]
      rw [List.getElem?_take, if_pos (by omega)] at this
      simpa [ptyA, h] using this
    have c4 : X.cell? ⟨w.heap.size, 0, none⟩ = some (.pointer (some ⟨w.heap.size + 4, 0, none⟩)) := hM.gb.cell 0
    have c7 : X.cell? ⟨w.heap.size + 1, 0, none⟩ = some (.int .i64 want) := hM.wb.cell 0
    have c9 : X.cell? ⟨w.heap.size + 1 + 1 + 1, 0, none⟩ = some (.int .i64 (stR C want (pre.map Prod.snd)).2.2) := hM.qb.cell 0
    have HL := Lib.hid (fleast (w := X) (want := want - (stR C want (pre.map Prod.snd)).2.2) (cap := cap) (.inl ⟨w.heap.size + 4, rfl, hM.g⟩) hcells hpos (by omega))
    have HA := Lib.hid (And.intro hRS (And.intro hM (And.intro hrd (And.intro hxs (And.intro hne hcells)))))
    clear hRS hM hrd hxs hne hcells hgk htk hsz
    generalize hgot : (stR C want (pre.map Prod.snd)).2.2 = got at *
    gi_wp2_with (refine ⟨trivial, ?_⟩; gi_at_call 113; refine (CallsIn.inRound l (callsIn_wide.2 HL.out)).mono ?_; rintro e X2 ⟨rfl, hc2⟩; have K2 := Lib.hid hc2; clear hc2)
    have hM2 : Hid (RM w X2 w.heap.size (w.heap.size + 4) w1.heap.size want s t (stR C want (pre.map Prod.snd)).1 (stR C want (pre.map Prod.snd)).2.1 got ∧ KeepsOthers X X2 ∧ RdP X2 (w1.heap.size + 3) (.slice (some ⟨g, 0, none⟩) lx.length cap) lx) :=
      ⟨HA.out.2.1.chg0 K2.out, KeepsOthers.ofChg K2.out (by simp), ownsRow_chgB HA.out.2.2.1 K2.out (by simp)⟩
    generalize hC1 : (stR C want (pre.map Prod.snd)).1 = C1 at *
    generalize hP1 : (stR C want (pre.map Prod.snd)).2.1 = P1 at *
    have HN : Hid (Valid C1 (along lx (least C1 lx (want - got)))) := by
      have hs := HA.out.2.2.2.1
      have hR := round_of (C := C1) (s := s) (t := t) (w := want - got) (by omega) (by rw [← hs]; exact HA.out.2.2.2.2.1)
      rw [← hs] at hR
      exact hR.valid
    have HB1 : Hid (1 ≤ least C1 lx (want - got) ∧ least C1 lx (want - got) ≤ want - got ∧ P1.length ≤ 1100000) := by
      have hs := HA.out.2.2.2.1
      have hR := round_of (C := C1) (s := s) (t := t) (w := want - got) (by omega) (by rw [← hs]; exact HA.out.2.2.2.2.1)
      rw [← hs] at hR
      have h1 := HA.out.1.num
      have h2 := HA.out.1.few
      exact ⟨hR.pos, hR.le, by rw [← hP1]; omega⟩
    generalize hn : least C1 lx (want - got) = n at *
    have HE := Lib.hid (And.intro hgot (And.intro hC1 (And.intro hP1 hn)))
    clear hgot hC1 hP1 hn
    gi_loopw [31] (fun i Y => ∃ k : Nat, k + 1 ≤ lx.length ∧ i = .int .i64 k ∧ RM w Y w.heap.size (w.heap.size + 4) w1.heap.size want s t (pushAll C1 (along (lx.take (k + 1)) n)) (P1 ++ along (lx.take (k + 1)) n) got ∧ KeepsOthers X Y ∧ RdP Y (w1.heap.size + 3) (.slice (some ⟨g, 0, none⟩) lx.length cap) lx) (fun i _ => lx.length - (intOf i).toNat)
    case atStart =>
      have e0 : along (lx.take (0 + 1)) n = [] := by
        cases lx with
        | nil => rfl
        | cons a l => rfl
      exact ⟨0, by omega, rfl, by rw [e0, List.append_nil]; exact hM2.out.1, hM2.out.2.1, hM2.out.2.2⟩
    case round =>
      obtain ⟨k, hk, rfl, hM, hKO, hrd⟩ := hrel
      by_cases hkl : k + 1 < lx.length
      · have hcl : ∀ j (h : j < lx.length), wr.cell? ⟨g, j, none⟩ = some (.int .u8 lx[j]) := hrd.cells
        have c1 := hcl k (by omega)
        have c2 := hcl (k + 1) hkl
        have hat := along_take lx n k hkl
        have hval : 1 ≤ n ∧ n ≤ pushAll C1 (along (lx.take (k + 1)) n) lx[k] lx[k + 1] := by
          obtain ⟨ys, hys⟩ := along_split lx n k hkl
          have := HN.out
          rw [hys] at this
          exact valid_at this
        have hgl := hrd.gle
        generalize lx[k] = x at c1 hat hval
        generalize lx[k + 1] = y at c2 hat hval
        have c4 : wr.cell? ⟨w.heap.size, 0, none⟩ = some (.pointer (some ⟨w.heap.size + 4, 0, none⟩)) := hM.gb.cell 0
        have HP : Hid (Calls Try.prog 114 #[.pointer (some ⟨w.heap.size + 4, 0, none⟩), .int .u8 x, .int .u8 y, .int .i64 n] wr.drew fun e w' => e = .returned (.int .i64 0) ∧ IsG w' (w.heap.size + 4) (push (pushAll C1 (along (lx.take (k + 1)) n)) x y n) ∧ Chg [w.heap.size + 4] wr.drew w') :=
          gpush_ok (w := wr.drew) ⟨hM.g.blk.drew, hM.g.good⟩ hval.1 hval.2 rfl rfl
        have hk1 : (k : Int) < (lx.length : Int) - 1 := by omega
        have hk2 : (0 : Int) ≤ (k : Int) + 1 := by omega
        have hk3 : (k : Int) + 1 < (lx.length : Int) := by omega
        have hk4 : (k : Int) < (lx.length : Int) := by omega
        have hk5 : (0 : Int) ≤ (k : Int) := by omega
        have hwr : IntKind.i64.wrap ((k : Int) + 1) = (k : Int) + 1 := IntWalk.i64_in _ ⟨by omega, by omega⟩
        have HKP : Hid (∀ Y2 : World, Chg [w.heap.size + 4] wr.drew Y2 → Y2.cell? ⟨w.heap.size, 0, none⟩ = some (.pointer (some ⟨w.heap.size + 4, 0, none⟩)) ∧ Y2.cell? ⟨g, k, none⟩ = some (.int .u8 x) ∧ Y2.cell? ⟨g, k + 1, none⟩ = some (.int .u8 y)) := fun Y2 hc => by
          have hl1 := block_lt_of_cell c1
          have hl2 := block_lt_of_cell c4
          exact ⟨(hc.cell (p := ⟨w.heap.size, 0, none⟩) hl2 (by simp)).trans c4, (hc.cell (p := ⟨g, k, none⟩) hl1 (by simp; omega)).trans c1, (hc.cell (p := ⟨g, k + 1, none⟩) hl1 (by simp; omega)).trans c2⟩
        have HH := Lib.hid (And.intro hM (And.intro hKO (And.intro hrd hat)))
        clear hM hKO hrd hat hcl hval hgl
        gi_wp2
        refine wpIn_region_round (S := (fun w' : World => w'.cell? ⟨w.heap.size, 0, none⟩ = some (.pointer (some ⟨w.heap.size + 4, 0, none⟩)) ∧ w'.cell? ⟨g, k, none⟩ = some (.int .u8 x) ∧ w'.cell? ⟨g, k + 1, none⟩ = some (.int .u8 y))) (by kernel_rfl) (noDefer_spec (by kernel_rfl)) ?_ ?_ (fun hHeld => ?_)
        · (intro hL; obtain ⟨a, w, h⟩ := hL; exact h)
        · exact ⟨c4, c1, c2⟩
        refine wpAnyH_take (i := 0) (v := ?v2810_0) rfl (by kernel_rfl) (by kernel_rfl) (by kernel_rfl) (fun _ _ _ h => h) (Or.inl ⟨by rfl, ?hy2810_0⟩) (by assumption) ?_
        case hy2810_0 =>  (intro w hSw; (try dsimp only at hSw); go_simp; try (with_reducible rfl))
        (try simp only [Act.put, List.getElem_toArray, List.getElem_cons_zero, List.setIfInBounds_toArray, List.set_cons_zero, List.set_cons_succ])
        refine wpAnyH_take (i := 1) (v := ?v2810_1) rfl (by kernel_rfl) (by kernel_rfl) (by kernel_rfl) (fun _ _ _ h => h) (Or.inl ⟨by rfl, ?hy2810_1⟩) (by assumption) ?_
        case hy2810_1 =>  (intro w hSw; (try dsimp only at hSw); go_simp; try (with_reducible rfl))
        (try simp only [Act.put, List.getElem_toArray, List.getElem_cons_zero, List.getElem_cons_succ, List.setIfInBounds_toArray, List.set_cons_zero, List.set_cons_succ])
        refine wpAnyH_take (i := 2) (v := ?v2810_2) rfl (by kernel_rfl) (by kernel_rfl) (by kernel_rfl) (fun _ _ _ h => h) (Or.inl ⟨by rfl, ?hy2810_2⟩) (by assumption) ?_
        case hy2810_2 =>  (intro w hSw; (try dsimp only at hSw); go_simp; try (with_reducible rfl))
        (try simp only [Act.put, List.getElem_toArray, List.getElem_cons_zero, List.getElem_cons_succ, List.setIfInBounds_toArray, List.set_cons_zero, List.set_cons_succ])
        refine wpAnyH_take (i := 3) (v := ?v2810_3) rfl (by kernel_rfl) (by kernel_rfl) (by kernel_rfl) (fun _ _ _ h => h) (Or.inl ⟨by rfl, ?hy2810_3⟩) (by assumption) ?_
        case hy2810_3 =>  (intro w hSw; (try dsimp only at hSw); go_simp; try (with_reducible rfl))
        (try simp only [Act.put, List.getElem_toArray, List.getElem_cons_zero, List.getElem_cons_succ, List.setIfInBounds_toArray, List.set_cons_zero, List.set_cons_succ])
        refine wpAnyH_take (i := 4) (v := ?v2810_4) rfl (by kernel_rfl) (by kernel_rfl) (by kernel_rfl) (fun _ _ _ h => h) (Or.inl ⟨by rfl, ?hy2810_4⟩) (by assumption) ?_
        case hy2810_4 =>  (intro w hSw; (try dsimp only at hSw); go_simp; try (with_reducible rfl))
        (try simp only [Act.put, List.getElem_toArray, List.getElem_cons_zero, List.getElem_cons_succ, List.setIfInBounds_toArray, List.set_cons_zero, List.set_cons_succ])
        refine wpAnyH_take (i := 5) (v := ?v2810_5) rfl (by kernel_rfl) (by kernel_rfl) (by kernel_rfl) (fun _ _ _ h => h) (Or.inl ⟨by rfl, ?hy2810_5⟩) (by assumption) ?_
        case hy2810_5 =>  (intro w hSw; (try dsimp only at hSw); go_simp; try (with_reducible rfl))
        (try simp only [Act.put, List.getElem_toArray, List.getElem_cons_zero, List.getElem_cons_succ, List.setIfInBounds_toArray, List.set_cons_zero, List.set_cons_succ])
        refine wpAnyH_take (i := 6) (v := ?v2810_6) rfl (by kernel_rfl) (by kernel_rfl) (by kernel_rfl) (fun _ _ _ h => h) (Or.inl ⟨by rfl, ?hy2810_6⟩) (by assumption) ?_
        case hy2810_6 =>  (intro w hSw; (try dsimp only at hSw); go_simp; try (with_reducible rfl))
        (try simp only [Act.put, List.getElem_toArray, List.getElem_cons_zero, List.getElem_cons_succ, List.setIfInBounds_toArray, List.set_cons_zero, List.set_cons_succ])
        refine wpAnyH_take (i := 7) (v := ?v2810_7) rfl (by kernel_rfl) (by kernel_rfl) (by kernel_rfl) (fun _ _ _ h => h) (Or.inl ⟨by rfl, ?hy2810_7⟩) (by assumption) ?_
        case hy2810_7 =>  (intro w hSw; (try dsimp only at hSw); go_simp; try (with_reducible rfl))
        (try simp only [Act.put, List.getElem_toArray, List.getElem_cons_zero, List.getElem_cons_succ, List.setIfInBounds_toArray, List.set_cons_zero, List.set_cons_succ])
        refine wpAnyH_take (i := 8) (v := ?v2810_8) rfl (by kernel_rfl) (by kernel_rfl) (by kernel_rfl) (fun _ _ _ h => h) (Or.inl ⟨by rfl, ?hy2810_8⟩) (by assumption) ?_
        case hy2810_8 =>  (intro w hSw; (try dsimp only at hSw); go_simp; try (with_reducible rfl))
        (try simp only [Act.put, List.getElem_toArray, List.getElem_cons_zero, List.getElem_cons_succ, List.setIfInBounds_toArray, List.set_cons_zero, List.set_cons_succ])
        refine wpAnyH_take (i := 9) (v := ?v2810_9) rfl (by kernel_rfl) (by kernel_rfl) (by kernel_rfl) (fun _ _ _ h => h) (Or.inl ⟨by rfl, ?hy2810_9⟩) (by assumption) ?_
        case hy2810_9 =>  (intro w hSw; (try dsimp only at hSw); go_simp; try (with_reducible rfl))
        (try simp only [Act.put, List.getElem_toArray, List.getElem_cons_zero, List.getElem_cons_succ, List.setIfInBounds_toArray, List.set_cons_zero, List.set_cons_succ])
        refine wpAnyH_take (i := 10) (v := ?v2810_10) rfl (by kernel_rfl) (by kernel_rfl) (by kernel_rfl) (fun _ _ _ h => h) (Or.inl ⟨by rfl, ?hy2810_10⟩) (by assumption) ?_
        case hy2810_10 =>  (intro w hSw; (try dsimp only at hSw); go_simp; try (with_reducible rfl))
        (try simp only [Act.put, List.getElem_toArray, List.getElem_cons_zero, List.getElem_cons_succ, List.setIfInBounds_toArray, List.set_cons_zero, List.set_cons_succ])
        refine wpAnyH_ready (rs := [11]) (by kernel_rfl) (by simp) (AllReadyH.cons rfl (fun K hK => ?_) AllReadyH.nil)
        go_simp
        (refine HP.out.mono ?_; rintro e Y2 ⟨rfl, hg2, hc2⟩; have KP := Lib.hid (And.intro hg2 hc2); clear hg2 hc2)
        (try go_wp2_with fail)
        refine hK.out _ _ ?_ (fun hHeld => ?_)
        · exact HKP.out _ KP.out.2
        clear hK K
        (try simp only [Act.put, List.getElem_toArray, List.getElem_cons_zero, List.getElem_cons_succ, List.setIfInBounds_toArray, List.set_cons_zero, List.set_cons_succ])
        refine wpAnyH_done (by kernel_rfl) ?_ _
        obtain ⟨hM, hKO, hrd, hat⟩ := HH.out
        have hM3 : RM w Y2 w.heap.size (w.heap.size + 4) w1.heap.size want s t (pushAll C1 (along (lx.take (k + 2)) n)) (P1 ++ along (lx.take (k + 1)) n) got := by
          rw [hat, pushAll_append]
          exact (hM.chg0 ((Chg.refl _ _).drew)).push (Nat.le_refl _) KP.out.1 KP.out.2
        have hKO3 : KeepsOthers X Y2 := hKO.trans (KeepsOthers.ofChg (((Chg.refl _ wr).drew).trans KP.out.2) (fun q hq o ho => by
          have e : q = w.heap.size + 4 := by simpa using hq
          subst e
          have := hM.g.blk
          unfold Blk at this
          rw [this] at ho
          cases ho; rfl))
        have hrd3 : RdP Y2 (w1.heap.size + 3) (.slice (some ⟨g, 0, none⟩) lx.length cap) lx := ownsRow_chgB hrd (((Chg.refl _ wr).drew).trans KP.out.2) (by simp; omega)
        obtain ⟨v, hv, hown⟩ := hM3.pb
        have hat2 : P1 ++ along (lx.take (k + 2)) n = (P1 ++ along (lx.take (k + 1)) n) ++ [⟨x, y, n⟩] := by rw [hat, List.append_assoc]
        have hplen : (P1 ++ along (lx.take (k + 1)) n).length ≤ 1200000 := by
          rw [List.length_append, along_length, List.length_take]
          have := HB1.out.2.2
          omega
        clear HH
        generalize P1 ++ along (lx.take (k + 1)) n = ps at *
        have H3 := Lib.hid (And.intro hM3 (And.intro hKO3 (And.intro hrd3 (And.intro hv (And.intro hown hat2)))))
        clear hM hKO hrd hat hM3 hKO3 hrd3 hv hown hat2
        have HBK : ∃ cs, Blk Y2 g 22 cs := RdP.blk H3.out.2.2.1
        obtain ⟨cs, HBg⟩ := HBK
        have KS : Hid (∀ Z, Blk Z g 22 cs → Z.cell? ⟨g, k, none⟩ = some (.int .u8 x) ∧ Z.cell? ⟨g, k + 1, none⟩ = some (.int .u8 y)) := fun Z hZ => by
          have q := HKP.out _ KP.out.2
          exact ⟨(hZ.cell k).trans ((HBg.cell k).symm.trans q.2.1), (hZ.cell (k + 1)).trans ((HBg.cell (k + 1)).symm.trans q.2.2)⟩
        have HBg := Lib.hid HBg
        have c8 : Y2.cell? ⟨w.heap.size + 1 + 1, 0, none⟩ = some v := H3.out.2.2.2.1.cell 0
        have c8a : (Y2.alloc (.cells #[.int .u8 x, .int .u8 y, .int .i64 n] 114)).cell? ⟨w.heap.size + 1 + 1, 0, none⟩ = some v := (H3.out.2.2.2.1.alloc _).cell 0
        have hgl := RdP.gle H3.out.2.2.1
        have hbx : w1.heap.size + 3 ≤ Y2.heap.size := by have := H3.out.1.b3.lt; omega
        gi_wp2
        refine wpIn_region_round (S := (fun w' : World => w'.cell? ⟨g, k, none⟩ = some (.int .u8 x) ∧ w'.cell? ⟨g, k + 1, none⟩ = some (.int .u8 y))) (by kernel_rfl) (noDefer_spec (by kernel_rfl)) ?_ ?_ (fun hHeld => ?_)
        · (intro hL; obtain ⟨a, w, h⟩ := hL; exact h)
        · exact KS.out _ HBg.out.drew
        refine wpAnyH_take (i := 1) (v := ?v2811_0_1) rfl (by kernel_rfl) (by kernel_rfl) (by kernel_rfl) (fun _ _ _ h => h) (Or.inl ⟨by rfl, ?hy2811_0_1⟩) (by assumption) ?_
        case hy2811_0_1 => (intro w hSw; (try dsimp only at hSw); go_simp; try (with_reducible rfl))
        (try simp only [Act.put, List.getElem_toArray, List.getElem_cons_zero, List.getElem_cons_succ, List.setIfInBounds_toArray, List.set_cons_zero, List.set_cons_succ])
        refine wpAnyH_take (i := 2) (v := ?v2811_0_2) rfl (by kernel_rfl) (by kernel_rfl) (by kernel_rfl) (fun _ _ _ h => h) (Or.inl ⟨by rfl, ?hy2811_0_2⟩) (by assumption) ?_
        case hy2811_0_2 => (intro w hSw; (try dsimp only at hSw); go_simp; try (with_reducible rfl))
        (try simp only [Act.put, List.getElem_toArray, List.getElem_cons_zero, List.getElem_cons_succ, List.setIfInBounds_toArray, List.set_cons_zero, List.set_cons_succ])
        refine wpAnyH_take (i := 3) (v := ?v2811_0_3) rfl (by kernel_rfl) (by kernel_rfl) (by kernel_rfl) (fun _ _ _ h => h) (Or.inl ⟨by rfl, ?hy2811_0_3⟩) (by assumption) ?_
        case hy2811_0_3 => (intro w hSw; (try dsimp only at hSw); go_simp; try (with_reducible rfl))
        (try simp only [Act.put, List.getElem_toArray, List.getElem_cons_zero, List.getElem_cons_succ, List.setIfInBounds_toArray, List.set_cons_zero, List.set_cons_succ])
        refine wpAnyH_take (i := 4) (v := ?v2811_0_4) rfl (by kernel_rfl) (by kernel_rfl) (by kernel_rfl) (fun _ _ _ h => h) (Or.inl ⟨by rfl, ?hy2811_0_4⟩) (by assumption) ?_
        case hy2811_0_4 => (intro w hSw; (try dsimp only at hSw); go_simp; try (with_reducible rfl))
        (try simp only [Act.put, List.getElem_toArray, List.getElem_cons_zero, List.getElem_cons_succ, List.setIfInBounds_toArray, List.set_cons_zero, List.set_cons_succ])
        refine wpAnyH_take (i := 5) (v := ?v2811_0_5) rfl (by kernel_rfl) (by kernel_rfl) (by kernel_rfl) (fun _ _ _ h => h) (Or.inl ⟨by rfl, ?hy2811_0_5⟩) (by assumption) ?_
        case hy2811_0_5 => (intro w hSw; (try dsimp only at hSw); go_simp; try (with_reducible rfl))
        (try simp only [Act.put, List.getElem_toArray, List.getElem_cons_zero, List.getElem_cons_succ, List.setIfInBounds_toArray, List.set_cons_zero, List.set_cons_succ])
        refine wpAnyH_take (i := 6) (v := ?v2811_0_6) rfl (by kernel_rfl) (by kernel_rfl) (by kernel_rfl) (fun _ _ _ h => h) (Or.inl ⟨by rfl, ?hy2811_0_6⟩) (by assumption) ?_
        case hy2811_0_6 => (intro w hSw; (try dsimp only at hSw); go_simp; try (with_reducible rfl))
        (try simp only [Act.put, List.getElem_toArray, List.getElem_cons_zero, List.getElem_cons_succ, List.setIfInBounds_toArray, List.set_cons_zero, List.set_cons_succ])
        refine wpAnyH_take (i := 7) (v := ?v2811_0_7) rfl (by kernel_rfl) (by kernel_rfl) (by kernel_rfl) (fun _ _ _ h => h) (Or.inl ⟨by rfl, ?hy2811_0_7⟩) (by assumption) ?_
        case hy2811_0_7 => (intro w hSw; (try dsimp only at hSw); go_simp; try (with_reducible rfl))
        (try simp only [Act.put, List.getElem_toArray, List.getElem_cons_zero, List.getElem_cons_succ, List.setIfInBounds_toArray, List.set_cons_zero, List.set_cons_succ])
        refine wpAnyH_take (i := 8) (v := ?v2811_0_8) rfl (by kernel_rfl) (by kernel_rfl) (by kernel_rfl) (fun _ _ _ h => h) (Or.inl ⟨by rfl, ?hy2811_0_8⟩) (by assumption) ?_
        case hy2811_0_8 => (intro w hSw; (try dsimp only at hSw); go_simp; try (with_reducible rfl))
        (try simp only [Act.put, List.getElem_toArray, List.getElem_cons_zero, List.getElem_cons_succ, List.setIfInBounds_toArray, List.set_cons_zero, List.set_cons_succ])
        refine wpAnyH_take (i := 9) (v := ?v2811_0_9) rfl (by kernel_rfl) (by kernel_rfl) (by kernel_rfl) (fun _ _ _ h => h) (Or.inl ⟨by rfl, ?hy2811_0_9⟩) (by assumption) ?_
        case hy2811_0_9 => (intro w hSw; (try dsimp only at hSw); go_simp; try (with_reducible rfl))
        (try simp only [Act.put, List.getElem_toArray, List.getElem_cons_zero, List.getElem_cons_succ, List.setIfInBounds_toArray, List.set_cons_zero, List.set_cons_succ])
        refine wpAnyH_take (i := 10) (v := ?v2811_0_10) rfl (by kernel_rfl) (by kernel_rfl) (by kernel_rfl) (fun _ _ _ h => h) (Or.inl ⟨by rfl, ?hy2811_0_10⟩) (by assumption) ?_
        case hy2811_0_10 => (intro w hSw; (try dsimp only at hSw); go_simp; try (with_reducible rfl))
        (try simp only [Act.put, List.getElem_toArray, List.getElem_cons_zero, List.getElem_cons_succ, List.setIfInBounds_toArray, List.set_cons_zero, List.set_cons_succ])
        refine wpAnyH_take (i := 11) (v := ?v2811_0_11) rfl (by kernel_rfl) (by kernel_rfl) (by kernel_rfl) (fun _ _ _ h => h) (Or.inl ⟨by rfl, ?hy2811_0_11⟩) (by assumption) ?_
        case hy2811_0_11 => (intro w hSw; (try dsimp only at hSw); go_simp; try (with_reducible rfl))
        (try simp only [Act.put, List.getElem_toArray, List.getElem_cons_zero, List.getElem_cons_succ, List.setIfInBounds_toArray, List.set_cons_zero, List.set_cons_succ])
        refine wpAnyH_ready (rs := [0, 12]) (by kernel_rfl) (by simp) (AllReadyH.cons rfl (fun K hK => ?_) (AllReadyH.cons rfl (fun K hK => ?_) AllReadyH.nil))
        · go_simp
          refine hK.out _ _ ?_ (fun hHeld => ?_)
          · exact hHeld
          clear hK K
          (try simp only [Act.put, List.getElem_toArray, List.getElem_cons_zero, List.setIfInBounds_toArray, List.set_cons_zero, List.set_cons_succ])
          refine wpAnyH_ready (rs := [12]) (by kernel_rfl) (by simp) (AllReadyH.cons rfl (fun K hK => ?_) AllReadyH.nil)
          go_simp
          refine hK.out _ _ ?_ (fun hHeld => ?_)
          · exact KS.out _ (HBg.out.drew.alloc _)
          clear hK K
          (try simp only [Act.put, List.getElem_toArray, List.getElem_cons_zero, List.getElem_cons_succ, List.setIfInBounds_toArray, List.set_cons_zero, List.set_cons_succ])
          refine wpAnyH_ready (rs := [13]) (by kernel_rfl) (by simp) (AllReadyH.cons rfl (fun K hK => ?_) AllReadyH.nil)
          (refine step_append_lies _ (by rfl) _ _ _ (by rfl) (w1.heap.size + 3) 114 i0 _ 3 16 Try.underlying43 II.out.1 II.out.2.1 II.out.2.2.1 II.out.2.2.2 rfl (by decide) v ps.length _ (by rfl) (H3.out.2.2.2.2.1.alloc _) ⟨Y2.heap.size, 0, none⟩ 1 1 (flCells ⟨x, y, n⟩) (by rfl) rfl (cells_new Y2.drew (flCells ⟨x, y, n⟩) _) (flCells_one _) (by decide) (le_maxLen (by omega)) (by omega) (by simp; omega) (Y2.heap.size + 1) (by simp) ?_)
          intro g2 cap2 W2 hown2 hgrow hor hlt2
          have HF := Lib.hid (And.intro hown2 (And.intro hgrow (And.intro hor hlt2)))
          clear hown2 hgrow hor hlt2
          have d8 : W2.cell? ⟨w.heap.size + 1 + 1, 0, none⟩ = some v := ((H3.out.2.2.2.1.drew.alloc _).grownRow (H3.out.2.2.2.2.1.alloc _) HF.out.2.1 (by decide)).cell 0
          have e8 : W2.frozen? ⟨w.heap.size + 1 + 1, 0, none⟩ = false := ((H3.out.2.2.2.1.drew.alloc _).grownRow (H3.out.2.2.2.2.1.alloc _) HF.out.2.1 (by decide)).frozen 0
          refine hK.out _ _ ?_ (fun hHeld => ?_)
          · exact KS.out _ ((HBg.out.drew.alloc _).grownRow (H3.out.2.2.2.2.1.alloc _) HF.out.2.1 (by decide))
          clear hK K
          (try simp only [Act.put, List.getElem_toArray, List.getElem_cons_zero, List.getElem_cons_succ, List.setIfInBounds_toArray, List.set_cons_zero, List.set_cons_succ])
          refine wpAnyH_ready (rs := [14]) (by kernel_rfl) (by simp) (AllReadyH.cons rfl (fun K hK => ?_) AllReadyH.nil)
          go_simp
          refine hK.out _ _ ?_ (fun hHeld => ?_)
          · exact KS.out _ (((HBg.out.drew.alloc _).grownRow (H3.out.2.2.2.2.1.alloc _) HF.out.2.1 (by decide)).far (by dsimp only; omega) _)
          clear hK K
          (try simp only [Act.put, List.getElem_toArray, List.getElem_cons_zero, List.getElem_cons_succ, List.setIfInBounds_toArray, List.set_cons_zero, List.set_cons_succ])
          refine wpAnyH_done (by kernel_rfl) ?_ _
          gi_wp2
          go_roundw
          case rel =>
            have hA := RM.app (ps' := ps ++ [⟨x, y, n⟩]) (H3.out.1.chg0 (((Chg.refl [] Y2).drew).alloc (.cells #[.int .u8 x, .int .u8 y, .int .i64 n] 114))) (Nat.le_refl _) (H3.out.2.2.2.1.drew.alloc _) (H3.out.2.2.2.2.1.alloc _) HF.out.2.1 (by rw [List.length_append, flsCells_append]; exact HF.out.1)
            have hr2 : RdP W2 (w1.heap.size + 3) (.slice (some ⟨g, 0, none⟩) lx.length cap) lx := ownsRow_grownRow (ownsRow_chgB H3.out.2.2.1 (((Chg.refl [] Y2).drew).alloc (.cells #[.int .u8 x, .int .u8 y, .int .i64 n] 114)) (by simp)) (H3.out.2.2.2.2.1.alloc _) HF.out.2.1 (by decide)
            have hk2 : KeepsOthers X (W2.setCell ⟨w.heap.size + 1 + 1, 0, none⟩ (.slice (some ⟨g2, 0, none⟩) (ps.length + 1) cap2)) := ((H3.out.2.1.trans (KeepsOthers.ofChg (((Chg.refl [] Y2).drew).alloc (.cells #[.int .u8 x, .int .u8 y, .int .i64 n] 114)) (by simp))).trans (keeps_grownRow (H3.out.2.2.2.2.1.alloc _) HF.out.2.1)).trans (KeepsOthers.setCell _ _ _)
            first
              | exact ⟨k + 1, by omega, by go_num, by rw [H3.out.2.2.2.2.2]; exact hA, hk2, ownsRow_far hr2 (by omega)⟩
              | ((repeat apply Exists.intro); exact ⟨⟨k + 1, by omega, by go_num, by rw [H3.out.2.2.2.2.2]; exact hA, hk2, ownsRow_far hr2 (by omega)⟩, rfl⟩)
          case measure => simp [intOf]; omega
        · go_simp
          refine hK.out _ _ ?_ (fun hHeld => ?_)
          · exact KS.out _ (HBg.out.drew.alloc _)
          clear hK K
          (try simp only [Act.put, List.getElem_toArray, List.getElem_cons_zero, List.getElem_cons_succ, List.setIfInBounds_toArray, List.set_cons_zero, List.set_cons_succ])
          refine wpAnyH_ready (rs := [0]) (by kernel_rfl) (by simp) (AllReadyH.cons rfl (fun K hK => ?_) AllReadyH.nil)
          go_simp
          refine hK.out _ _ ?_ (fun hHeld => ?_)
          · exact hHeld
          clear hK K
          (try simp only [Act.put, List.getElem_toArray, List.getElem_cons_zero, List.setIfInBounds_toArray, List.set_cons_zero, List.set_cons_succ])
          refine wpAnyH_ready (rs := [13]) (by kernel_rfl) (by simp) (AllReadyH.cons rfl (fun K hK => ?_) AllReadyH.nil)
          (refine step_append_lies _ (by rfl) _ _ _ (by rfl) (w1.heap.size + 3) 114 i0 _ 3 16 Try.underlying43 II.out.1 II.out.2.1 II.out.2.2.1 II.out.2.2.2 rfl (by decide) v ps.length _ (by rfl) (H3.out.2.2.2.2.1.alloc _) ⟨Y2.heap.size, 0, none⟩ 1 1 (flCells ⟨x, y, n⟩) (by rfl) rfl (cells_new Y2.drew (flCells ⟨x, y, n⟩) _) (flCells_one _) (by decide) (le_maxLen (by omega)) (by omega) (by simp; omega) (Y2.heap.size + 1) (by simp) ?_)
          intro g2 cap2 W2 hown2 hgrow hor hlt2
          have HF := Lib.hid (And.intro hown2 (And.intro hgrow (And.intro hor hlt2)))
          clear hown2 hgrow hor hlt2
          have d8 : W2.cell? ⟨w.heap.size + 1 + 1, 0, none⟩ = some v := ((H3.out.2.2.2.1.drew.alloc _).grownRow (H3.out.2.2.2.2.1.alloc _) HF.out.2.1 (by decide)).cell 0
          have e8 : W2.frozen? ⟨w.heap.size + 1 + 1, 0, none⟩ = false := ((H3.out.2.2.2.1.drew.alloc _).grownRow (H3.out.2.2.2.2.1.alloc _) HF.out.2.1 (by decide)).frozen 0
          refine hK.out _ _ ?_ (fun hHeld => ?_)
          · exact KS.out _ ((HBg.out.drew.alloc _).grownRow (H3.out.2.2.2.2.1.alloc _) HF.out.2.1 (by decide))
          clear hK K
          (try simp only [Act.put, List.getElem_toArray, List.getElem_cons_zero, List.getElem_cons_succ, List.setIfInBounds_toArray, List.set_cons_zero, List.set_cons_succ])
          refine wpAnyH_ready (rs := [14]) (by kernel_rfl) (by simp) (AllReadyH.cons rfl (fun K hK => ?_) AllReadyH.nil)
          go_simp
          refine hK.out _ _ ?_ (fun hHeld => ?_)
          · exact KS.out _ (((HBg.out.drew.alloc _).grownRow (H3.out.2.2.2.2.1.alloc _) HF.out.2.1 (by decide)).far (by dsimp only; omega) _)
          clear hK K
          (try simp only [Act.put, List.getElem_toArray, List.getElem_cons_zero, List.getElem_cons_succ, List.setIfInBounds_toArray, List.set_cons_zero, List.set_cons_succ])
          refine wpAnyH_done (by kernel_rfl) ?_ _
          gi_wp2
          go_roundw
          case rel =>
            have hA := RM.app (ps' := ps ++ [⟨x, y, n⟩]) (H3.out.1.chg0 (((Chg.refl [] Y2).drew).alloc (.cells #[.int .u8 x, .int .u8 y, .int .i64 n] 114))) (Nat.le_refl _) (H3.out.2.2.2.1.drew.alloc _) (H3.out.2.2.2.2.1.alloc _) HF.out.2.1 (by rw [List.length_append, flsCells_append]; exact HF.out.1)
            have hr2 : RdP W2 (w1.heap.size + 3) (.slice (some ⟨g, 0, none⟩) lx.length cap) lx := ownsRow_grownRow (ownsRow_chgB H3.out.2.2.1 (((Chg.refl [] Y2).drew).alloc (.cells #[.int .u8 x, .int .u8 y, .int .i64 n] 114)) (by simp)) (H3.out.2.2.2.2.1.alloc _) HF.out.2.1 (by decide)
            have hk2 : KeepsOthers X (W2.setCell ⟨w.heap.size + 1 + 1, 0, none⟩ (.slice (some ⟨g2, 0, none⟩) (ps.length + 1) cap2)) := ((H3.out.2.1.trans (KeepsOthers.ofChg (((Chg.refl [] Y2).drew).alloc (.cells #[.int .u8 x, .int .u8 y, .int .i64 n] 114)) (by simp))).trans (keeps_grownRow (H3.out.2.2.2.2.1.alloc _) HF.out.2.1)).trans (KeepsOthers.setCell _ _ _)
            first
              | exact ⟨k + 1, by omega, by go_num, by rw [H3.out.2.2.2.2.2]; exact hA, hk2, ownsRow_far hr2 (by omega)⟩
              | ((repeat apply Exists.intro); exact ⟨⟨k + 1, by omega, by go_num, by rw [H3.out.2.2.2.2.2]; exact hA, hk2, ownsRow_far hr2 (by omega)⟩, rfl⟩)
          case measure => simp [intOf]; omega
      · have hkl2 : k + 1 = lx.length := by omega
        have htk : lx.take (k + 1) = lx := by rw [hkl2]; exact List.take_of_length_le (Nat.le_refl _)
        rw [htk] at hM
        have hst : stR C want ((pre ++ [(Value.slice (some ⟨g, 0, none⟩) lx.length cap, lx)]).map Prod.snd) = (pushAll C1 (along lx n), P1 ++ along lx n, got + n) := by
          rw [List.map_append]
          show stR C want (pre.map Prod.snd ++ [lx]) = _
          rw [stR_snoc]
          unfold stepR
          rw [HE.out.1, HE.out.2.1, HE.out.2.2.1, HE.out.2.2.2]
        have htP : t ∈ P16 := Classical.byContradiction fun hno => HA.out.2.2.2.2.1 (HA.out.2.2.2.1.trans (short_off (.inr (.inl hno))))
        have hRS2 : RSL C s t want.toNat want ((pre ++ [(Value.slice (some ⟨g, 0, none⟩) lx.length cap, lx)]).map Prod.snd) := by
          rw [List.map_append]
          exact HA.out.1.step htP (by rw [HE.out.1]; exact hlt) (by rw [HE.out.2.1]; exact HA.out.2.2.2.1) HA.out.2.2.2.2.1
        have hb1 := HB1.out
        have d9 : wr.cell? ⟨w.heap.size + 1 + 1 + 1, 0, none⟩ = some (.int .i64 got) := hM.qb.cell 0
        have f9 : wr.frozen? ⟨w.heap.size + 1 + 1 + 1, 0, none⟩ = false := hM.qb.frozen 0
        have d7 : wr.cell? ⟨w.heap.size + 1, 0, none⟩ = some (.int .i64 want) := hM.wb.cell 0
        have hM4 := hM.gotten (Nat.le_refl _) (got + n)
        have hKO4 : KeepsOthers X (wr.setCell ⟨w.heap.size + 1 + 1 + 1, 0, none⟩ (.int .i64 (got + n))) := hKO.trans (KeepsOthers.setCell _ _ _)
        have e1 : (wr.setCell ⟨w.heap.size + 1 + 1 + 1, 0, none⟩ (.int .i64 (got + n))).cell? ⟨w.heap.size + 1 + 1 + 1, 0, none⟩ = some (.int .i64 (got + n)) := hM4.qb.cell 0
        have e2 : (wr.setCell ⟨w.heap.size + 1 + 1 + 1, 0, none⟩ (.int .i64 (got + n))).cell? ⟨w.heap.size + 1, 0, none⟩ = some (.int .i64 want) := hM4.wb.cell 0
        have H4 := Lib.hid (And.intro hM4 (And.intro hKO4 (And.intro hst (And.intro hRS2 hb1))))
        obtain ⟨hb1, hb2, _⟩ := hb1
        have hs1 : 0 ≤ got := by have := HA.out.1.nn; omega
        have hs2 : got + n ≤ 9223372036854775807 := by omega
        have hs3 : (lx.length : Int) - 1 ≤ (k : Int) := by omega
        clear hM hKO hrd hst hRS2 hM4 hKO4 htk hkl
        by_cases hfull : got + n = want
        · gi_wp2
          have h4 := H4.out
          rw [hfull] at h4
          exact ⟨h4.2.1, rfl, h4.2.2.2.1, by rw [h4.2.2.1], by rw [h4.2.2.1]; exact h4.1⟩
        · gi_wp2
          have h4 := H4.out
          exact ⟨h4.2.1, h4.2.2.2.1, by rw [h4.2.2.1]; show got + n < want; omega, by rw [h4.2.2.1]; exact h4.1⟩
  case done =>
    rintro D xs Y hD' hsh ⟨hRS, hlt, hM⟩ hK
    have hroute := hRS.none hsh
    obtain ⟨v, hpb, hpo⟩ := hM.pb
    generalize (stR C want (xs.map Prod.snd)).2.1 = ps at *
    generalize (stR C want (xs.map Prod.snd)).2.2 = got at *
    generalize (stR C want (xs.map Prod.snd)).1 = C2 at *
    clear hRS
    have hD' : w.heap.size ≤ D := Nat.le_trans hWs hD'
    have hqb := hM.qb
    have d8 : Y.cell? ⟨w.heap.size + 1 + 1, 0, none⟩ = some v := hpb.cell 0
    have e8 : Y.frozen? ⟨w.heap.size + 1 + 1, 0, none⟩ = false := hpb.frozen 0
    have e9 : Y.frozen? ⟨w.heap.size + 1 + 1 + 1, 0, none⟩ = false := hqb.frozen 0
    have HM := Lib.hid (And.intro hM (And.intro hroute hK))
    clear hM hroute hK
    gi_wp2
    refine wpIn_wide.2 ?_
    refine wp_region_noPanic ?_
    refine wp_region_held_drew (S := (fun w' : World => w'.cell? ⟨w.heap.size + 1 + 1 + 1, 0, none⟩ = some (.int .i64 got))) (by kernel_rfl) ?_ (fun hHeld => ?_)
    · exact hqb.cell 0
    refine wpAnyH_take (i := 2) (v := ?v2815_0_2) rfl (by kernel_rfl) (by kernel_rfl) (by kernel_rfl) (fun _ _ _ h => h) (Or.inl ⟨by rfl, ?hy2815_0_2⟩) (by assumption) ?_
    case hy2815_0_2 => (intro w hSw; (try dsimp only at hSw); go_simp; try (with_reducible rfl))
    (try simp only [Act.put, List.getElem_toArray, List.getElem_cons_zero, List.getElem_cons_succ, List.setIfInBounds_toArray, List.set_cons_zero, List.set_cons_succ])
    refine wpAnyH_ready (rs := [0]) (by kernel_rfl) (by simp) (AllReadyH.cons rfl (fun K hK => ?_) AllReadyH.nil)
    go_simp
    refine hK.out _ _ ?_ (fun hHeld => ?_)
    · exact hHeld
    clear hK K
    (try simp only [Act.put, List.getElem_toArray, List.getElem_cons_zero, List.setIfInBounds_toArray, List.set_cons_zero, List.set_cons_succ])
    refine wpAnyH_ready (rs := [1]) (by kernel_rfl) (by simp) (AllReadyH.cons rfl (fun K hK => ?_) AllReadyH.nil)
    go_simp
    (refine (clip_own (w := Y.drew) hpo).mono ?_; rintro e w' ⟨⟨u, rfl, hu⟩, rfl⟩; obtain ⟨ua, un, uc, rfl⟩ := hu.isSlice; have HU := Lib.hid hu; clear hu)
    (try go_wp2_with fail)
    refine hK.out _ _ ?_ (fun hHeld => ?_)
    · exact hHeld
    clear hK K
    (try simp only [Act.put, List.getElem_toArray, List.getElem_cons_zero, List.getElem_cons_succ, List.setIfInBounds_toArray, List.set_cons_zero, List.set_cons_succ])
    refine wpAnyH_ready (rs := [3]) (by kernel_rfl) (by simp) (AllReadyH.cons rfl (fun K hK => ?_) AllReadyH.nil)
    go_simp
    refine hK.out _ _ ?_ (fun hHeld => ?_)
    · exact (hqb.far (a := ⟨w.heap.size + 1 + 1, 0, none⟩) (by dsimp only; omega) _).cell 0
    clear hK K
    (try simp only [Act.put, List.getElem_toArray, List.getElem_cons_zero, List.getElem_cons_succ, List.setIfInBounds_toArray, List.set_cons_zero, List.set_cons_succ])
    refine wpAnyH_ready (rs := [4]) (by kernel_rfl) (by simp) (AllReadyH.cons rfl (fun K hK => ?_) AllReadyH.nil)
    go_simp
    refine hK.out _ _ ?_ (fun hHeld => ?_)
    · exact (((hqb.far (a := ⟨w.heap.size + 1 + 1, 0, none⟩) (by dsimp only; omega) _).set 0 _).cell 0)
    clear hK K
    (try simp only [Act.put, List.getElem_toArray, List.getElem_cons_zero, List.getElem_cons_succ, List.setIfInBounds_toArray, List.set_cons_zero, List.set_cons_succ])
    refine wpAnyH_done (by kernel_rfl) ?_ _
    refine NoPanic.normal ?_
    gi_wp2
    obtain ⟨hM, hroute, hK⟩ := HM.out
    have hD1 : D ≠ w.heap.size + 1 + 1 := fun e => by subst e; unfold Blk at hpb; rw [hpb] at hK; cases hK
    have hD2 : D ≠ w.heap.size + 1 + 1 + 1 := fun e => by subst e; unfold Blk at hqb; rw [hqb] at hK; cases hK
    have hK2 : (((Y.setCell ⟨w.heap.size + 1 + 1, 0, none⟩ (.slice ua un uc)).setCell ⟨w.heap.size + 1 + 1 + 1, 0, none⟩ (.int .i64 got)).drew).heap[D]? = some (.deferred (some [])) :=
      (heap_setCell_other _ ⟨w.heap.size + 1 + 1 + 1, 0, none⟩ D _ hD2).trans ((heap_setCell_other _ ⟨w.heap.size + 1 + 1, 0, none⟩ D _ hD1).trans hK)
    refine ⟨by simp, .inl ⟨D, _, rfl, run_takeDeferred hK2, ?_⟩⟩
    have z8 : ((((Y.setCell ⟨w.heap.size + 1 + 1, 0, none⟩ (.slice ua un uc)).setCell ⟨w.heap.size + 1 + 1 + 1, 0, none⟩ (.int .i64 got)).drew).putObj D (.deferred none)).cell? ⟨w.heap.size + 1 + 1, 0, none⟩ = some (.slice ua un uc) :=
      Blk.cell (((hpb.set 0 _).far (a := ⟨w.heap.size + 1 + 1 + 1, 0, none⟩) (by dsimp only; omega) _).drew.put hD1.symm _) 0
    have z9 : ((((Y.setCell ⟨w.heap.size + 1 + 1, 0, none⟩ (.slice ua un uc)).setCell ⟨w.heap.size + 1 + 1 + 1, 0, none⟩ (.int .i64 got)).drew).putObj D (.deferred none)).cell? ⟨w.heap.size + 1 + 1 + 1, 0, none⟩ = some (.int .i64 got) :=
      Blk.cell (((hqb.far (a := ⟨w.heap.size + 1 + 1, 0, none⟩) (by dsimp only; omega) _).set 0 _).drew.put hD2.symm _) 0
    refine ⟨.tuple #[.slice ua un uc, .int .i64 got], by simp [results, Try.results69, go_sem, z8, z9], .slice ua un uc, by rw [hroute], ?_, ?_⟩
    · rw [hroute]
      refine HU.out.move (by omega) fun g cs hg hb => ?_
      have hlt := hM.lt
      have hgD : g ≠ D := fun e => by subst e; unfold Blk at hb; rw [show Y.drew.heap[g]? = Y.heap[g]? from rfl, hK] at hb; cases hb
      exact ((hb.far (a := ⟨w.heap.size + 1 + 1, 0, none⟩) (by dsimp only; omega) _).far (a := ⟨w.heap.size + 1 + 1 + 1, 0, none⟩) (by dsimp only; omega) _).drew.put hgD _
    · exact (((hM.ch.setCell (p := ⟨w.heap.size + 1 + 1, 0, none⟩) (.inr (by dsimp only; omega)) _).setCell (p := ⟨w.heap.size + 1 + 1 + 1, 0, none⟩) (.inr (by dsimp only; omega)) _).drew).put (.inr hD') _
  case stop =>
    rintro D c xs Y hD' ⟨rfl, hRS, hfull, hM⟩ hK
    have hroute : route s t want.toNat C want = ((stR C want (xs.map Prod.snd)).2.1, (stR C want (xs.map Prod.snd)).2.2, (stR C want (xs.map Prod.snd)).1) := by
      have h2 := hRS
      unfold RSL at h2
      rw [hfull] at h2 ⊢
      exact RS.full h2
    clear hfull
    obtain ⟨v, hpb, hpo⟩ := hM.pb
    generalize (stR C want (xs.map Prod.snd)).2.1 = ps at *
    generalize (stR C want (xs.map Prod.snd)).2.2 = got at *
    generalize (stR C want (xs.map Prod.snd)).1 = C2 at *
    clear hRS
    have hD' : w.heap.size ≤ D := Nat.le_trans hWs hD'
    have hqb := hM.qb
    have d8 : Y.cell? ⟨w.heap.size + 1 + 1, 0, none⟩ = some v := hpb.cell 0
    have e8 : Y.frozen? ⟨w.heap.size + 1 + 1, 0, none⟩ = false := hpb.frozen 0
    have e9 : Y.frozen? ⟨w.heap.size + 1 + 1 + 1, 0, none⟩ = false := hqb.frozen 0
    have HM := Lib.hid (And.intro hM (And.intro hroute hK))
    clear hM hroute hK
    gi_wp2
    refine wpIn_wide.2 ?_
    refine wp_region_noPanic ?_
    refine wp_region_held_drew (S := (fun w' : World => w'.cell? ⟨w.heap.size + 1 + 1 + 1, 0, none⟩ = some (.int .i64 got))) (by kernel_rfl) ?_ (fun hHeld => ?_)
    · exact hqb.cell 0
    refine wpAnyH_take (i := 2) (v := ?v2816_0_2) rfl (by kernel_rfl) (by kernel_rfl) (by kernel_rfl) (fun _ _ _ h => h) (Or.inl ⟨by rfl, ?hy2816_0_2⟩) (by assumption) ?_
    case hy2816_0_2 => (intro w hSw; (try dsimp only at hSw); go_simp; try (with_reducible rfl))
    (try simp only [Act.put, List.getElem_toArray, List.getElem_cons_zero, List.getElem_cons_succ, List.setIfInBounds_toArray, List.set_cons_zero, List.set_cons_succ])
    refine wpAnyH_ready (rs := [0]) (by kernel_rfl) (by simp) (AllReadyH.cons rfl (fun K hK => ?_) AllReadyH.nil)
    go_simp
    refine hK.out _ _ ?_ (fun hHeld => ?_)
    · exact hHeld
    clear hK K
    (try simp only [Act.put, List.getElem_toArray, List.getElem_cons_zero, List.setIfInBounds_toArray, List.set_cons_zero, List.set_cons_succ])
    refine wpAnyH_ready (rs := [1]) (by kernel_rfl) (by simp) (AllReadyH.cons rfl (fun K hK => ?_) AllReadyH.nil)
    go_simp
    (refine (clip_own (w := Y.drew) hpo).mono ?_; rintro e w' ⟨⟨u, rfl, hu⟩, rfl⟩; obtain ⟨ua, un, uc, rfl⟩ := hu.isSlice; have HU := Lib.hid hu; clear hu)
    (try go_wp2_with fail)
    refine hK.out _ _ ?_ (fun hHeld => ?_)
    · exact hHeld
    clear hK K
    (try simp only [Act.put, List.getElem_toArray, List.getElem_cons_zero, List.getElem_cons_succ, List.setIfInBounds_toArray, List.set_cons_zero, List.set_cons_succ])
    refine wpAnyH_ready (rs := [3]) (by kernel_rfl) (by simp) (AllReadyH.cons rfl (fun K hK => ?_) AllReadyH.nil)
    go_simp
    refine hK.out _ _ ?_ (fun hHeld => ?_)
    · exact (hqb.far (a := ⟨w.heap.size + 1 + 1, 0, none⟩) (by dsimp only; omega) _).cell 0
    clear hK K
    (try simp only [Act.put, List.getElem_toArray, List.getElem_cons_zero, List.getElem_cons_succ, List.setIfInBounds_toArray, List.set_cons_zero, List.set_cons_succ])
    refine wpAnyH_ready (rs := [4]) (by kernel_rfl) (by simp) (AllReadyH.cons rfl (fun K hK => ?_) AllReadyH.nil)
    go_simp
    refine hK.out _ _ ?_ (fun hHeld => ?_)
    · exact (((hqb.far (a := ⟨w.heap.size + 1 + 1, 0, none⟩) (by dsimp only; omega) _).set 0 _).cell 0)
    clear hK K
    (try simp only [Act.put, List.getElem_toArray, List.getElem_cons_zero, List.getElem_cons_succ, List.setIfInBounds_toArray, List.set_cons_zero, List.set_cons_succ])
    refine wpAnyH_done (by kernel_rfl) ?_ _
    refine NoPanic.normal ?_
    gi_wp2
    obtain ⟨hM, hroute, hK⟩ := HM.out
    have hD1 : D ≠ w.heap.size + 1 + 1 := fun e => by subst e; unfold Blk at hpb; rw [hpb] at hK; cases hK
    have hD2 : D ≠ w.heap.size + 1 + 1 + 1 := fun e => by subst e; unfold Blk at hqb; rw [hqb] at hK; cases hK
    have hK2 : (((Y.setCell ⟨w.heap.size + 1 + 1, 0, none⟩ (.slice ua un uc)).setCell ⟨w.heap.size + 1 + 1 + 1, 0, none⟩ (.int .i64 got)).drew).heap[D]? = some (.deferred (some [])) :=
      (heap_setCell_other _ ⟨w.heap.size + 1 + 1 + 1, 0, none⟩ D _ hD2).trans ((heap_setCell_other _ ⟨w.heap.size + 1 + 1, 0, none⟩ D _ hD1).trans hK)
    refine ⟨by simp, .inl ⟨D, _, rfl, run_takeDeferred hK2, ?_⟩⟩
    have z8 : ((((Y.setCell ⟨w.heap.size + 1 + 1, 0, none⟩ (.slice ua un uc)).setCell ⟨w.heap.size + 1 + 1 + 1, 0, none⟩ (.int .i64 got)).drew).putObj D (.deferred none)).cell? ⟨w.heap.size + 1 + 1, 0, none⟩ = some (.slice ua un uc) :=
      Blk.cell (((hpb.set 0 _).far (a := ⟨w.heap.size + 1 + 1 + 1, 0, none⟩) (by dsimp only; omega) _).drew.put hD1.symm _) 0
    have z9 : ((((Y.setCell ⟨w.heap.size + 1 + 1, 0, none⟩ (.slice ua un uc)).setCell ⟨w.heap.size + 1 + 1 + 1, 0, none⟩ (.int .i64 got)).drew).putObj D (.deferred none)).cell? ⟨w.heap.size + 1 + 1 + 1, 0, none⟩ = some (.int .i64 got) :=
      Blk.cell (((hqb.far (a := ⟨w.heap.size + 1 + 1, 0, none⟩) (by dsimp only; omega) _).set 0 _).drew.put hD2.symm _) 0
    refine ⟨.tuple #[.slice ua un uc, .int .i64 got], by simp [results, Try.results69, go_sem, z8, z9], .slice ua un uc, by rw [hroute], ?_, ?_⟩
    · rw [hroute]
      refine HU.out.move (by omega) fun g cs hg hb => ?_
      have hlt := hM.lt
      have hgD : g ≠ D := fun e => by subst e; unfold Blk at hb; rw [show Y.drew.heap[g]? = Y.heap[g]? from rfl, hK] at hb; cases hb
      exact ((hb.far (a := ⟨w.heap.size + 1 + 1, 0, none⟩) (by dsimp only; omega) _).far (a := ⟨w.heap.size + 1 + 1 + 1, 0, none⟩) (by dsimp only; omega) _).drew.put hgD _
    · exact (((hM.ch.setCell (p := ⟨w.heap.size + 1 + 1, 0, none⟩) (.inr (by dsimp only; omega)) _).setCell (p := ⟨w.heap.size + 1 + 1 + 1, 0, none⟩) (.inr (by dsimp only; omega)) _).drew).put (.inr hD') _
end Go.Proofs.Ytofnaigkfhfhoaa
