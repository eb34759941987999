/-
  The package flows: Route of whatever graph (there or not), whatever is wanted; Most.
-/
import Derived.Test.YtofnaigkfhfhoaaRouteWalk
namespace Go.Proofs.Ytofnaigkfhfhoaa
open Go.RowKit Go.Shelf Pl
attribute [local go_sem] Oper.semAt_some
attribute [local go_sem ↓] Go.wp_at_zero Go.wp_at_succ

set_option maxRecDepth 100000 in
set_option maxHeartbeats 1000000 in
theorem froute_low {w : World} {ao : Option Addr} {C : Caps} {s t : Nat} {want : Int} (hw : want ≤ 0) :
    Calls Try.prog 69 #[.pointer ao, .int .u8 s, .int .u8 t, .int .i64 want] w (RouteP C s t want w) := by
  have hr : route s t want.toNat C want = ([], 0, C) := route_done _ _ _ _ hw
  have HR := Lib.hid hr
  clear hr
  go_enter Try.func69, Try.ntmps69
  go_wp2
  refine bodyPost_ret (v := .tuple #[.slice none 0 0, .int .i64 0]) (by simp [results, Try.results69, go_sem]) rfl ?_
  refine ⟨_, by rw [HR.out], ?_, ?_⟩
  · rw [HR.out]; exact ⟨rfl, .inl ⟨rfl, rfl⟩⟩
  · exact ((((Chg.refl [] w).alloc _).alloc _).alloc _).alloc _

theorem short_zero (s t : Nat) : short (fun _ _ => 0) s t = [] := by
  refine Classical.byContradiction fun h => ?_
  have hR := round_of (w := 1) (by omega) h
  have hW := short_way h
  generalize short (fun _ _ => 0) s t = l at *
  match l, hR, hW with
  | [], _, _ => exact h rfl
  | [a], _, hW =>
    have h1 := hW.first
    have h2 := hW.last
    simp at h1 h2
    exact hW.ends (h1.symm.trans h2)
  | a :: b :: l, hR, _ =>
    have := hR.pos
    have h2 := least_le (fun _ _ => 0) (b :: l) (min 1 0)
    have e : least (fun _ _ => 0) (a :: b :: l) 1 = least (fun _ _ => 0) (b :: l) (min 1 0) := rfl
    rw [e] at this
    omega

/-- What lies in memory where the graph is none: n0: the first of Route's four boxes; bx: the first of the iterator's three. -/
structure RV (w W : World) (n0 bx s t : Nat) : Prop where
  pb : Blk W (n0 + 2) 43 #[.slice none 0 0]
  qb : Blk W (n0 + 3) 2 #[.int .i64 0]
  b1 : Blk W bx 96 #[.pointer none]
  b2 : Blk W (bx + 1) 22 #[.int .u8 s]
  b3 : Blk W (bx + 2) 22 #[.int .u8 t]
  ch : Chg [] w W
theorem RV.kept {w X Y : World} {row : Option Nat} {B n0 bx s t : Nat} (h : RV w X n0 bx s t) (hB : w.heap.size ≤ B) (hg : X.grownBy Y row) (hr : ∀ r, row = some r → B ≤ r ∧ ∃ o : Obj, X.heap[r]? = some o ∧ o.isCells = false) : RV w Y n0 bx s t := by
  have hr2 := fun r e => (hr r e).2
  exact ⟨h.pb.kept hg hr2, h.qb.kept hg hr2, h.b1.kept hg hr2, h.b2.kept hg hr2, h.b3.kept hg hr2, h.ch.kept hB hg (fun r e => (hr r e).1)⟩

set_option maxRecDepth 100000 in
set_option maxHeartbeats 1000000 in
theorem froute_none {w : World} {v : Value} (h : VoidG w v) {ao : Option Addr} (hv : v = .pointer ao) {s t : Nat} {want : Int} (hw : 0 < want) (hw2 : want ≤ 9223372036854775807) :
    Calls Try.prog 69 #[v, .int .u8 s, .int .u8 t, .int .i64 want] w (RouteP (fun _ _ => 0) s t want w) := by
  subst hv
  have hch4 : Chg [] w ((((w.alloc (.cells #[.pointer ao] 96)).alloc (.cells #[.int .i64 want] 2)).alloc (.cells #[.slice none 0 0] 43)).alloc (.cells #[.int .i64 0] 2)) := ((((Chg.refl [] w).alloc _).alloc _).alloc _).alloc _
  have HG := Lib.hid (gcopy_void (h.chg hch4 (by simp)))
  have HH := Lib.hid hch4
  clear h hch4
  refine (callsIn_wide (n := 3)).1 ?_
  refine callsIn_of_wp_marks Try.func69 rfl trivial ?_ rfl
  simp only [Try.ntmps69, List.size_toArray, List.length_cons, List.length_nil, Nat.reduceAdd, Nat.reduceSub, Array.replicate_succ, Array.replicate_zero, List.push_toArray, List.append_toArray, List.nil_append, List.cons_append]
  gi_wp2_with (first
    | (refine ⟨trivial, ?_⟩; gi_at_call 111; refine (callsIn_wide.2 HG.out).mono ?_; rintro e w1 ⟨rfl, rfl⟩)
    | (refine ⟨trivial, ?_⟩; gi_at_call 112; refine (callsIn_wide.2 fways).mono ?_; rintro e w2 ⟨rfl, rfl⟩))
  have hs0 : short (fun _ _ => 0) s t = [] := short_zero s t
  have H0 := Lib.hid hs0
  clear hs0
  have HW : Hid (RV w (((((((w.alloc (.cells #[.pointer none] 96)).alloc (.cells #[.int .i64 want] 2)).alloc (.cells #[.slice none 0 0] 43)).alloc (.cells #[.int .i64 0] 2)).alloc (.cells #[.pointer none] 96)).alloc (.cells #[.int .u8 s] 22)).alloc (.cells #[.int .u8 t] 22)) w.heap.size (w.heap.size + 4) s t) := by
    have a2 := Blk.new ((w.alloc (.cells #[.pointer none] 96)).alloc (.cells #[.int .i64 want] 2)) 43 #[.slice none 0 0]
    have a3 := Blk.new (((w.alloc (.cells #[.pointer none] 96)).alloc (.cells #[.int .i64 want] 2)).alloc (.cells #[.slice none 0 0] 43)) 2 #[.int .i64 0]
    have a4 := Blk.new ((((w.alloc (.cells #[.pointer none] 96)).alloc (.cells #[.int .i64 want] 2)).alloc (.cells #[.slice none 0 0] 43)).alloc (.cells #[.int .i64 0] 2)) 96 #[.pointer none]
    have a5 := Blk.new (((((w.alloc (.cells #[.pointer none] 96)).alloc (.cells #[.int .i64 want] 2)).alloc (.cells #[.slice none 0 0] 43)).alloc (.cells #[.int .i64 0] 2)).alloc (.cells #[.pointer none] 96)) 22 #[.int .u8 s]
    have a6 := Blk.new ((((((w.alloc (.cells #[.pointer none] 96)).alloc (.cells #[.int .i64 want] 2)).alloc (.cells #[.slice none 0 0] 43)).alloc (.cells #[.int .i64 0] 2)).alloc (.cells #[.pointer none] 96)).alloc (.cells #[.int .u8 s] 22)) 22 #[.int .u8 t]
    simp only [World.size_alloc] at a2 a3 a4 a5 a6
    exact ⟨(((a2.alloc _).alloc _).alloc _).alloc _, ((a3.alloc _).alloc _).alloc _, (a4.alloc _).alloc _, a5.alloc _, a6, (((((((Chg.refl [] w).alloc _).alloc _).alloc _).alloc _).alloc _).alloc _).alloc _⟩
  obtain ⟨W, hW⟩ : ∃ W : World, W = (((((((w.alloc (.cells #[.pointer none] 96)).alloc (.cells #[.int .i64 want] 2)).alloc (.cells #[.slice none 0 0] 43)).alloc (.cells #[.int .i64 0] 2)).alloc (.cells #[.pointer none] 96)).alloc (.cells #[.int .u8 s] 22)).alloc (.cells #[.int .u8 t] 22)) := ⟨_, rfl⟩
  rw [← hW] at HW
  have hWs : w.heap.size ≤ W.heap.size := HW.out.ch.size
  rw [← hW]
  refine wpIn_rangeFunc_told rfl (by omega) (gf := 133) (lb := #[.pointer (some ⟨w.heap.size + 4, 0, none⟩), .pointer (some ⟨w.heap.size + 4 + 1, 0, none⟩), .pointer (some ⟨w.heap.size + 4 + 2, 0, none⟩)]) rfl trivial (enters_of Try.func133 (by kernel_rfl) rfl)
    (encs := fun x : Way1 => #[x.1])
    (fun pre x X => RdP X w.heap.size x.1 x.2 ∧ x.2 = short (fun _ _ => 0) s t ∧ x.2 ≠ [])
    (fun pre X => pre = [] ∧ RV w X w.heap.size (w.heap.size + 4) s t)
    (fun c pre X => False)
    (fun xs _ => short (fun _ _ => 0) s t = [])
    ?seq (fun _ => rfl) ?hI ?hA ?hIx ?hS ?h0 (fun x => { tmps := #[.pointer ao, .int .u8 s, .int .u8 t, .int .i64 want, .pointer (some ⟨w.heap.size, 0, none⟩), undef, undef, .pointer (some ⟨w.heap.size + 1, 0, none⟩), .pointer (some ⟨w.heap.size + 1 + 1, 0, none⟩), .pointer (some ⟨w.heap.size + 1 + 1 + 1, 0, none⟩), x.1, undef, undef, .int .i64 want, .bool (decide (want ≤ 0)), .pointer ao, .pointer none, .pointer none, .int .u8 s, .int .u8 t, .func (.func 133) #[] #[.pointer (some ⟨w.heap.size + 4, 0, none⟩), .pointer (some ⟨w.heap.size + 4 + 1, 0, none⟩), .pointer (some ⟨w.heap.size + 4 + 2, 0, none⟩)], x.1, undef, undef, undef, undef, undef, undef, undef, undef, undef, undef, undef, undef, undef, undef, undef, undef, undef, undef, undef, undef, undef, undef, undef, undef, undef, undef, undef, undef, undef, undef, undef, undef, undef, undef, undef, undef, undef, undef, undef, undef, undef, undef, undef, undef, undef, undef, undef, undef], defers := [] }) ?assign ?body ?done ?stop
  case seq =>
    exact ways_told (base := w.heap.size) (gv := .pointer none) (fun _ => fun _ _ => 0) _ 0
      (fun pre X h => ⟨h.2.b1.cell 0, h.2.b2.cell 0, h.2.b3.cell 0, .inr ⟨.inl rfl, rfl⟩, h.2.ch.size⟩) (fun pre X h => by rw [h.1]; exact Nat.le_refl _) _ (by omega)
  case hI => exact fun pre X Y row h hg hr => ⟨h.1, h.2.kept hWs hg hr⟩
  case hA => exact fun x pre X Y row h hg hr => ⟨ownsRow_kept h.1 hg (fun r e => (hr r e).2), h.2⟩
  case hIx => exact fun c pre X Y row h hg hr => h
  case hS => exact fun xs X Y row h _ _ => h
  case h0 => exact ⟨rfl, HW.out⟩
  case assign =>
    intro l x X K hK
    gi_wp2
    exact hK
  case body =>
    rintro l pre x X _ ⟨_, hxs, hne⟩
    exact absurd (hxs.trans H0.out) hne
  case stop =>
    rintro D c pre Y _ h _
    exact h.elim
  case done =>
    rintro D xs Y hD' _ ⟨_, hM⟩ hK
    have hD' : w.heap.size ≤ D := Nat.le_trans hWs hD'
    have hpb := hM.pb
    have hqb := hM.qb
    have d8 : Y.cell? ⟨w.heap.size + 1 + 1, 0, none⟩ = some (.slice none 0 0) := hpb.cell 0
    have e8 : Y.frozen? ⟨w.heap.size + 1 + 1, 0, none⟩ = false := hpb.frozen 0
    have e9 : Y.frozen? ⟨w.heap.size + 1 + 1 + 1, 0, none⟩ = false := hqb.frozen 0
    have HM := Lib.hid (And.intro hM hK)
    clear hM hK
    gi_wp2
    refine wpIn_wide.2 ?_
    refine wp_region_noPanic ?_
    refine wp_region_held_drew (S := (fun w' : World => w'.cell? ⟨w.heap.size + 1 + 1 + 1, 0, none⟩ = some (.int .i64 0))) (by kernel_rfl) ?_ (fun hHeld => ?_)
    · exact hqb.cell 0
    refine wpAnyH_take (i := 2) (v := ?v2817_0_2) rfl (by kernel_rfl) (by kernel_rfl) (by kernel_rfl) (fun _ _ _ h => h) (Or.inl ⟨by rfl, ?hy2817_0_2⟩) (by assumption) ?_
    case hy2817_0_2 => (intro w hSw; (try dsimp only at hSw); go_simp; try (with_reducible rfl))
    (try simp only [Act.put, List.getElem_toArray, List.getElem_cons_zero, List.getElem_cons_succ, List.setIfInBounds_toArray, List.set_cons_zero, List.set_cons_succ])
    refine wpAnyH_ready (rs := [0]) (by kernel_rfl) (by simp) (AllReadyH.cons rfl (fun K hK => ?_) AllReadyH.nil)
    go_simp
    refine hK.out _ _ ?_ (fun hHeld => ?_)
    · exact hHeld
    clear hK K
    (try simp only [Act.put, List.getElem_toArray, List.getElem_cons_zero, List.setIfInBounds_toArray, List.set_cons_zero, List.set_cons_succ])
    refine wpAnyH_ready (rs := [1]) (by kernel_rfl) (by simp) (AllReadyH.cons rfl (fun K hK => ?_) AllReadyH.nil)
    go_simp
    (refine (clip_flows none 0 0 (Nat.le_refl _) _).mono ?_; rintro e w' ⟨rfl, rfl⟩)
    (try go_wp2_with fail)
    refine hK.out _ _ ?_ (fun hHeld => ?_)
    · exact hHeld
    clear hK K
    (try simp only [Act.put, List.getElem_toArray, List.getElem_cons_zero, List.getElem_cons_succ, List.setIfInBounds_toArray, List.set_cons_zero, List.set_cons_succ])
    refine wpAnyH_ready (rs := [3]) (by kernel_rfl) (by simp) (AllReadyH.cons rfl (fun K hK => ?_) AllReadyH.nil)
    go_simp
    refine hK.out _ _ ?_ (fun hHeld => ?_)
    · exact (hqb.far (a := ⟨w.heap.size + 1 + 1, 0, none⟩) (by dsimp only; omega) _).cell 0
    clear hK K
    (try simp only [Act.put, List.getElem_toArray, List.getElem_cons_zero, List.getElem_cons_succ, List.setIfInBounds_toArray, List.set_cons_zero, List.set_cons_succ])
    refine wpAnyH_ready (rs := [4]) (by kernel_rfl) (by simp) (AllReadyH.cons rfl (fun K hK => ?_) AllReadyH.nil)
    go_simp
    refine hK.out _ _ ?_ (fun hHeld => ?_)
    · exact (((hqb.far (a := ⟨w.heap.size + 1 + 1, 0, none⟩) (by dsimp only; omega) _).set 0 _).cell 0)
    clear hK K
    (try simp only [Act.put, List.getElem_toArray, List.getElem_cons_zero, List.getElem_cons_succ, List.setIfInBounds_toArray, List.set_cons_zero, List.set_cons_succ])
    refine wpAnyH_done (by kernel_rfl) ?_ _
    refine NoPanic.normal ?_
    gi_wp2
    obtain ⟨hM, hK⟩ := HM.out
    have hD1 : D ≠ w.heap.size + 1 + 1 := fun e => by subst e; unfold Blk at hpb; rw [hpb] at hK; cases hK
    have hD2 : D ≠ w.heap.size + 1 + 1 + 1 := fun e => by subst e; unfold Blk at hqb; rw [hqb] at hK; cases hK
    have hK2 : (((Y.setCell ⟨w.heap.size + 1 + 1, 0, none⟩ (.slice none 0 0)).setCell ⟨w.heap.size + 1 + 1 + 1, 0, none⟩ (.int .i64 0)).drew).heap[D]? = some (.deferred (some [])) :=
      (heap_setCell_other _ ⟨w.heap.size + 1 + 1 + 1, 0, none⟩ D _ hD2).trans ((heap_setCell_other _ ⟨w.heap.size + 1 + 1, 0, none⟩ D _ hD1).trans hK)
    refine ⟨by simp, .inl ⟨D, _, rfl, run_takeDeferred hK2, ?_⟩⟩
    have z8 : ((((Y.setCell ⟨w.heap.size + 1 + 1, 0, none⟩ (.slice none 0 0)).setCell ⟨w.heap.size + 1 + 1 + 1, 0, none⟩ (.int .i64 0)).drew).putObj D (.deferred none)).cell? ⟨w.heap.size + 1 + 1, 0, none⟩ = some (.slice none 0 0) :=
      Blk.cell (((hpb.set 0 _).far (a := ⟨w.heap.size + 1 + 1 + 1, 0, none⟩) (by dsimp only; omega) _).drew.put hD1.symm _) 0
    have z9 : ((((Y.setCell ⟨w.heap.size + 1 + 1, 0, none⟩ (.slice none 0 0)).setCell ⟨w.heap.size + 1 + 1 + 1, 0, none⟩ (.int .i64 0)).drew).putObj D (.deferred none)).cell? ⟨w.heap.size + 1 + 1 + 1, 0, none⟩ = some (.int .i64 0) :=
      Blk.cell (((hqb.far (a := ⟨w.heap.size + 1 + 1, 0, none⟩) (by dsimp only; omega) _).set 0 _).drew.put hD2.symm _) 0
    have hr := route_none (C := fun _ _ => 0) s t want.toNat want H0.out
    refine ⟨.tuple #[.slice none 0 0, .int .i64 0], by simp [results, Try.results69, go_sem, z8, z9], .slice none 0 0, by rw [hr], ?_, ?_⟩
    · rw [hr]; exact ⟨rfl, .inl ⟨rfl, rfl⟩⟩
    · exact (((hM.ch.setCell (p := ⟨w.heap.size + 1 + 1, 0, none⟩) (.inr (by dsimp only; omega)) _).setCell (p := ⟨w.heap.size + 1 + 1 + 1, 0, none⟩) (.inr (by dsimp only; omega)) _).drew).put (.inr hD') _

/-- Route, of whatever graph, whatever is wanted. -/
theorem froute {w : World} {v : Value} {C : Caps} (h : CapV w v C) (s t : Nat) {want : Int} (hw2 : want ≤ 9223372036854775807) :
    Calls Try.prog 69 #[v, .int .u8 s, .int .u8 t, .int .i64 want] w (RouteP C s t want w) := by
  have hp : ∃ ao, v = .pointer ao := by
    rcases h with ⟨b, rfl, _⟩ | ⟨rfl | ⟨b, rfl, _⟩, _⟩
    · exact ⟨_, rfl⟩
    · exact ⟨_, rfl⟩
    · exact ⟨_, rfl⟩
  obtain ⟨ao, hv⟩ := hp
  by_cases hw : 0 < want
  · rcases h with ⟨b, rfl, hg⟩ | ⟨hg, rfl⟩
    · exact froute_pos hg hw hw2
    · exact froute_none hg hv hw hw2
  · subst hv
    exact froute_low (by omega)

/-- How much goes at most. -/
def mostF (C : Caps) (s t : Nat) : Int := (route s t 9223372036854775807 C 9223372036854775807).2.1
theorem fmost {w : World} {v : Value} {C : Caps} (h : CapV w v C) (s t : Nat) :
    Calls Try.prog 70 #[v, .int .u8 s, .int .u8 t] w fun e w' => e = .returned (.int .i64 (mostF C s t)) ∧ Chg [] w w' := by
  have HR := Lib.hid (froute h s t (want := 9223372036854775807) (by omega))
  clear h
  go_enter Try.func70, Try.ntmps70
  go_wp2_with (go_at_call 69; refine HR.out.mono ?_; rintro e w' ⟨u, rfl, _, hc⟩; have HC := Lib.hid hc; clear hc)
  go_ret
  exact ⟨rfl, HC.out⟩
end Go.Proofs.Ytofnaigkfhfhoaa
