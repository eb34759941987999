/-
  Laws of the walk that the library lacks: a whole variable laid with its zero, a part of a row loaded, a part stored, an element of an array that is a value.
-/
import Derived.Test.YtofnaigkfhfhoaaBase
namespace Go.Proofs.Ytofnaigkfhfhoaa
open Go.RowKit

section
variable {P : Program} {ops : Array Oper} {rest : List Oper} {o : Oper} {a : Act} {w : World} {Q : Exit → Act → World → Prop}

theorem run_alloc_zero (ty : TypeId) (Z : Array Value) (hz : (P.info? ty).bind (fun i => i.zero.map Value.cells) = some Z) (w : World) (old : Value) :
    (Instr.alloc ty true old).run P w = .ok (.pointer (some ⟨w.heap.size, 0, none⟩)) (w.alloc (.cells Z ty)) := by
  cases hi : P.info? ty with
  | none => simp [hi] at hz
  | some i =>
    cases hzz : i.zero with
    | none => simp [hi, hzz] at hz
    | some z =>
      have e : z.cells = Z := by simpa [hi, hzz] using hz
      subst e
      simp [Instr.alloc, zeroValue, typeInfo, hi, hzz, newVar, newRow, newObj]
      rfl

/-- 'var x T' (a variable of its own): its cells under a name of yours. -/
theorem wpList_alloc_zero (hgd : o.guard = none) (ty : TypeId) (ho : o.op = .alloc ty) (Z : Array Value) (hz : (P.info? ty).bind (fun i => i.zero.map Value.cells) = some Z)
    (h : wpList P ops Q rest (a.put o.dst (.pointer (some ⟨w.heap.size, 0, none⟩))) (w.alloc (.cells Z ty))) : wpList P ops Q (o :: rest) a w :=
  wpList_plain hgd fun K hK => by
    unfold Oper.wp execOp
    simp only [ho, Sem.run_bind, Sem.run_pure, run_alloc_zero ty Z hz w, Result.andThen_ok]
    exact hK _ _ h

theorem add_at (g off j : Nat) : (⟨g, off, none⟩ : Addr).add j = ⟨g, off + j, none⟩ := by unfold Addr.add; split <;> simp_all

/-- A part of a row, loaded as one value. -/
theorem run_loadVar_part (w : World) (g off n : Nat) (t ty : TypeId) (cs : Array Value) (fr : Nat × Nat) (d : TypeDesc) (hg : w.heap[g]? = some (.cells cs t fr))
    (hu : P.underlying ty = some d) (hd : (match d with | .struct _ | .array _ _ => true | _ => false) = true) (hi : (P.info? ty).map (·.size) = some n) (hn : off + n ≤ cs.size) :
    (loadVar ty ⟨g, off, none⟩).run P w = .ok (.agg (cs.extract off (off + n))) w := by
  have hl : (loadCells ⟨g, off, none⟩ (cs.extract off (off + n)).toList.length).run P w = .ok (cs.extract off (off + n)).toList.toArray w :=
    run_loadCells_list (P := P) w ⟨g, off, none⟩ (cs.extract off (off + n)).toList (fun j v hv => by
      rw [add_at, cell_of_row w g _ cs t fr hg]
      rw [Array.getElem?_toList, Array.getElem?_extract] at hv
      split at hv
      · exact hv
      · cases hv)
  cases hq : P.info? ty with
  | none => simp [hq] at hi
  | some i =>
    have hs : i.size = n := by simpa [hq] using hi
    have hagg : (isAgg ty).run P w = .ok true w := by
      unfold isAgg
      rw [Sem.run_bind, run_underlying hu w]
      cases d <;> simp_all
    have hlen : (cs.extract off (off + n)).size = n := by simp; omega
    simp only [Array.length_toList, Array.toArray_toList, hlen] at hl
    simp [loadVar, Sem.run_bind, hagg, sizeOf, typeInfo, hq, hs, hl]

theorem wpList_load_part (hgd : o.guard = none) (ty : TypeId) (x : Operand) (ho : o.op = .load ty x) (g off n : Nat) (hx : a.eval x = .pointer (some ⟨g, off, none⟩)) (t : TypeId) (cs : Array Value) (fr : Nat × Nat) (d : TypeDesc)
    (hg : w.heap[g]? = some (.cells cs t fr)) (hu : P.underlying ty = some d) (hd : (match d with | .struct _ | .array _ _ => true | _ => false) = true) (hi : (P.info? ty).map (·.size) = some n) (hn : off + n ≤ cs.size)
    (vs : Array Value) (hvs : cs.extract off (off + n) = vs)
    (h : wpList P ops Q rest (a.put o.dst (.agg vs)) w) : wpList P ops Q (o :: rest) a w :=
  wpList_plain hgd fun K hK => by
    subst hvs
    unfold Oper.wp execOp
    simp only [ho, hx, Instr.loadAt, Instr.sureAddr, Sem.run_bind, Sem.run_pure, Result.andThen_ok, run_loadVar_part w g off n t ty cs fr d hg hu hd hi hn]
    exact hK _ _ h

/-- A value of several cells, stored over the whole of a row. -/
theorem run_storeVar_whole (w : World) (g : Nat) (t ty : TypeId) (cs vs : Array Value) (hg : w.heap[g]? = some (.cells cs t (0, 0))) (hi : (P.info? ty).map (·.size) = some vs.size) (hs : vs.size = cs.size) (h1 : ∀ u ∈ vs.toList, u.oneCell' = true) :
    (storeVar ty ⟨g, 0, none⟩ (.agg vs)).run P w = .ok () (w.setRow g vs) := by
  cases hq : P.info? ty with
  | none => simp [hq] at hi
  | some i =>
    have hsz : i.size = vs.size := by simpa [hq] using hi
    have hst := run_storeCells_at P g 0 t vs.toList 0 cs w hg (by simp [hs]) h1
    simp only [Nat.add_zero, Nat.zero_add, Array.length_toList] at hst
    have e : (cs.toList.take 0 ++ vs.toList ++ cs.toList.drop vs.size).toArray = vs := by
      rw [List.drop_of_length_le (by simp [hs])]; simp
    simp [storeVar, Sem.run_bind, sizeOf, typeInfo, hq, hsz, Value.cells]
    rw [hst, e]

theorem wpList_store_whole (hgd : o.guard = none) (ty : TypeId) (x y : Operand) (ho : o.op = .store ty x y) (g : Nat) (hx : a.eval x = .pointer (some ⟨g, 0, none⟩)) (vs : Array Value) (hy : a.eval y = .agg vs) (t : TypeId) (cs : Array Value)
    (hg : w.heap[g]? = some (.cells cs t (0, 0))) (hi : (P.info? ty).map (·.size) = some vs.size) (hs : vs.size = cs.size) (h1 : ∀ u ∈ vs.toList, u.oneCell' = true)
    (h : wpList P ops Q rest (a.put o.dst undef) (w.setRow g vs)) : wpList P ops Q (o :: rest) a w :=
  wpList_plain hgd fun K hK => by
    unfold Oper.wp execOp
    simp only [ho, hx, hy, Instr.storeAt, Instr.sureAddr, Sem.run_bind, Sem.run_pure, Result.andThen_ok, run_storeVar_whole w g t ty cs vs hg hi hs h1]
    exact hK _ _ h

theorem world_eq : ∀ {u v : World}, u.heap = v.heap → u.tape = v.tape → u.drawn = v.drawn → u.os = v.os → u.output = v.output → u = v := by
  rintro ⟨a, b, c, d, e⟩ ⟨a', b', c', d', e'⟩ h1 h2 h3 h4 h5
  simp only at h1 h2 h3 h4 h5
  subst h1; subst h2; subst h3; subst h4; subst h5
  rfl

theorem setRow_new (w : World) (Z cs : Array Value) (t : TypeId) : (w.alloc (.cells Z t)).setRow w.heap.size cs = w.alloc (.cells cs t) := by
  refine world_eq ?_ rfl rfl rfl rfl
  apply Array.ext_getElem?
  intro k
  by_cases hk : k = w.heap.size
  · subst hk
    rw [setRow_heap _ _ _ cs t (0, 0) (heap_alloc_new w (.cells Z t)), heap_alloc_new]
  · rw [setRow_other _ _ _ _ hk]
    show (w.heap.push _)[k]? = (w.heap.push _)[k]?
    rw [Array.getElem?_push, Array.getElem?_push, if_neg hk, if_neg hk]

/-- An element of an array that is a value, itself of several cells. -/
theorem run_index_part {t elem : TypeId} {len n : Nat} {d : TypeDesc} (cs : Array Value) (i : Nat) (k : IntKind) (hu : P.underlying t = some (.array len elem)) (he : P.underlying elem = some d)
    (hd : (match d with | .struct _ | .array _ _ => true | _ => false) = true) (hs : (P.info? elem).map (·.size) = some n) (hi : i < len) (w : World) :
    (Instr.index t (.agg cs) (.int k (i : Int))).run P w = .ok (.agg (cs.extract (i * n) (i * n + n))) w := by
  cases hq : P.info? elem with
  | none => simp [hq] at hs
  | some j =>
    have hsz : j.size = n := by simpa [hq] using hs
    have hagg : ∀ w, (isAgg elem).run P w = .ok true w := by
      intro w
      unfold isAgg
      rw [Sem.run_bind, run_underlying he w]
      cases d <;> simp_all
    have h0 : (0 : Int) ≤ (i : Int) ∧ (i : Int) < (len : Int) := by omega
    simp [Instr.index, asIntOf, run_underlying hu, sizeOf, typeInfo, hq, hsz, part, hagg, hi]

/-- An element of an array that is a value, of one cell. -/
theorem run_index_cell {t elem : TypeId} {len : Nat} {d : TypeDesc} (cs : Array Value) (i : Nat) (k : IntKind) (hu : P.underlying t = some (.array len elem)) (he : P.underlying elem = some d)
    (hd : (match d with | .struct _ | .array _ _ => true | _ => false) = false) (hs : (P.info? elem).map (·.size) = some 1) (hi : i < len) (v : Value) (hv : cs[i]? = some v) (w : World) :
    (Instr.index t (.agg cs) (.int k (i : Int))).run P w = .ok v w := by
  cases hq : P.info? elem with
  | none => simp [hq] at hs
  | some j =>
    have hsz : j.size = 1 := by simpa [hq] using hs
    have hagg : ∀ w, (isAgg elem).run P w = .ok false w := by
      intro w
      unfold isAgg
      rw [Sem.run_bind, run_underlying he w]
      cases d <;> simp_all
    simp [Instr.index, asIntOf, run_underlying hu, sizeOf, typeInfo, hq, hsz, part, hagg, hi, hv]

/-! ### '==' on arrays -/

theorem run_all_list (body : Nat → Option Bool × Unit → Sem (ForInStep (Option Bool × Unit))) (g : Nat → Bool) (w : World) : ∀ (l : List Nat), (∀ i ∈ l, ∀ s, (body i s).run P w = .ok (if g i then .yield (none, ()) else .done (some false, ())) w) →
    (Sem.run P (forIn (m := Sem) l ((none, ()) : Option Bool × Unit) body) w) = .ok (if l.all g then (none, ()) else (some false, ())) w
  | [], _ => by simp
  | i :: l, h => by
    have h1 := h i (by simp) (none, ())
    have ih := run_all_list body g w l (fun j hj => h j (by simp [hj]))
    cases hg : g i
    · rw [hg] at h1
      simp [List.forIn_cons, Sem.run_bind, h1, hg]
    · rw [hg] at h1
      simp only [List.forIn_cons, Sem.run_bind, h1, Result.andThen_ok, if_true, List.all_cons, hg, Bool.true_and]
      exact ih

theorem run_equalIn_array {t elem : TypeId} {len n : Nat} (d : Nat) (xs ys : Array Value) (g : Nat → Bool) (ht : P.underlying t = some (.array len elem)) (hs : (P.info? elem).map (·.size) = some n) (w : World)
    (h : ∀ i, i < len → Sem.run P (do Op.equalIn d elem (← part elem xs (i * n)) (← part elem ys (i * n))) w = .ok (g i) w) :
    (Op.equalIn (d + 1) t (.agg xs) (.agg ys)).run P w = .ok ((List.range len).all g) w := by
  cases hq : P.info? elem with
  | none => simp [hq] at hs
  | some j =>
    have hsz : j.size = n := by simpa [hq] using hs
    simp only [Op.equalIn, Sem.run_bind, run_underlying ht, Result.andThen_ok, sizeOf, typeInfo, run_program, hq, hsz, Sem.run_pure]
    rw [Std.Legacy.Range.forIn_eq_forIn_range', run_all_list _ g w _ ?_]
    · simp only [Std.Legacy.Range.size, Nat.sub_zero, Nat.add_sub_cancel, Nat.div_one, List.range_eq_range', Result.andThen_ok]
      cases (List.range' 0 len).all g <;> simp
    · intro i hi s
      have hi' : i < len := by simpa [Std.Legacy.Range.size] using hi
      have := h i hi'
      simp only [Sem.run_bind] at this ⊢
      revert this
      generalize (part elem xs (i * n)).run P w = r1
      cases r1 with
      | halt x w1 => intro this; simp [Result.andThen] at this
      | ok a w1 =>
        simp only [Result.andThen_ok]
        generalize (part elem ys (i * n)).run P w1 = r2
        cases r2 with
        | halt x w1 => intro this; simp [Result.andThen] at this
        | ok b w2 =>
          simp only [Result.andThen_ok]
          intro this
          rw [this]
          cases g i <;> simp

end
end Go.Proofs.Ytofnaigkfhfhoaa
