/-
  Maps with whole numbers as elements, whatever their keys: a block that holds a list of keys and numbers.
-/
import Derived.Test.YtboekafmplomhaaZR
import Derived.Maps.OwnOps
set_option linter.unusedVariables false
set_option linter.unusedSimpArgs false
namespace Go
open Go.RowKit

section
variable {α : Type} [DecidableEq α] {P : Program} {k t e : TypeId} {Kv : α → Value} {w : World} {b : Nat} {l : List (α × Int)} {kind : TypeDesc}

/-- What a key's type must give: keys are checked, held against each other, and stay. -/
structure KeyOk (P : Program) (k : TypeId) (kind : TypeDesc) (Kv : α → Value) : Prop where
  und : P.underlying k = some kind
  check : ∀ em a w, (Instr.checkKey em 10000 k (Kv a)).run P w = .ok () w
  now : ∀ a b, Instr.sameNow kind (Kv a) (Kv b) = none ∨ Instr.sameNow kind (Kv a) (Kv b) = some (decide (a = b))
  eq : ∀ a b w, (Op.equal k (Kv a) (Kv b)).run P w = .ok (decide (a = b)) w
  same : ∀ a, Instr.sameBits 10000 (Kv a) (Kv a) = true

/-- What the list has of a key; the list with a key's number put. -/
def aget (l : List (α × Int)) (a : α) : Option Int := (l.find? (fun x => decide (x.1 = a))).map (·.2)
def aput : List (α × Int) → α → Int → List (α × Int)
  | [], a, v => [(a, v)]
  | x :: r, a, v => if x.1 = a then (a, v) :: r else x :: aput r a v
theorem aget_aput (a c : α) (v : Int) : ∀ l : List (α × Int), aget (aput l a v) c = if a = c then some v else aget l c
  | [] => by by_cases h : a = c <;> simp [aget, aput, h]
  | x :: r => by
    have ih := aget_aput a c v r
    unfold aget at *
    by_cases h : x.1 = a
    · by_cases hc : a = c
      · subst hc; simp [aput, h]
      · have : ¬ x.1 = c := fun e => hc (h ▸ e)
        simp [aput, h, hc, List.find?_cons]
    · by_cases hc : x.1 = c
      · have : ¬ a = c := fun e => h (hc.trans e.symm)
        rw [show aput (x :: r) a v = x :: aput r a v by simp [aput, h]]
        simp [hc, this, List.find?_cons]
      · simp only [aput, h, if_false, List.find?_cons, hc, decide_false]
        exact ih
/-- Block b is a map that holds the list. -/
def MapIs (Kv : α → Value) (w : World) (b : Nat) (l : List (α × Int)) : Prop :=
  ∃ es clock, w.heap[b]? = some (.map es clock) ∧ es.toList.map (fun x => (x.key, x.val)) = l.map (fun x => (Kv x.1, Value.int .i64 x.2))

/-- Where the first entry of a key lies. -/
def aidx (a : α) : List (α × Int) → Nat → Option (Nat × Int)
  | [], _ => none
  | x :: r, i => if x.1 = a then some (i, x.2) else aidx a r (i + 1)
theorem aidx_aget (a : α) : ∀ (l : List (α × Int)) (i : Nat), (aidx a l i).map (·.2) = aget l a
  | [], i => rfl
  | x :: r, i => by
    unfold aget
    by_cases h : x.1 = a
    · simp [aidx, h]
    · have := aidx_aget a r (i + 1)
      unfold aget at this
      simp [aidx, h, this]

theorem findNow_run (K : KeyOk P k kind Kv) (a : α) : ∀ (l : List (α × Int)) (es : List MapEntry) (i : Nat), es.map (fun x => (x.key, x.val)) = l.map (fun x => (Kv x.1, Value.int .i64 x.2)) →
    Instr.findNow kind (Kv a) es i = none ∨ Instr.findNow kind (Kv a) es i = some ((aidx a l i).map fun x => (x.1, Value.int .i64 x.2))
  | [], [], i, _ => .inr rfl
  | x :: r, y :: es, i, h => by
    simp only [List.map_cons, List.cons.injEq, Prod.mk.injEq] at h
    obtain ⟨⟨h1, h2⟩, h3⟩ := h
    unfold Instr.findNow
    rw [h1]
    rcases K.now a x.1 with e | e
    · rw [e]; exact .inl rfl
    · rw [e]
      by_cases hx : a = x.1
      · subst hx
        simp [aidx, h2]
      · have hx' : ¬ x.1 = a := fun e => hx e.symm
        simp only [hx, decide_false, aidx, hx', if_false]
        exact findNow_run K a r es (i + 1) h3
  | [], _ :: _, _, h => by simp at h
  | _ :: _, [], _, h => by simp at h

theorem findAsking_run (K : KeyOk P k kind Kv) (a : α) (w : World) : ∀ (l : List (α × Int)) (es : List MapEntry) (i : Nat), es.map (fun x => (x.key, x.val)) = l.map (fun x => (Kv x.1, Value.int .i64 x.2)) →
    (Instr.findAsking k (Kv a) es i).run P w = .ok ((aidx a l i).map fun x => (x.1, Value.int .i64 x.2)) w
  | [], [], i, _ => rfl
  | x :: r, y :: es, i, h => by
    simp only [List.map_cons, List.cons.injEq, Prod.mk.injEq] at h
    obtain ⟨⟨h1, h2⟩, h3⟩ := h
    have he := K.eq a x.1 w
    rw [← h1] at he
    unfold Instr.findAsking
    simp [go_sem, he]
    by_cases hx : a = x.1
    · subst hx
      simp [aidx, h2, go_sem]
    · have hx' : ¬ x.1 = a := fun e => hx e.symm
      simp only [hx, decide_false, aidx, hx', if_false, Bool.false_eq_true]
      exact findAsking_run K a w r es (i + 1) h3
  | [], _ :: _, _, h => by simp at h
  | _ :: _, [], _, h => by simp at h

theorem findKey_run (K : KeyOk P k kind Kv) (a : α) (w : World) (l : List (α × Int)) (es : List MapEntry) (h : es.map (fun x => (x.key, x.val)) = l.map (fun x => (Kv x.1, Value.int .i64 x.2))) :
    (Instr.findKey k (Kv a) es).run P w = .ok ((aidx a l 0).map fun x => (x.1, Value.int .i64 x.2)) w := by
  have hu : (underlying k).run P w = .ok kind w := by simp [underlying, go_sem, K.und]
  unfold Instr.findKey
  simp [go_sem, hu]
  rcases findNow_run K a l es 0 h with e | e
  · rw [e]; exact findAsking_run K a w l es 0 h
  · rw [e]; rfl

theorem mrun_getObj {w : World} {b : Nat} {es : Array MapEntry} {clock : Nat} (h : w.heap[b]? = some (.map es clock)) : (getObj b).run P w = .ok (.map es clock) w := by
  simp [getObj, Sem.run, h]
theorem mrun_setObj {w : World} {b : Nat} {es : Array MapEntry} {clock : Nat} (o : Obj) (h : w.heap[b]? = some (.map es clock)) : (setObj b o).run P w = .ok () { w with heap := w.heap.setIfInBounds b o } := by
  simp [setObj, Sem.run, h]

/-- A block put in place of another one. -/
def World.putObj (w : World) (b : Nat) (o : Obj) : World := { w with heap := w.heap.setIfInBounds b o }

/-- 'v, ok := m[k]'. -/
theorem lookup_run (K : KeyOk P k kind Kv) (ht : P.underlying t = some (.map k e)) (hz : (zeroValue e).run P w = .ok (.int .i64 0) w) (h : MapIs Kv w b l) (a : α) (ok : Bool) :
    (Instr.lookup t (.map (some b)) (Kv a) ok).run P w = .ok (if ok then .tuple #[.int .i64 ((aget l a).getD 0), .bool (aget l a).isSome] else .int .i64 ((aget l a).getD 0)) w := by
  obtain ⟨es, clock, hb, hm⟩ := h
  have hu : (underlying t).run P w = .ok (.map k e) w := by simp [underlying, go_sem, ht]
  have hg := mrun_getObj (P := P) hb
  have hc := K.check es.isEmpty a w
  have hf := findKey_run K a w l es.toList hm
  have hi := aidx_aget a l 0
  unfold Instr.lookup
  cases hx : aidx a l 0 with
  | none =>
    rw [hx] at hf hi
    simp at hi
    simp [go_sem, hu, hg, hc, hf, hz, ← hi]
  | some x =>
    rw [hx] at hf hi
    simp at hi
    simp [go_sem, hu, hg, hc, hf, ← hi]

/-- 'm[k] = v'. -/
theorem update_run (K : KeyOk P k kind Kv) (ht : P.underlying t = some (.map k e)) (h : MapIs Kv w b l) (a : α) (v : Int) :
    ∃ o, (Instr.mapUpdate t (.map (some b)) (Kv a) (.int .i64 v)).run P w = .ok () (w.putObj b o) ∧ MapIs Kv (w.putObj b o) b (aput l a v) := by
  obtain ⟨es, clock, hb, hm⟩ := h
  have hu : (underlying t).run P w = .ok (.map k e) w := by simp [underlying, go_sem, ht]
  have hg := mrun_getObj (P := P) hb
  have hc := K.check false a w
  have hf := findKey_run K a w l es.toList hm
  have hlt : b < w.heap.size := (Array.getElem?_eq_some_iff.1 hb).1
  have hput : ∀ o, (w.putObj b o).heap[b]? = some o := fun o => by simp [World.putObj, hlt]
  cases hx : aidx a l 0 with
  | none =>
    rw [hx] at hf
    refine ⟨.map (es.push { key := Kv a, val := .int .i64 v, born := clock }) (clock + 1), ?_, _, _, hput _, ?_⟩
    · unfold Instr.mapUpdate
      have hs := mrun_setObj (P := P) (.map (es.push { key := Kv a, val := .int .i64 v, born := clock }) (clock + 1)) hb
      simp [go_sem, hu, hg, hc, hf, hs]
      rfl
    · have key : ∀ (l : List (α × Int)) (i : Nat), aidx a l i = none → aput l a v = l ++ [(a, v)] := by
        intro l
        induction l with
        | nil => intro i _; rfl
        | cons x r ih =>
          intro i h
          by_cases hxa : x.1 = a
          · simp [aidx, hxa] at h
          · simp only [aidx, hxa, if_false] at h
            simp [aput, hxa, ih _ h]
      rw [key l 0 hx]
      simp [hm]
  | some x =>
    obtain ⟨j, u⟩ := x
    rw [hx] at hf
    have key : ∀ (l : List (α × Int)) (es : List MapEntry) (i : Nat), es.map (fun x => (x.key, x.val)) = l.map (fun x => (Kv x.1, Value.int .i64 x.2)) → aidx a l i = some (j, u) →
        i ≤ j ∧ (es[j - i]?).map (·.key) = some (Kv a) ∧ (es.modify (j - i) fun e => { e with key := Kv a, val := .int .i64 v }).map (fun x => (x.key, x.val)) = (aput l a v).map (fun x => (Kv x.1, Value.int .i64 x.2)) := by
      intro l
      induction l with
      | nil => intro es i _ h; simp [aidx] at h
      | cons x r ih =>
        intro es i hme h
        cases es with
        | nil => simp at hme
        | cons y es =>
          simp only [List.map_cons, List.cons.injEq, Prod.mk.injEq] at hme
          obtain ⟨⟨h1, h2⟩, h3⟩ := hme
          by_cases hxa : x.1 = a
          · simp only [aidx, hxa, if_true, Option.some.injEq, Prod.mk.injEq] at h
            obtain ⟨rfl, rfl⟩ := h
            subst hxa
            simp [aput, h1, h3, List.modify_cons]
          · simp only [aidx, hxa, if_false] at h
            obtain ⟨g1, g2, g3⟩ := ih es (i + 1) h3 h
            have e1 : j - i = (j - (i + 1)) + 1 := by omega
            refine ⟨by omega, ?_, ?_⟩
            · rw [e1]; simpa using g2
            · rw [e1]
              simp only [List.modify_succ_cons, List.map_cons, aput, hxa, if_false, h1, h2, g3]
    obtain ⟨_, g2, g3⟩ := key l es.toList 0 hm hx
    rw [Nat.sub_zero] at g2 g3
    have hk : ((es[j]?).map (·.key)).getD (Kv a) = Kv a := by
      rw [← Array.getElem?_toList, g2]; rfl
    have hst : (Instr.keyThatStays (Kv a) (Kv a)).run P w = .ok (Kv a) w := by
      unfold Instr.keyThatStays; rw [K.same a]; rfl
    refine ⟨.map (es.modify j fun e => { e with key := Kv a, val := .int .i64 v }) clock, ?_, _, _, hput _, ?_⟩
    · unfold Instr.mapUpdate
      have hs := mrun_setObj (P := P) (.map (es.modify j fun e => { e with key := Kv a, val := .int .i64 v }) clock) hb
      simp [go_sem, hu, hg, hc, hf]
      rw [show (Option.map (fun x => x.key) es[j]?).getD (Kv a) = Kv a from hk]
      simp [go_sem, hst, hs]
      rfl
    · rw [Array.toList_modify]; exact g3
end
end Go
