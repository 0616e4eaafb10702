/-
  Maps whose entries are counted ('m[k]++'): the entry, and the store into it.
-/
import Derived.Test.YtboekafmplomhaaZMap
set_option linter.unusedVariables false
set_option linter.unusedSimpArgs false
set_option linter.unusedSectionVars false
namespace Go
open Go.RowKit

section
variable {α : Type} [DecidableEq α] {P : Program} {k t e : TypeId} {Kv : α → Value} {w : World} {b : Nat} {l : List (α × Int)} {kind : TypeDesc}

def ents (Kv : α → Value) : List α → Nat → List MapEntry
  | [], _ => []
  | a :: r, i => { key := Kv a, val := .int .i64 1, born := i } :: ents Kv r (i + 1)
theorem ents_length (Kv : α → Value) : ∀ (l : List α) (i : Nat), (ents Kv l i).length = l.length
  | [], _ => rfl
  | a :: r, i => by simp [ents, ents_length Kv r (i + 1)]
theorem ents_map (Kv : α → Value) : ∀ (l : List α) (i : Nat), (ents Kv l i).map (fun x => (x.key, x.val)) = (l.map (fun a => (a, (1 : Int)))).map (fun x => (Kv x.1, Value.int .i64 x.2))
  | [], _ => rfl
  | a :: r, i => by simp only [ents, List.map_cons, ents_map Kv r (i + 1)]
theorem ents_append (Kv : α → Value) (a : α) : ∀ (l : List α) (i : Nat), ents Kv (l ++ [a]) i = ents Kv l i ++ [{ key := Kv a, val := .int .i64 1, born := i + l.length }]
  | [], i => rfl
  | x :: r, i => by
    simp only [List.cons_append, ents, ents_append Kv a r (i + 1), List.length_cons]
    rw [show i + 1 + r.length = i + (r.length + 1) by omega]
theorem ents_born (Kv : α → Value) : ∀ (l : List α) (i j : Nat) (x : MapEntry), (ents Kv l i)[j]? = some x → x.born = i + j
  | [], _, _, _, h => by simp [ents] at h
  | a :: r, i, 0, x, h => by simp [ents] at h; subst h; rfl
  | a :: r, i, j + 1, x, h => by
    rw [ents, List.getElem?_cons_succ] at h
    have := ents_born Kv r (i + 1) j x h
    omega
theorem aidx_none (a : α) : ∀ (l : List α) (i : Nat), a ∉ l → aidx a (l.map (fun a => (a, (1 : Int)))) i = none
  | [], _, _ => rfl
  | x :: r, i, h => by
    have h1 : ¬ x = a := fun e => h (by simp [e])
    simp only [List.map_cons, aidx, h1, if_false]
    exact aidx_none a r (i + 1) (fun hm => h (by simp [hm]))
theorem aidx_some (a : α) : ∀ (l : List α) (i : Nat), a ∈ l → ∃ j, j < l.length ∧ aidx a (l.map (fun a => (a, (1 : Int)))) i = some (i + j, 1)
  | [], _, h => by simp at h
  | x :: r, i, h => by
    by_cases h1 : x = a
    · exact ⟨0, by simp, by simp [aidx, h1]⟩
    · have h2 : a ∈ r := by
        rcases List.mem_cons.1 h with e | e
        · exact absurd e.symm h1
        · exact e
      obtain ⟨j, h3, h4⟩ := aidx_some a r (i + 1) h2
      exact ⟨j + 1, by simp; omega, by simp only [List.map_cons, aidx, h1, if_false, h4]; congr 2; omega⟩
theorem modify_val (a : α) (v : Int) : ∀ (l : List (α × Int)) (es : List MapEntry) (i j : Nat) (u : Int), es.map (fun x => (x.key, x.val)) = l.map (fun x => (Kv x.1, Value.int .i64 x.2)) → aidx a l i = some (j, u) →
    i ≤ j ∧ (es[j - i]?).map (fun x => (x.key, x.val)) = some (Kv a, .int .i64 u) ∧ (es.modify (j - i) fun e => { e with val := .int .i64 v }).map (fun x => (x.key, x.val)) = (aput l a v).map (fun x => (Kv x.1, Value.int .i64 x.2)) := by
  intro l
  induction l with
  | nil => intro es i j u _ h; simp [aidx] at h
  | cons x r ih =>
    intro es i j u hme h
    cases es with
    | nil => simp at hme
    | cons y es =>
      simp only [List.map_cons, List.cons.injEq, Prod.mk.injEq] at hme
      obtain ⟨⟨h1, h2⟩, h3⟩ := hme
      by_cases hxa : x.1 = a
      · simp only [aidx, hxa, if_true, Option.some.injEq, Prod.mk.injEq] at h
        obtain ⟨rfl, rfl⟩ := h
        subst hxa
        simp [aput, h1, h2, h3, List.modify_cons]
      · simp only [aidx, hxa, if_false] at h
        obtain ⟨g1, g2, g3⟩ := ih es (i + 1) j u h3 h
        have e1 : j - i = (j - (i + 1)) + 1 := by omega
        refine ⟨by omega, ?_, ?_⟩
        · rw [e1]; simpa using g2
        · rw [e1]
          simp only [List.modify_succ_cons, List.map_cons, aput, hxa, if_false, h1, h2, g3]

/-- Block b is a map in which each of the keys has come once. -/
def ByIs (Kv : α → Value) (w : World) (b : Nat) (l : List α) : Prop := w.heap[b]? = some (.map (ents Kv l 0).toArray l.length)
theorem ByIs.map {ls : List α} (h : ByIs Kv w b ls) : MapIs Kv w b (ls.map (fun a => (a, (1 : Int)))) := ⟨_, _, h, by simpa using ents_map Kv ls 0⟩
theorem ByIs.keep {w' : World} {ls : List α} (h : ByIs Kv w b ls) (hk : w'.heap[b]? = w.heap[b]?) : ByIs Kv w' b ls := by unfold ByIs at *; rw [hk]; exact h
theorem modify_end {β : Type} (f : β → β) (x : β) : ∀ l : List β, (l ++ [x]).modify l.length f = l ++ [f x]
  | [] => rfl
  | a :: r => by simp [List.modify_succ_cons, modify_end f x r]
theorem putObj_twice (w : World) (b : Nat) (o o' : Obj) : (w.putObj b o).putObj b o' = w.putObj b o' := by
  simp [World.putObj]
theorem heap_putObj_same {w : World} {b : Nat} (h : b < w.heap.size) (o : Obj) : (w.putObj b o).heap[b]? = some o := by simp [World.putObj, h]
theorem findIdx_at {es : Array MapEntry} {n : Nat} {x : MapEntry} (h1 : es[n]? = some x) (hx : x.born = n) (h2 : ∀ (j : Nat) (y : MapEntry), es[j]? = some y → y.born = j) : es.findIdx? (fun e => ((e.born : Nat) : Int) == ((n : Nat) : Int)) = some n := by
  have hn := (Array.getElem?_eq_some_iff.1 h1).1
  rw [Array.findIdx?_eq_some_iff_getElem]
  refine ⟨hn, ?_, fun j hj => ?_⟩
  · have : es[n] = x := (Array.getElem?_eq_some_iff.1 h1).2
    rw [this, hx]
    simp
  · have := h2 j es[j] (by simp)
    rw [this]
    simp
    omega
/-- A new key's entry, and its count. -/
theorem entry_new (K : KeyOk P k kind Kv) (ht : P.underlying t = some (.map k e)) (hz : ∀ w, (zeroValue e).run P w = .ok (.int .i64 0) w) {ls : List α} (h : ByIs Kv w b ls) {a : α} (ha : a ∉ ls) :
    ∃ o1 o2, (Instr.mapEntry t (.map (some b)) (Kv a)).run P w = .ok (.tuple #[.int .i64 0, .int .i64 ls.length]) (w.putObj b o1) ∧ MapIs Kv (w.putObj b o1) b (aput (ls.map (fun a => (a, (1 : Int)))) a 0) ∧
      (Instr.entryStore t (.map (some b)) (.int .i64 ls.length) (.int .i64 1)).run P (w.putObj b o1) = .ok () (w.putObj b o2) ∧ ByIs Kv (w.putObj b o2) b (ls ++ [a]) := by
  have hu : (underlying t).run P w = .ok (.map k e) w := by simp [underlying, go_sem, ht]
  have hlt : b < w.heap.size := (Array.getElem?_eq_some_iff.1 h).1
  have hg := mrun_getObj (P := P) h
  have hc := K.check false a w
  have hf := findKey_run K a w (ls.map (fun a => (a, (1 : Int)))) (ents Kv ls 0).toArray.toList (by simpa using ents_map Kv ls 0)
  rw [aidx_none a ls 0 ha] at hf
  have hs := fun o => mrun_setObj (P := P) o h
  have hz := hz w
  refine ⟨.map ((ents Kv ls 0).toArray.push { key := Kv a, val := .int .i64 0, born := ls.length }) (ls.length + 1), .map (ents Kv (ls ++ [a]) 0).toArray (ls ++ [a]).length, ?_, ⟨_, _, heap_putObj_same hlt _, ?_⟩, ?_, heap_putObj_same hlt _⟩
  · unfold Instr.mapEntry
    simp [go_sem, hu, hg, hc, hf, hz, hs, goInt]
    rfl
  · have key : ∀ l : List (α × Int), (∀ x ∈ l, x.1 ≠ a) → aput l a 0 = l ++ [(a, 0)] := by
      intro l
      induction l with
      | nil => intro _; rfl
      | cons x r ih => intro hx; simp [aput, hx x (by simp), ih (fun y hy => hx y (by simp [hy]))]
    rw [key _ (fun x hx => by obtain ⟨y, hy, rfl⟩ := List.mem_map.1 hx; exact fun e => ha (e ▸ hy))]
    have := ents_map Kv ls 0
    simp only [Array.toList_push, List.map_append, this]
    rfl
  · have hg2 := mrun_getObj (P := P) (heap_putObj_same hlt (.map ((ents Kv ls 0).toArray.push { key := Kv a, val := .int .i64 0, born := ls.length }) (ls.length + 1)))
    have hs2 := fun o => mrun_setObj (P := P) o (heap_putObj_same hlt (.map ((ents Kv ls 0).toArray.push { key := Kv a, val := .int .i64 0, born := ls.length }) (ls.length + 1)))
    have hlen : (ents Kv ls 0).length = ls.length := ents_length Kv ls 0
    have hidx : ((ents Kv ls 0).toArray.push { key := Kv a, val := .int .i64 0, born := ls.length }).findIdx? (fun e => ((e.born : Nat) : Int) == ((ls.length : Nat) : Int)) = some ls.length := by
      refine findIdx_at (x := { key := Kv a, val := .int .i64 0, born := ls.length }) ?_ rfl (fun j y hy => ?_)
      · rw [Array.getElem?_push, if_pos (by simp [hlen])]
      · rw [Array.getElem?_push] at hy
        split at hy
        · rename_i hj
          cases hy
          simp [hlen] at hj
          exact hj.symm
        · have := ents_born Kv ls 0 j y (by simpa using hy)
          omega
    have hmod : ((ents Kv ls 0).toArray.push { key := Kv a, val := .int .i64 0, born := ls.length }).modify ls.length (fun e => { e with val := .int .i64 1 }) = (ents Kv (ls ++ [a]) 0).toArray := by
      apply Array.ext'
      rw [Array.toList_modify, Array.toList_push, ents_append]
      simp only [Nat.zero_add]
      rw [← hlen, modify_end]
    have htw := putObj_twice w b (.map ((ents Kv ls 0).toArray.push { key := Kv a, val := .int .i64 0, born := ls.length }) (ls.length + 1)) (.map (ents Kv (ls ++ [a]) 0).toArray (ls.length + 1))
    have hl2 : (ls ++ [a]).length = ls.length + 1 := by simp
    rw [hl2]
    generalize (ents Kv ls 0).toArray.push { key := Kv a, val := .int .i64 0, born := ls.length } = E1 at *
    generalize (ents Kv (ls ++ [a]) 0).toArray = E2 at *
    rw [← htw]
    generalize w.putObj b (.map E1 (ls.length + 1)) = w1 at *
    unfold Instr.entryStore
    simp [go_sem, hg2, asInt, asIntOf, hidx, hs2, hmod]
    rfl
/-- A key that has come: its count is two. -/
theorem entry_old (K : KeyOk P k kind Kv) (ht : P.underlying t = some (.map k e)) {ls : List α} (h : ByIs Kv w b ls) {a : α} (ha : a ∈ ls) :
    ∃ o1 o2 st, (Instr.mapEntry t (.map (some b)) (Kv a)).run P w = .ok (.tuple #[.int .i64 1, .int .i64 st]) (w.putObj b o1) ∧ MapIs Kv (w.putObj b o1) b (ls.map (fun a => (a, (1 : Int)))) ∧
      (Instr.entryStore t (.map (some b)) (.int .i64 st) (.int .i64 2)).run P (w.putObj b o1) = .ok () (w.putObj b o2) ∧ MapIs Kv (w.putObj b o2) b (aput (ls.map (fun a => (a, (1 : Int)))) a 2) := by
  have hu : (underlying t).run P w = .ok (.map k e) w := by simp [underlying, go_sem, ht]
  have hlt : b < w.heap.size := (Array.getElem?_eq_some_iff.1 h).1
  have hg := mrun_getObj (P := P) h
  have hc := K.check false a w
  have hm := ents_map Kv ls 0
  have hf := findKey_run K a w (ls.map (fun a => (a, (1 : Int)))) (ents Kv ls 0).toArray.toList (by simpa using hm)
  obtain ⟨j, hj, hx⟩ := aidx_some a ls 0 ha
  rw [Nat.zero_add] at hx
  rw [hx] at hf
  obtain ⟨_, g2, g3⟩ := modify_val a 2 _ _ 0 j 1 hm hx
  rw [Nat.sub_zero] at g2 g3
  have hlen : (ents Kv ls 0).length = ls.length := ents_length Kv ls 0
  obtain ⟨x, hxj⟩ : ∃ x, (ents Kv ls 0)[j]? = some x := ⟨_, List.getElem?_eq_getElem (by omega)⟩
  rw [hxj] at g2
  simp only [Option.map_some, Option.some.injEq, Prod.mk.injEq] at g2
  have hb := ents_born Kv ls 0 j x hxj
  rw [Nat.zero_add] at hb
  have hs := fun o => mrun_setObj (P := P) o h
  have hst : (Instr.keyThatStays (Kv a) (Kv a)).run P w = .ok (Kv a) w := by
    unfold Instr.keyThatStays; rw [K.same a]; rfl
  have hk1 : ((ents Kv ls 0).toArray.modify j fun e => { e with key := Kv a }) = (ents Kv ls 0).toArray := by
    apply Array.ext'
    rw [Array.toList_modify]
    apply List.ext_getElem?
    intro i
    rw [List.getElem?_modify]
    by_cases e : j = i
    · subst e
      simp only [hxj, if_true, Option.map_some]
      rw [← g2.1]
      rfl
    · simp only [if_neg e]
      cases (ents Kv ls 0)[i]? <;> rfl
  refine ⟨.map (ents Kv ls 0).toArray ls.length, .map ((ents Kv ls 0).toArray.modify j fun e => { e with val := .int .i64 2 }) ls.length, j, ?_, ⟨_, _, heap_putObj_same hlt _, by simpa using hm⟩, ?_, ⟨_, _, heap_putObj_same hlt _, by rw [Array.toList_modify]; exact g3⟩⟩
  · unfold Instr.mapEntry
    have hxj' : ((ents Kv ls 0).toArray)[j]? = some x := by simpa using hxj
    generalize (ents Kv ls 0).toArray = E1 at *
    have e1 : (Option.map (fun x => x.key) E1[j]?).getD (Kv a) = Kv a := by rw [hxj']; exact g2.1
    have e2 : (Option.map (fun x => ((x.born : Nat) : Int)) E1[j]?).getD 0 = (j : Int) := by rw [hxj']; exact congrArg _ hb
    simp [go_sem, hu, hg, hc, hf, goInt]
    rw [e1, e2]
    simp [go_sem, hst, hk1, hs]
    rfl
  · have hg2 := mrun_getObj (P := P) (heap_putObj_same hlt (.map (ents Kv ls 0).toArray ls.length))
    have hs2 := fun o => mrun_setObj (P := P) o (heap_putObj_same hlt (.map (ents Kv ls 0).toArray ls.length))
    have hidx : (ents Kv ls 0).toArray.findIdx? (fun e => ((e.born : Nat) : Int) == ((j : Nat) : Int)) = some j :=
      findIdx_at (x := x) (by simpa using hxj) hb (fun i y hy => by have := ents_born Kv ls 0 i y (by simpa using hy); omega)
    have htw := putObj_twice w b (.map (ents Kv ls 0).toArray ls.length) (.map ((ents Kv ls 0).toArray.modify j fun e => { e with val := .int .i64 2 }) ls.length)
    generalize (ents Kv ls 0).toArray = E1 at *
    rw [← htw]
    generalize w.putObj b (.map E1 ls.length) = w1 at *
    unfold Instr.entryStore
    simp [go_sem, hg2, asInt, asIntOf, hidx, hs2]
    rfl
end
end Go
