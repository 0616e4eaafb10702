/-
  Maps with whole numbers as elements, whatever their keys: a block that holds a list of keys and numbers.
-/
import Derived.Test.YtidnhnfmbebeaaaZR
import Derived.Maps.OwnOps
import Derived.ArgAppend
set_option linter.unusedVariables false
set_option linter.unusedSimpArgs false
namespace Go
open Go.RowKit

section
variable {α : Type} [DecidableEq α] {P : Program} {k t e : TypeId} {Kv : α → Value} {w : World} {b : Nat} {l : List (α × Int)} {kind : TypeDesc}

/-- What a key's type must give: keys are checked, held against each other, and stay. -/
structure KeyOk (P : Program) (k : TypeId) (kind : TypeDesc) (Kv : α → Value) : Prop where
  und : P.underlying k = some kind
  check : ∀ em a w, (Instr.checkKey em 10000 k (Kv a)).run P w = .ok () w
  now : ∀ a b, Instr.sameNow kind (Kv a) (Kv b) = none ∨ Instr.sameNow kind (Kv a) (Kv b) = some (decide (a = b))
  eq : ∀ a b w, (Op.equal k (Kv a) (Kv b)).run P w = .ok (decide (a = b)) w
  same : ∀ a, Instr.sameBits 10000 (Kv a) (Kv a) = true

/-- What the list has of a key; the list with a key's number put. -/
def aget (l : List (α × Int)) (a : α) : Option Int := (l.find? (fun x => decide (x.1 = a))).map (·.2)
def aput : List (α × Int) → α → Int → List (α × Int)
  | [], a, v => [(a, v)]
  | x :: r, a, v => if x.1 = a then (a, v) :: r else x :: aput r a v
theorem aget_aput (a c : α) (v : Int) : ∀ l : List (α × Int), aget (aput l a v) c = if a = c then some v else aget l c
  | [] => by by_cases h : a = c <;> simp [aget, aput, h]
  | x :: r => by
    have ih := aget_aput a c v r
    unfold aget at *
    by_cases h : x.1 = a
    · by_cases hc : a = c
      · subst hc; simp [aput, h]
      · have : ¬ x.1 = c := fun e => hc (h ▸ e)
        simp [aput, h, hc, List.find?_cons]
    · by_cases hc : x.1 = c
      · have : ¬ a = c := fun e => h (hc.trans e.symm)
        rw [show aput (x :: r) a v = x :: aput r a v by simp [aput, h]]
        simp [hc, this, List.find?_cons]
      · simp only [aput, h, if_false, List.find?_cons, hc, decide_false]
        exact ih
theorem aput_length (a : α) (v : Int) : ∀ l : List (α × Int), (aput l a v).length ≤ l.length + 1
  | [] => by simp [aput]
  | x :: r => by have := aput_length a v r; by_cases h : x.1 = a <;> simp [aput, h]; omega

/-- Block b is a map that holds the list. -/
def MapIs (Kv : α → Value) (w : World) (b : Nat) (l : List (α × Int)) : Prop :=
  ∃ es clock, w.heap[b]? = some (.map es clock) ∧ es.toList.map (fun x => (x.key, x.val)) = l.map (fun x => (Kv x.1, Value.int .i64 x.2))

/-- Where the first entry of a key lies. -/
def aidx (a : α) : List (α × Int) → Nat → Option (Nat × Int)
  | [], _ => none
  | x :: r, i => if x.1 = a then some (i, x.2) else aidx a r (i + 1)
theorem aidx_aget (a : α) : ∀ (l : List (α × Int)) (i : Nat), (aidx a l i).map (·.2) = aget l a
  | [], i => rfl
  | x :: r, i => by
    unfold aget
    by_cases h : x.1 = a
    · simp [aidx, h]
    · have := aidx_aget a r (i + 1)
      unfold aget at this
      simp [aidx, h, this]

theorem findNow_run (K : KeyOk P k kind Kv) (a : α) : ∀ (l : List (α × Int)) (es : List MapEntry) (i : Nat), es.map (fun x => (x.key, x.val)) = l.map (fun x => (Kv x.1, Value.int .i64 x.2)) →
    Instr.findNow kind (Kv a) es i = none ∨ Instr.findNow kind (Kv a) es i = some ((aidx a l i).map fun x => (x.1, Value.int .i64 x.2))
  | [], [], i, _ => .inr rfl
  | x :: r, y :: es, i, h => by
    simp only [List.map_cons, List.cons.injEq, Prod.mk.injEq] at h
    obtain ⟨⟨h1, h2⟩, h3⟩ := h
    unfold Instr.findNow
    rw [h1]
    rcases K.now a x.1 with e | e
    · rw [e]; exact .inl rfl
    · rw [e]
      by_cases hx : a = x.1
      · subst hx
        simp [aidx, h2]
      · have hx' : ¬ x.1 = a := fun e => hx e.symm
        simp only [hx, decide_false, aidx, hx', if_false]
        exact findNow_run K a r es (i + 1) h3
  | [], _ :: _, _, h => by simp at h
  | _ :: _, [], _, h => by simp at h

theorem findAsking_run (K : KeyOk P k kind Kv) (a : α) (w : World) : ∀ (l : List (α × Int)) (es : List MapEntry) (i : Nat), es.map (fun x => (x.key, x.val)) = l.map (fun x => (Kv x.1, Value.int .i64 x.2)) →
    (Instr.findAsking k (Kv a) es i).run P w = .ok ((aidx a l i).map fun x => (x.1, Value.int .i64 x.2)) w
  | [], [], i, _ => rfl
  | x :: r, y :: es, i, h => by
    simp only [List.map_cons, List.cons.injEq, Prod.mk.injEq] at h
    obtain ⟨⟨h1, h2⟩, h3⟩ := h
    have he := K.eq a x.1 w
    rw [← h1] at he
    unfold Instr.findAsking
    simp [go_sem, he]
    by_cases hx : a = x.1
    · subst hx
      simp [aidx, h2, go_sem]
    · have hx' : ¬ x.1 = a := fun e => hx e.symm
      simp only [hx, decide_false, aidx, hx', if_false, Bool.false_eq_true]
      exact findAsking_run K a w r es (i + 1) h3
  | [], _ :: _, _, h => by simp at h
  | _ :: _, [], _, h => by simp at h

theorem findKey_run (K : KeyOk P k kind Kv) (a : α) (w : World) (l : List (α × Int)) (es : List MapEntry) (h : es.map (fun x => (x.key, x.val)) = l.map (fun x => (Kv x.1, Value.int .i64 x.2))) :
    (Instr.findKey k (Kv a) es).run P w = .ok ((aidx a l 0).map fun x => (x.1, Value.int .i64 x.2)) w := by
  have hu : (underlying k).run P w = .ok kind w := by simp [underlying, go_sem, K.und]
  unfold Instr.findKey
  simp [go_sem, hu]
  rcases findNow_run K a l es 0 h with e | e
  · rw [e]; exact findAsking_run K a w l es 0 h
  · rw [e]; rfl

theorem mrun_getObj {w : World} {b : Nat} {es : Array MapEntry} {clock : Nat} (h : w.heap[b]? = some (.map es clock)) : (getObj b).run P w = .ok (.map es clock) w := by
  simp [getObj, Sem.run, h]
theorem mrun_setObj {w : World} {b : Nat} {es : Array MapEntry} {clock : Nat} (o : Obj) (h : w.heap[b]? = some (.map es clock)) : (setObj b o).run P w = .ok () { w with heap := w.heap.setIfInBounds b o } := by
  simp [setObj, Sem.run, h]

/-- A block put in place of another one. -/
def World.putOwn (w : World) (b : Nat) (o : Obj) : World := { w with heap := w.heap.setIfInBounds b o }

/-- 'v, ok := m[k]'. -/
theorem lookup_run (K : KeyOk P k kind Kv) (ht : P.underlying t = some (.map k e)) (hz : (zeroValue e).run P w = .ok (.int .i64 0) w) (h : MapIs Kv w b l) (a : α) (ok : Bool) :
    (Instr.lookup t (.map (some b)) (Kv a) ok).run P w = .ok (if ok then .tuple #[.int .i64 ((aget l a).getD 0), .bool (aget l a).isSome] else .int .i64 ((aget l a).getD 0)) w := by
  obtain ⟨es, clock, hb, hm⟩ := h
  have hu : (underlying t).run P w = .ok (.map k e) w := by simp [underlying, go_sem, ht]
  have hg := mrun_getObj (P := P) hb
  have hc := K.check es.isEmpty a w
  have hf := findKey_run K a w l es.toList hm
  have hi := aidx_aget a l 0
  unfold Instr.lookup
  cases hx : aidx a l 0 with
  | none =>
    rw [hx] at hf hi
    simp at hi
    simp [go_sem, hu, hg, hc, hf, hz, ← hi]
  | some x =>
    rw [hx] at hf hi
    simp at hi
    simp [go_sem, hu, hg, hc, hf, ← hi]

/-- 'm[k] = v'. -/
theorem update_run (K : KeyOk P k kind Kv) (ht : P.underlying t = some (.map k e)) (h : MapIs Kv w b l) (a : α) (v : Int) :
    ∃ o, (Instr.mapUpdate t (.map (some b)) (Kv a) (.int .i64 v)).run P w = .ok () (w.putOwn b o) ∧ MapIs Kv (w.putOwn b o) b (aput l a v) := by
  obtain ⟨es, clock, hb, hm⟩ := h
  have hu : (underlying t).run P w = .ok (.map k e) w := by simp [underlying, go_sem, ht]
  have hg := mrun_getObj (P := P) hb
  have hc := K.check false a w
  have hf := findKey_run K a w l es.toList hm
  have hlt : b < w.heap.size := (Array.getElem?_eq_some_iff.1 hb).1
  have hput : ∀ o, (w.putOwn b o).heap[b]? = some o := fun o => by simp [World.putOwn, hlt]
  cases hx : aidx a l 0 with
  | none =>
    rw [hx] at hf
    refine ⟨.map (es.push { key := Kv a, val := .int .i64 v, born := clock }) (clock + 1), ?_, _, _, hput _, ?_⟩
    · unfold Instr.mapUpdate
      have hs := mrun_setObj (P := P) (.map (es.push { key := Kv a, val := .int .i64 v, born := clock }) (clock + 1)) hb
      simp [go_sem, hu, hg, hc, hf, hs]
      rfl
    · have key : ∀ (l : List (α × Int)) (i : Nat), aidx a l i = none → aput l a v = l ++ [(a, v)] := by
        intro l
        induction l with
        | nil => intro i _; rfl
        | cons x r ih =>
          intro i h
          by_cases hxa : x.1 = a
          · simp [aidx, hxa] at h
          · simp only [aidx, hxa, if_false] at h
            simp [aput, hxa, ih _ h]
      rw [key l 0 hx]
      simp [hm]
  | some x =>
    obtain ⟨j, u⟩ := x
    rw [hx] at hf
    have key : ∀ (l : List (α × Int)) (es : List MapEntry) (i : Nat), es.map (fun x => (x.key, x.val)) = l.map (fun x => (Kv x.1, Value.int .i64 x.2)) → aidx a l i = some (j, u) →
        i ≤ j ∧ (es[j - i]?).map (·.key) = some (Kv a) ∧ (es.modify (j - i) fun e => { e with key := Kv a, val := .int .i64 v }).map (fun x => (x.key, x.val)) = (aput l a v).map (fun x => (Kv x.1, Value.int .i64 x.2)) := by
      intro l
      induction l with
      | nil => intro es i _ h; simp [aidx] at h
      | cons x r ih =>
        intro es i hme h
        cases es with
        | nil => simp at hme
        | cons y es =>
          simp only [List.map_cons, List.cons.injEq, Prod.mk.injEq] at hme
          obtain ⟨⟨h1, h2⟩, h3⟩ := hme
          by_cases hxa : x.1 = a
          · simp only [aidx, hxa, if_true, Option.some.injEq, Prod.mk.injEq] at h
            obtain ⟨rfl, rfl⟩ := h
            subst hxa
            simp [aput, h1, h3, List.modify_cons]
          · simp only [aidx, hxa, if_false] at h
            obtain ⟨g1, g2, g3⟩ := ih es (i + 1) h3 h
            have e1 : j - i = (j - (i + 1)) + 1 := by omega
            refine ⟨by omega, ?_, ?_⟩
            · rw [e1]; simpa using g2
            · rw [e1]
              simp only [List.modify_succ_cons, List.map_cons, aput, hxa, if_false, h1, h2, g3]
    obtain ⟨_, g2, g3⟩ := key l es.toList 0 hm hx
    rw [Nat.sub_zero] at g2 g3
    have hk : ((es[j]?).map (·.key)).getD (Kv a) = Kv a := by
      rw [← Array.getElem?_toList, g2]; rfl
    have hst : (Instr.keyThatStays (Kv a) (Kv a)).run P w = .ok (Kv a) w := by
      unfold Instr.keyThatStays; rw [K.same a]; rfl
    refine ⟨.map (es.modify j fun e => { e with key := Kv a, val := .int .i64 v }) clock, ?_, _, _, hput _, ?_⟩
    · unfold Instr.mapUpdate
      have hs := mrun_setObj (P := P) (.map (es.modify j fun e => { e with key := Kv a, val := .int .i64 v }) clock) hb
      simp [go_sem, hu, hg, hc, hf]
      rw [show (Option.map (fun x => x.key) es[j]?).getD (Kv a) = Kv a from hk]
      simp [go_sem, hst, hs]
      rfl
    · rw [Array.toList_modify]; exact g3
end
end Go
set_option linter.unusedVariables false
set_option linter.unusedSimpArgs false
namespace Go
open Go.RowKit

section
variable {P : Program} {w : World} {sv : Value} {G : Option Nat} {e : TypeId} {size n : Nat} {xs : List Value}

/-- The slice value sv holds n elements of 'size' cells each, xs; its row is block G. -/
def RowIs (w : World) (sv : Value) (G : Option Nat) (e : TypeId) (size n : Nat) (xs : List Value) : Prop :=
  xs.length = n * size ∧
  ((sv = .slice none 0 0 ∧ n = 0 ∧ G = none) ∨
   ∃ g cap cur, sv = .slice (some ⟨g, 0, none⟩) n cap ∧ G = some g ∧ w.heap[g]? = some (.cells cur e (0, 0)) ∧ n ≤ cap ∧ cap ≤ maxLen ∧ cur.size = cap * size ∧ cur.toList.take (n * size) = xs)

theorem RowIs.form (h : RowIs w sv G e size n xs) : ∃ a cap, sv = .slice a n cap ∧ n ≤ maxLen := by
  obtain ⟨_, ⟨h1, rfl, _⟩ | ⟨g, cap, cur, h1, _, _, h2, h3, _⟩⟩ := h
  · exact ⟨_, _, h1, Nat.zero_le _⟩
  · exact ⟨_, _, h1, Nat.le_trans h2 h3⟩
theorem RowIs.lt (h : RowIs w sv G e size n xs) : ∀ g, G = some g → g < w.heap.size := by
  rintro g rfl
  obtain ⟨_, ⟨_, _, h⟩ | ⟨g', cap, cur, _, h1, h2, _⟩⟩ := h
  · cases h
  · cases h1; exact (Array.getElem?_eq_some_iff.1 h2).1
theorem RowIs.keep {w' : World} (h : RowIs w sv G e size n xs) (hk : ∀ g, G = some g → w'.heap[g]? = w.heap[g]?) : RowIs w' sv G e size n xs := by
  obtain ⟨h0, h | ⟨g, cap, cur, h1, h2, h3, h4⟩⟩ := h
  · exact ⟨h0, .inl h⟩
  · exact ⟨h0, .inr ⟨g, cap, cur, h1, h2, by rw [hk g h2]; exact h3, h4⟩⟩
/-- An element's cells. -/
theorem RowIs.at (h : RowIs w sv G e size n xs) {i j : Nat} (hi : i < n) (hj : j < size) :
    ∃ g cap, sv = .slice (some ⟨g, 0, none⟩) n cap ∧ G = some g ∧ w.cell? ⟨g, i * size + j, none⟩ = xs[i * size + j]? ∧ w.frozen? ⟨g, i * size + j, none⟩ = false := by
  obtain ⟨h0, ⟨_, h, _⟩ | ⟨g, cap, cur, h1, h2, h3, h4, _, h5, h6⟩⟩ := h
  · omega
  · refine ⟨g, cap, h1, h2, ?_, by simp [World.frozen?, h3]⟩
    have hlt : i * size + j < n * size := by
      have : (i + 1) * size ≤ n * size := Nat.mul_le_mul_right _ hi
      rw [Nat.add_mul] at this; omega
    simp only [World.cell?, h3]
    rw [← h6, List.getElem?_take_of_lt hlt]
    simp

theorem append_row (t ty : TypeId) (i : TypeInfo) (z : Value) (bytes : Nat) (ht : P.underlying t = some (.slice e)) (hi : P.info? e = some i) (hz : i.zero = some z)
    (hsize : i.size = size) (hby : i.bytes = bytes) (hzs : z.cells.size = size) (hsz : 0 < size) (h : RowIs w sv G e size n xs)
    (a : Addr) (m c : Nat) (news : List Value) (hl : news.length = m * size) (hnews : ∀ j u, news[j]? = some u → w.cell? (a.add j) = some u) (h1 : ∀ u ∈ news, u.oneCell' = true) (hm : 0 < m)
    (h63 : n + m ≤ maxLen) (hbytes : (n + m) * bytes ≤ 140737488355328) :
    ∃ v' w' G', (Builtin.append_ #[t, t] ty #[sv, .slice (some a) m c]).run P w = .ok v' w' ∧ RowIs w' v' (some G') e size (n + m) (xs ++ news) ∧ w.grownBy w' G ∧ (G = some G' ∨ (w.heap.size ≤ G' ∧ G' < w'.heap.size)) := by
  have of_own : ∀ (v' : Value) (w' : World), w'.ownsRow w.heap.size e size v' (n + m) (xs ++ news) → ∃ G', RowIs w' v' (some G') e size (n + m) (xs ++ news) ∧ w.heap.size ≤ G' ∧ G' < w'.heap.size := by
    rintro v' w' ⟨q0, ⟨_, q⟩ | ⟨g, cap, cur, q1, q2, q3, q4, q5, q6, q7⟩⟩
    · omega
    · exact ⟨g, ⟨q0, .inr ⟨g, cap, cur, q1, rfl, q3, q4, q5, q6, q7⟩⟩, q2, (Array.getElem?_eq_some_iff.1 q3).1⟩
  obtain ⟨h0, ⟨rfl, rfl, rfl⟩ | ⟨g, cap, cur, rfl, rfl, h3, h4, h5, h6, h7⟩⟩ := h
  · have hxs : xs = [] := List.length_eq_zero_iff.1 (by rw [h0]; simp)
    subst hxs
    obtain ⟨v', w', r1, r2, r3, _⟩ := run_append_own w w.heap.size t ty e i z size bytes ht hi hz hsize hby hzs hsz (.slice none 0 0) 0 [] (World.ownsRow_nil w _ e size) a m c news hl hnews h1 h63 hbytes (Nat.le_refl _)
    obtain ⟨G', g1, g2⟩ := of_own v' w' r2
    exact ⟨v', w', G', r1, g1, r3, .inr g2⟩
  · by_cases hr : n + m ≤ cap
    · have hfit : n * i.size + news.length ≤ cur.size := by
        rw [hsize, hl, h6, ← Nat.add_mul]; exact Nat.mul_le_mul_right _ hr
      have hrun := run_append_room (P := P) w t ty e i ht hi g n cap cur h3 a m c news (by rw [hsize]; exact hl) hnews h1 hr hfit
      refine ⟨_, _, g, hrun, ⟨by rw [List.length_append, h0, hl, Nat.add_mul], .inr ⟨g, cap, _, rfl, rfl, setRow_heap w g cur _ e _ h3, hr, h5, ?_, ?_⟩⟩, ⟨rfl, rfl, rfl, by simp [World.setRow], fun k hk hne => ?_⟩, .inl rfl⟩
      · rw [hsize] at hfit ⊢
        simp; omega
      · rw [hsize] at hfit ⊢
        simp only [List.append_assoc, List.toList_toArray]
        have e1 : (n + m) * size = (List.take (n * size) cur.toList ++ news).length := by
          rw [h7, List.length_append, h0, hl, Nat.add_mul]
        rw [← List.append_assoc, e1, List.take_left, h7]
      · have : ¬ g = k := fun e => hne (by rw [e])
        simp [World.setRow, Array.getElem?_modify, this]
    · have holds : ∀ j u, xs[j]? = some u → w.cell? ((⟨g, 0, none⟩ : Addr).add j) = some u := fun j u hu => by
        have hj : j < n * size := by
          have := (List.getElem?_eq_some_iff.1 hu).1
          omega
        rw [← h7, List.getElem?_take_of_lt hj] at hu
        have ha : (⟨g, 0, none⟩ : Addr).add j = ⟨g, j, none⟩ := by
          unfold Addr.add; by_cases e : j = 0 <;> simp [e]
        rw [ha]
        simp only [World.cell?, h3]
        simpa using hu
      obtain ⟨v', w', r1, r2, r3⟩ := run_append_arg_grows (P := P) w t ty e i z size bytes ht hi hz hsize hby hzs hsz ⟨g, 0, none⟩ n cap xs h0 holds a m c news hl hnews (by omega) h63 hbytes
      obtain ⟨G', g1, g2⟩ := of_own v' w' r2
      exact ⟨v', w', G', r1, g1, ⟨r3.os, r3.tape, r3.output, r3.size, fun k hk _ => r3.block k hk (by simp)⟩, .inr g2⟩
end
end Go
set_option linter.unusedVariables false
set_option linter.unusedSimpArgs false
namespace Go.Proofs.Ytidnhnfmbebeaaa
open Go.RowKit

/-- What a call that works on a store does to the rest: nothing. -/
structure StoStep (w w' : World) (F F' : List Nat) : Prop where
  os : w'.os = w.os
  tape : w'.tape = w.tape
  output : w'.output = w.output
  size : w.heap.size ≤ w'.heap.size
  block : ∀ k, k < w.heap.size → k ∉ F → w'.heap[k]? = w.heap[k]?
  fresh : ∀ k ∈ F', k ∈ F ∨ (w.heap.size ≤ k ∧ k < w'.heap.size)

theorem StoStep.refl (w : World) (F : List Nat) : StoStep w w F F := ⟨rfl, rfl, rfl, Nat.le_refl _, fun _ _ _ => rfl, fun _ h => .inl h⟩
theorem StoStep.trans {a b c : World} {F F' F'' : List Nat} (h : StoStep a b F F') (k : StoStep b c F' F'') : StoStep a c F F'' :=
  ⟨k.os.trans h.os, k.tape.trans h.tape, k.output.trans h.output, Nat.le_trans h.size k.size,
   fun i hi hn => (k.block i (Nat.lt_of_lt_of_le hi h.size) (fun hm => (h.fresh i hm).elim hn (fun h' => by omega))).trans (h.block i hi hn),
   fun i hi => (k.fresh i hi).elim (fun h' => (h.fresh i h').elim .inl (fun h'' => .inr ⟨h''.1, Nat.lt_of_lt_of_le h''.2 k.size⟩)) (fun h' => .inr ⟨Nat.le_trans h.size h'.1, h'.2⟩)⟩
theorem StoStep.below {w w' : World} {F F' : List Nat} {B : Nat} (h : StoStep w w' F F') (hF : ∀ k ∈ F, B ≤ k) (hB : B ≤ w.heap.size) : Below B w w' :=
  ⟨h.os, h.tape, h.output, h.size, fun k hk => h.block k (by omega) (fun hm => by have := hF k hm; omega)⟩
theorem StoStep.of_below {w w' : World} {F : List Nat} (h : Below w.heap.size w w') : StoStep w w' F F :=
  ⟨h.os, h.tape, h.output, h.size, fun k hk _ => h.block k hk, fun _ h => .inl h⟩

end Go.Proofs.Ytidnhnfmbebeaaa
