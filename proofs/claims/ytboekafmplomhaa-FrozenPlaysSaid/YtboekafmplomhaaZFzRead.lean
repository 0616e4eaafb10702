/-
  Frozen bytes in plain Lean: what is read is of the form; the reader's nodes as a source.
-/
import Derived.Test.YtboekafmplomhaaZFzAllP
import Derived.Test.YtboekafmplomhaaZMap
import Derived.Test.YtboekafmplomhaaZMadeD
import Derived.Deep.CutBlock
set_option linter.unusedVariables false
set_option linter.unusedSimpArgs false
namespace Go.Proofs.Ytboekafmplomhaa

structure NsOk (ns : List Nd) : Prop where
  ok : ∀ (i : Nat) (x : Nd), ns[i]? = some x → 0 ≤ x.1 ∧ x.1 < 64 ∧ 0 ≤ x.2.1 ∧ x.2.1 < i + 2 ∧ 0 ≤ x.2.2 ∧ x.2.2 < i + 2 ∧ x.2.1 ≠ x.2.2 ∧ x.1 < topR ns x.2.1.toNat ∧ x.1 < topR ns x.2.2.toNat
theorem topR_more (ns ms : List Nd) {a : Nat} (h : a < ns.length + 2) : topR (ns ++ ms) a = topR ns a := by
  unfold topR
  split
  · rfl
  · rw [List.getElem?_append_left (by omega)]
theorem NsOk.nil : NsOk [] := ⟨fun i x h => by simp at h⟩
theorem NsOk.more {ns : List Nd} (h : NsOk ns) {v lo hi : Nat} (h1 : lo < ns.length + 2) (h2 : hi < ns.length + 2) (h3 : lo ≠ hi) (h4 : (v : Int) < min 64 (min (topR ns lo) (topR ns hi))) : NsOk (ns ++ [((v : Int), (lo : Int), (hi : Int))]) := by
  refine ⟨fun i x hx => ?_⟩
  rw [List.getElem?_append] at hx
  split at hx
  · obtain ⟨a1, a2, a3, a4, a5, a6, a7, a8, a9⟩ := h.ok i x hx
    have hi := (List.getElem?_eq_some_iff.1 hx).1
    exact ⟨a1, a2, a3, a4, a5, a6, a7, by rw [topR_more _ _ (by omega)]; exact a8, by rw [topR_more _ _ (by omega)]; exact a9⟩
  · rename_i hn
    have e : i - ns.length = 0 := by
      rcases Nat.eq_zero_or_pos (i - ns.length) with h | h
      · exact h
      · rw [List.getElem?_eq_none (by simp; omega)] at hx; cases hx
    rw [e] at hx
    simp at hx
    subst hx
    have hii : i = ns.length := by omega
    refine ⟨by simp, by simp; omega, by simp, by simp; omega, by simp, by simp; omega, by simp; omega, ?_, ?_⟩
    · show (v : Int) < topR (ns ++ _) (lo : Int).toNat
      rw [Int.toNat_natCast, topR_more _ _ h1]; omega
    · show (v : Int) < topR (ns ++ _) (hi : Int).toNat
      rw [Int.toNat_natCast, topR_more _ _ h2]; omega
theorem nodesG_ok : ∀ (m : Nat) (ns : List Nd) (l : List Nat) (ns' : List Nd) (l' : List Nat), nodesG m ns l = some (ns', l') → NsOk ns → NsOk ns' ∧ ns'.length = ns.length + m
  | 0, ns, l, ns', l', h, hn => by
    rw [nodesG] at h
    cases h
    exact ⟨hn, rfl⟩
  | m + 1, ns, [], ns', l', h, hn => by rw [nodesG] at h; cases h
  | m + 1, ns, v :: l1, ns', l', h, hn => by
    rw [nodesG] at h
    cases e1 : numV (ns.length + 2) l1 with
    | none => rw [e1] at h; cases h
    | some p =>
      obtain ⟨lo, l2⟩ := p
      rw [e1] at h
      simp only at h
      cases e2 : numV (ns.length + 2) l2 with
      | none => rw [e2] at h; cases h
      | some q =>
        obtain ⟨hi, l3⟩ := q
        rw [e2] at h
        simp only at h
        by_cases hc : lo = hi ∨ min 64 (min (topR ns lo) (topR ns hi)) ≤ (v : Int)
        · rw [if_pos hc] at h; cases h
        · rw [if_neg hc] at h
          have := nodesG_ok m _ l3 ns' l' h (hn.more (numV_len e1).2 (numV_len e2).2 (fun e => hc (.inl e)) (by have : ¬ min 64 (min (topR ns lo) (topR ns hi)) ≤ (v : Int) := fun q => hc (.inr q); omega))
          refine ⟨this.1, ?_⟩
          rw [this.2]
          simp
          omega
theorem rootsG_ok (bel : Nat) : ∀ (m : Nat) (rs : List Int) (l : List Nat) (rs' : List Int) (l' : List Nat), rootsG bel m rs l = some (rs', l') → (∀ r ∈ rs, 0 ≤ r ∧ r < bel) → (∀ r ∈ rs', 0 ≤ r ∧ r < bel) ∧ rs'.length = rs.length + m
  | 0, rs, l, rs', l', h, hr => by
    rw [rootsG] at h
    cases h
    exact ⟨hr, rfl⟩
  | m + 1, rs, l, rs', l', h, hr => by
    rw [rootsG] at h
    cases e1 : numV bel l with
    | none => rw [e1] at h; cases h
    | some p =>
      obtain ⟨a, l1⟩ := p
      rw [e1] at h
      simp only at h
      have ha := (numV_len e1).2
      have := rootsG_ok bel m _ l1 rs' l' h (fun r hr' => by
        rcases List.mem_append.1 hr' with q | q
        · exact hr r q
        · simp at q; subst q; omega)
      refine ⟨this.1, ?_⟩
      rw [this.2]
      simp
      omega
theorem parseV_ok {l : List Nat} {ns : List Nd} {rs : List Int} (h : parseV l = some (ns, rs)) : NsOk ns ∧ (∀ r ∈ rs, 0 ≤ r ∧ r < ns.length + 2) ∧ ns.length < 8388608 ∧ rs.length ≤ 64 := by
  unfold parseV at h
  cases e1 : numV 8388608 l with
  | none => rw [e1] at h; cases h
  | some p =>
    obtain ⟨m, l1⟩ := p
    rw [e1] at h
    simp only at h
    cases e2 : nodesG m [] l1 with
    | none => rw [e2] at h; cases h
    | some p =>
      obtain ⟨ns', l2⟩ := p
      rw [e2] at h
      simp only at h
      cases e3 : numV 65 l2 with
      | none => rw [e3] at h; cases h
      | some p =>
        obtain ⟨k, l3⟩ := p
        rw [e3] at h
        simp only at h
        cases e4 : rootsG (ns'.length + 2) k [] l3 with
        | none => rw [e4] at h; cases h
        | some p =>
          obtain ⟨rs', l4⟩ := p
          rw [e4] at h
          simp only at h
          split at h
          · cases h
            have a1 := nodesG_ok m [] l1 _ l2 e2 NsOk.nil
            have a2 := rootsG_ok _ k [] l3 _ l4 e4 (by simp)
            have b1 := (numV_len e1).2
            have b3 := (numV_len e3).2
            refine ⟨a1.1, fun r hr => by have := a2.1 r hr; omega, by rw [a1.2]; simp; omega, by rw [a2.2]; simp; omega⟩
          · cases h

/-- The reader's nodes as a source. -/
def atR (ns : List Nd) (a : Int) : Nd × Bool := if a < 2 then ((0, 0, 0), false) else ((ns[(a - 2).toNat]?).getD (0, 0, 0), true)
def okR (ns : List Nd) (a : Int) : Prop := 0 ≤ a ∧ a < ns.length + 2
theorem atR_yes {ns : List Nd} {a : Int} (ho : okR ns a) (h : (atR ns a).2 = true) : ∃ (i : Nat) (x : Nd), a = (i : Int) + 2 ∧ ns[i]? = some x ∧ atR ns a = (x, true) := by
  unfold atR at h ⊢
  split at h
  · cases h
  · rename_i h2
    obtain ⟨i, rfl⟩ : ∃ i : Nat, a = (i : Int) + 2 := ⟨(a - 2).toNat, by omega⟩
    have hi : i < ns.length := by unfold okR at ho; omega
    refine ⟨i, ns[i], rfl, List.getElem?_eq_getElem hi, ?_⟩
    rw [if_neg h2]
    have e : ((i : Int) + 2 - 2).toNat = i := by omega
    rw [e, List.getElem?_eq_getElem hi]
    rfl
theorem atR_lo {ns : List Nd} (hN : NsOk ns) (a : Int) (ho : okR ns a) (h : (atR ns a).2 = true) : (atR ns a).1.2.1.toNat < a.toNat ∧ okR ns (atR ns a).1.2.1 := by
  obtain ⟨i, x, rfl, hx, e⟩ := atR_yes ho h
  rw [e]
  obtain ⟨_, _, h3, h4, _⟩ := hN.ok i x hx
  unfold okR at *
  show x.2.1.toNat < _ ∧ 0 ≤ x.2.1 ∧ x.2.1 < _
  omega
theorem atR_hi {ns : List Nd} (hN : NsOk ns) (a : Int) (ho : okR ns a) (h : (atR ns a).2 = true) : (atR ns a).1.2.2.toNat < a.toNat ∧ okR ns (atR ns a).1.2.2 := by
  obtain ⟨i, x, rfl, hx, e⟩ := atR_yes ho h
  rw [e]
  obtain ⟨_, _, _, _, h5, h6, _⟩ := hN.ok i x hx
  unfold okR at *
  show x.2.2.toNat < _ ∧ 0 ≤ x.2.2 ∧ x.2.2 < _
  omega
def ordR (ns : List Nd) (rs : List Int) : List Nd × List Int := ordL (atR ns) (ns.length + 2) [(1, 1)] [] [] rs
def canV (ns : List Nd) (rs : List Int) : Bool := decide ns.Nodup && decide ((ordR ns rs).1 = ns)
end Go.Proofs.Ytboekafmplomhaa
set_option linter.unusedVariables false
set_option linter.unusedSimpArgs false
set_option linter.unusedSectionVars false
namespace Go
open Go.RowKit

section
variable {α : Type} [DecidableEq α] {P : Program} {k t e : TypeId} {Kv : α → Value} {w : World} {b : Nat} {l : List (α × Int)} {kind : TypeDesc}

def ents (Kv : α → Value) : List α → Nat → List MapEntry
  | [], _ => []
  | a :: r, i => { key := Kv a, val := .int .i64 1, born := i } :: ents Kv r (i + 1)
theorem ents_length (Kv : α → Value) : ∀ (l : List α) (i : Nat), (ents Kv l i).length = l.length
  | [], _ => rfl
  | a :: r, i => by simp [ents, ents_length Kv r (i + 1)]
theorem ents_map (Kv : α → Value) : ∀ (l : List α) (i : Nat), (ents Kv l i).map (fun x => (x.key, x.val)) = (l.map (fun a => (a, (1 : Int)))).map (fun x => (Kv x.1, Value.int .i64 x.2))
  | [], _ => rfl
  | a :: r, i => by simp only [ents, List.map_cons, ents_map Kv r (i + 1)]
theorem ents_append (Kv : α → Value) (a : α) : ∀ (l : List α) (i : Nat), ents Kv (l ++ [a]) i = ents Kv l i ++ [{ key := Kv a, val := .int .i64 1, born := i + l.length }]
  | [], i => rfl
  | x :: r, i => by
    simp only [List.cons_append, ents, ents_append Kv a r (i + 1), List.length_cons]
    rw [show i + 1 + r.length = i + (r.length + 1) by omega]
theorem ents_born (Kv : α → Value) : ∀ (l : List α) (i j : Nat) (x : MapEntry), (ents Kv l i)[j]? = some x → x.born = i + j
  | [], _, _, _, h => by simp [ents] at h
  | a :: r, i, 0, x, h => by simp [ents] at h; subst h; rfl
  | a :: r, i, j + 1, x, h => by
    rw [ents, List.getElem?_cons_succ] at h
    have := ents_born Kv r (i + 1) j x h
    omega
theorem aidx_none (a : α) : ∀ (l : List α) (i : Nat), a ∉ l → aidx a (l.map (fun a => (a, (1 : Int)))) i = none
  | [], _, _ => rfl
  | x :: r, i, h => by
    have h1 : ¬ x = a := fun e => h (by simp [e])
    simp only [List.map_cons, aidx, h1, if_false]
    exact aidx_none a r (i + 1) (fun hm => h (by simp [hm]))
theorem aidx_some (a : α) : ∀ (l : List α) (i : Nat), a ∈ l → ∃ j, j < l.length ∧ aidx a (l.map (fun a => (a, (1 : Int)))) i = some (i + j, 1)
  | [], _, h => by simp at h
  | x :: r, i, h => by
    by_cases h1 : x = a
    · exact ⟨0, by simp, by simp [aidx, h1]⟩
    · have h2 : a ∈ r := by
        rcases List.mem_cons.1 h with e | e
        · exact absurd e.symm h1
        · exact e
      obtain ⟨j, h3, h4⟩ := aidx_some a r (i + 1) h2
      exact ⟨j + 1, by simp; omega, by simp only [List.map_cons, aidx, h1, if_false, h4]; congr 2; omega⟩
theorem modify_val (a : α) (v : Int) : ∀ (l : List (α × Int)) (es : List MapEntry) (i j : Nat) (u : Int), es.map (fun x => (x.key, x.val)) = l.map (fun x => (Kv x.1, Value.int .i64 x.2)) → aidx a l i = some (j, u) →
    i ≤ j ∧ (es[j - i]?).map (fun x => (x.key, x.val)) = some (Kv a, .int .i64 u) ∧ (es.modify (j - i) fun e => { e with val := .int .i64 v }).map (fun x => (x.key, x.val)) = (aput l a v).map (fun x => (Kv x.1, Value.int .i64 x.2)) := by
  intro l
  induction l with
  | nil => intro es i j u _ h; simp [aidx] at h
  | cons x r ih =>
    intro es i j u hme h
    cases es with
    | nil => simp at hme
    | cons y es =>
      simp only [List.map_cons, List.cons.injEq, Prod.mk.injEq] at hme
      obtain ⟨⟨h1, h2⟩, h3⟩ := hme
      by_cases hxa : x.1 = a
      · simp only [aidx, hxa, if_true, Option.some.injEq, Prod.mk.injEq] at h
        obtain ⟨rfl, rfl⟩ := h
        subst hxa
        simp [aput, h1, h2, h3, List.modify_cons]
      · simp only [aidx, hxa, if_false] at h
        obtain ⟨g1, g2, g3⟩ := ih es (i + 1) j u h3 h
        have e1 : j - i = (j - (i + 1)) + 1 := by omega
        refine ⟨by omega, ?_, ?_⟩
        · rw [e1]; simpa using g2
        · rw [e1]
          simp only [List.modify_succ_cons, List.map_cons, aput, hxa, if_false, h1, h2, g3]

/-- Block b is a map in which each of the keys has come once. -/
def ByIs (Kv : α → Value) (w : World) (b : Nat) (l : List α) : Prop := w.heap[b]? = some (.map (ents Kv l 0).toArray l.length)
theorem ByIs.map {ls : List α} (h : ByIs Kv w b ls) : MapIs Kv w b (ls.map (fun a => (a, (1 : Int)))) := ⟨_, _, h, by simpa using ents_map Kv ls 0⟩
theorem ByIs.keep {w' : World} {ls : List α} (h : ByIs Kv w b ls) (hk : w'.heap[b]? = w.heap[b]?) : ByIs Kv w' b ls := by unfold ByIs at *; rw [hk]; exact h
theorem modify_end {β : Type} (f : β → β) (x : β) : ∀ l : List β, (l ++ [x]).modify l.length f = l ++ [f x]
  | [] => rfl
  | a :: r => by simp [List.modify_succ_cons, modify_end f x r]
theorem putObj_twice (w : World) (b : Nat) (o o' : Obj) : (w.putObj b o).putObj b o' = w.putObj b o' := by
  simp [World.putObj]
theorem heap_putObj_same {w : World} {b : Nat} (h : b < w.heap.size) (o : Obj) : (w.putObj b o).heap[b]? = some o := by simp [World.putObj, h]
theorem findIdx_at {es : Array MapEntry} {n : Nat} {x : MapEntry} (h1 : es[n]? = some x) (hx : x.born = n) (h2 : ∀ (j : Nat) (y : MapEntry), es[j]? = some y → y.born = j) : es.findIdx? (fun e => ((e.born : Nat) : Int) == ((n : Nat) : Int)) = some n := by
  have hn := (Array.getElem?_eq_some_iff.1 h1).1
  rw [Array.findIdx?_eq_some_iff_getElem]
  refine ⟨hn, ?_, fun j hj => ?_⟩
  · have : es[n] = x := (Array.getElem?_eq_some_iff.1 h1).2
    rw [this, hx]
    simp
  · have := h2 j es[j] (by simp)
    rw [this]
    simp
    omega
/-- A new key's entry, and its count. -/
theorem entry_new (K : KeyOk P k kind Kv) (ht : P.underlying t = some (.map k e)) (hz : ∀ w, (zeroValue e).run P w = .ok (.int .i64 0) w) {ls : List α} (h : ByIs Kv w b ls) {a : α} (ha : a ∉ ls) :
    ∃ o1 o2, (Instr.mapEntry t (.map (some b)) (Kv a)).run P w = .ok (.tuple #[.int .i64 0, .int .i64 ls.length]) (w.putObj b o1) ∧ MapIs Kv (w.putObj b o1) b (aput (ls.map (fun a => (a, (1 : Int)))) a 0) ∧
      (Instr.entryStore t (.map (some b)) (.int .i64 ls.length) (.int .i64 1)).run P (w.putObj b o1) = .ok () (w.putObj b o2) ∧ ByIs Kv (w.putObj b o2) b (ls ++ [a]) := by
  have hu : (underlying t).run P w = .ok (.map k e) w := by simp [underlying, go_sem, ht]
  have hlt : b < w.heap.size := (Array.getElem?_eq_some_iff.1 h).1
  have hg := mrun_getObj (P := P) h
  have hc := K.check false a w
  have hf := findKey_run K a w (ls.map (fun a => (a, (1 : Int)))) (ents Kv ls 0).toArray.toList (by simpa using ents_map Kv ls 0)
  rw [aidx_none a ls 0 ha] at hf
  have hs := fun o => mrun_setObj (P := P) o h
  have hz := hz w
  refine ⟨.map ((ents Kv ls 0).toArray.push { key := Kv a, val := .int .i64 0, born := ls.length }) (ls.length + 1), .map (ents Kv (ls ++ [a]) 0).toArray (ls ++ [a]).length, ?_, ⟨_, _, heap_putObj_same hlt _, ?_⟩, ?_, heap_putObj_same hlt _⟩
  · unfold Instr.mapEntry
    simp [go_sem, hu, hg, hc, hf, hz, hs, goInt]
    rfl
  · have key : ∀ l : List (α × Int), (∀ x ∈ l, x.1 ≠ a) → aput l a 0 = l ++ [(a, 0)] := by
      intro l
      induction l with
      | nil => intro _; rfl
      | cons x r ih => intro hx; simp [aput, hx x (by simp), ih (fun y hy => hx y (by simp [hy]))]
    rw [key _ (fun x hx => by obtain ⟨y, hy, rfl⟩ := List.mem_map.1 hx; exact fun e => ha (e ▸ hy))]
    have := ents_map Kv ls 0
    simp only [Array.toList_push, List.map_append, this]
    rfl
  · have hg2 := mrun_getObj (P := P) (heap_putObj_same hlt (.map ((ents Kv ls 0).toArray.push { key := Kv a, val := .int .i64 0, born := ls.length }) (ls.length + 1)))
    have hs2 := fun o => mrun_setObj (P := P) o (heap_putObj_same hlt (.map ((ents Kv ls 0).toArray.push { key := Kv a, val := .int .i64 0, born := ls.length }) (ls.length + 1)))
    have hlen : (ents Kv ls 0).length = ls.length := ents_length Kv ls 0
    have hidx : ((ents Kv ls 0).toArray.push { key := Kv a, val := .int .i64 0, born := ls.length }).findIdx? (fun e => ((e.born : Nat) : Int) == ((ls.length : Nat) : Int)) = some ls.length := by
      refine findIdx_at (x := { key := Kv a, val := .int .i64 0, born := ls.length }) ?_ rfl (fun j y hy => ?_)
      · rw [Array.getElem?_push, if_pos (by simp [hlen])]
      · rw [Array.getElem?_push] at hy
        split at hy
        · rename_i hj
          cases hy
          simp [hlen] at hj
          exact hj.symm
        · have := ents_born Kv ls 0 j y (by simpa using hy)
          omega
    have hmod : ((ents Kv ls 0).toArray.push { key := Kv a, val := .int .i64 0, born := ls.length }).modify ls.length (fun e => { e with val := .int .i64 1 }) = (ents Kv (ls ++ [a]) 0).toArray := by
      apply Array.ext'
      rw [Array.toList_modify, Array.toList_push, ents_append]
      simp only [Nat.zero_add]
      rw [← hlen, modify_end]
    have htw := putObj_twice w b (.map ((ents Kv ls 0).toArray.push { key := Kv a, val := .int .i64 0, born := ls.length }) (ls.length + 1)) (.map (ents Kv (ls ++ [a]) 0).toArray (ls.length + 1))
    have hl2 : (ls ++ [a]).length = ls.length + 1 := by simp
    rw [hl2]
    generalize (ents Kv ls 0).toArray.push { key := Kv a, val := .int .i64 0, born := ls.length } = E1 at *
    generalize (ents Kv (ls ++ [a]) 0).toArray = E2 at *
    rw [← htw]
    generalize w.putObj b (.map E1 (ls.length + 1)) = w1 at *
    unfold Instr.entryStore
    simp [go_sem, hg2, asInt, asIntOf, hidx, hs2, hmod]
    rfl
/-- A key that has come: its count is two. -/
theorem entry_old (K : KeyOk P k kind Kv) (ht : P.underlying t = some (.map k e)) {ls : List α} (h : ByIs Kv w b ls) {a : α} (ha : a ∈ ls) :
    ∃ o1 o2 st, (Instr.mapEntry t (.map (some b)) (Kv a)).run P w = .ok (.tuple #[.int .i64 1, .int .i64 st]) (w.putObj b o1) ∧ MapIs Kv (w.putObj b o1) b (ls.map (fun a => (a, (1 : Int)))) ∧
      (Instr.entryStore t (.map (some b)) (.int .i64 st) (.int .i64 2)).run P (w.putObj b o1) = .ok () (w.putObj b o2) ∧ MapIs Kv (w.putObj b o2) b (aput (ls.map (fun a => (a, (1 : Int)))) a 2) := by
  have hu : (underlying t).run P w = .ok (.map k e) w := by simp [underlying, go_sem, ht]
  have hlt : b < w.heap.size := (Array.getElem?_eq_some_iff.1 h).1
  have hg := mrun_getObj (P := P) h
  have hc := K.check false a w
  have hm := ents_map Kv ls 0
  have hf := findKey_run K a w (ls.map (fun a => (a, (1 : Int)))) (ents Kv ls 0).toArray.toList (by simpa using hm)
  obtain ⟨j, hj, hx⟩ := aidx_some a ls 0 ha
  rw [Nat.zero_add] at hx
  rw [hx] at hf
  obtain ⟨_, g2, g3⟩ := modify_val a 2 _ _ 0 j 1 hm hx
  rw [Nat.sub_zero] at g2 g3
  have hlen : (ents Kv ls 0).length = ls.length := ents_length Kv ls 0
  obtain ⟨x, hxj⟩ : ∃ x, (ents Kv ls 0)[j]? = some x := ⟨_, List.getElem?_eq_getElem (by omega)⟩
  rw [hxj] at g2
  simp only [Option.map_some, Option.some.injEq, Prod.mk.injEq] at g2
  have hb := ents_born Kv ls 0 j x hxj
  rw [Nat.zero_add] at hb
  have hs := fun o => mrun_setObj (P := P) o h
  have hst : (Instr.keyThatStays (Kv a) (Kv a)).run P w = .ok (Kv a) w := by
    unfold Instr.keyThatStays; rw [K.same a]; rfl
  have hk1 : ((ents Kv ls 0).toArray.modify j fun e => { e with key := Kv a }) = (ents Kv ls 0).toArray := by
    apply Array.ext'
    rw [Array.toList_modify]
    apply List.ext_getElem?
    intro i
    rw [List.getElem?_modify]
    by_cases e : j = i
    · subst e
      simp only [hxj, if_true, Option.map_some]
      rw [← g2.1]
      rfl
    · simp only [if_neg e]
      cases (ents Kv ls 0)[i]? <;> rfl
  refine ⟨.map (ents Kv ls 0).toArray ls.length, .map ((ents Kv ls 0).toArray.modify j fun e => { e with val := .int .i64 2 }) ls.length, j, ?_, ⟨_, _, heap_putObj_same hlt _, by simpa using hm⟩, ?_, ⟨_, _, heap_putObj_same hlt _, by rw [Array.toList_modify]; exact g3⟩⟩
  · unfold Instr.mapEntry
    have hxj' : ((ents Kv ls 0).toArray)[j]? = some x := by simpa using hxj
    generalize (ents Kv ls 0).toArray = E1 at *
    have e1 : (Option.map (fun x => x.key) E1[j]?).getD (Kv a) = Kv a := by rw [hxj']; exact g2.1
    have e2 : (Option.map (fun x => ((x.born : Nat) : Int)) E1[j]?).getD 0 = (j : Int) := by rw [hxj']; exact congrArg _ hb
    simp [go_sem, hu, hg, hc, hf, goInt]
    rw [e1, e2]
    simp [go_sem, hst, hk1, hs]
    rfl
  · have hg2 := mrun_getObj (P := P) (heap_putObj_same hlt (.map (ents Kv ls 0).toArray ls.length))
    have hs2 := fun o => mrun_setObj (P := P) o (heap_putObj_same hlt (.map (ents Kv ls 0).toArray ls.length))
    have hidx : (ents Kv ls 0).toArray.findIdx? (fun e => ((e.born : Nat) : Int) == ((j : Nat) : Int)) = some j :=
      findIdx_at (x := x) (by simpa using hxj) hb (fun i y hy => by have := ents_born Kv ls 0 i y (by simpa using hy); omega)
    have htw := putObj_twice w b (.map (ents Kv ls 0).toArray ls.length) (.map ((ents Kv ls 0).toArray.modify j fun e => { e with val := .int .i64 2 }) ls.length)
    generalize (ents Kv ls 0).toArray = E1 at *
    rw [← htw]
    generalize w.putObj b (.map E1 ls.length) = w1 at *
    unfold Instr.entryStore
    simp [go_sem, hg2, asInt, asIntOf, hidx, hs2]
    rfl
end
end Go
set_option linter.unusedVariables false
set_option linter.unusedSimpArgs false
namespace Go.Proofs.Ytboekafmplomhaa
open Go.RowKit

theorem RowIs.neE {w : World} {sv sv' : Value} {g g' : Nat} {e e' : TypeId} {s s' n n' : Nat} {xs xs' : List Value} (h : RowIs w sv (some g) e s n xs) (h' : RowIs w sv' (some g') e' s' n' xs') (he : e ≠ e') : g ≠ g' := by
  obtain ⟨_, ⟨_, _, q⟩ | ⟨k, cap, cur, _, q, r, _⟩⟩ := h
  · cases q
  · obtain ⟨_, ⟨_, _, q'⟩ | ⟨k', cap', cur', _, q', r', _⟩⟩ := h'
    · cases q'
    · cases q
      cases q'
      intro e
      subst e
      rw [r] at r'
      injection r' with r'
      injection r' with _ r2 _
      exact he r2
/-- The reader in memory. -/
structure Rdr (B : Nat) (w : World) (R b off n c : Nat) (l : List Nat) (j : Nat) (bad : Bool) (ns : List Nd) (rs : List Int) (nv rv : Value) (G1 G2 : Option Nat) : Prop where
  cur : CurS w b off n c l
  blk : Blk w R 150 [curV b off n c j, .bool bad, nv, rv]
  nrow : RowIs w nv G1 39 3 ns.length (flat ns)
  rrow : RowIs w rv G2 3 1 rs.length (ints rs)
  hj : j ≤ n
  bB : b < B
  RB : B ≤ R
  g1 : ∀ g, G1 = some g → B ≤ g ∧ g ≠ R
  g2 : ∀ g, G2 = some g → B ≤ g ∧ g ≠ R
section
variable {B : Nat} {w w' : World} {R b off n c j j' : Nat} {l : List Nat} {bad bad' : Bool} {ns : List Nd} {rs : List Int} {nv rv : Value} {G1 G2 : Option Nat}
theorem Rdr.bR (h : Rdr B w R b off n c l j bad ns rs nv rv G1 G2) : b ≠ R := by have := h.bB; have := h.RB; omega
theorem Rdr.below (h : Rdr B w R b off n c l j bad ns rs nv rv G1 G2) (hb : Below w.heap.size w w') : Rdr B w' R b off n c l j bad ns rs nv rv G1 G2 :=
  { h with
    cur := h.cur.keep (hb.block _ h.cur.lt) (Nat.lt_of_lt_of_le h.cur.lt hb.size)
    blk := h.blk.below hb
    nrow := RowIs.keep h.nrow (fun g hg => hb.block g (RowIs.lt h.nrow g hg))
    rrow := RowIs.keep h.rrow (fun g hg => hb.block g (RowIs.lt h.rrow g hg)) }
theorem Rdr.move (h : Rdr B w R b off n c l j bad ns rs nv rv G1 G2) (hj : j' ≤ n) : Rdr B (w.setRow R (curV b off n c j' :: .bool bad' :: [nv, rv]).toArray) R b off n c l j' bad' ns rs nv rv G1 G2 :=
  { h with
    cur := h.cur.keep (heap_setRow_ne _ (fun q => h.bR q.symm)) (by simpa [World.setRow] using h.cur.lt)
    blk := h.blk.row _
    nrow := RowIs.keep h.nrow (fun g hg => heap_setRow_ne _ (fun q => (h.g1 g hg).2 q.symm))
    rrow := RowIs.keep h.rrow (fun g hg => heap_setRow_ne _ (fun q => (h.g2 g hg).2 q.symm))
    hj := hj }
theorem Rdr.far (h : Rdr B w R b off n c l j bad ns rs nv rv G1 G2) {Bx : Nat} (hR : Bx ≠ R) (hb : Bx ≠ b) (h1 : ∀ g, G1 = some g → g ≠ Bx) (h2 : ∀ g, G2 = some g → g ≠ Bx) (i : Nat) (v : Value) : Rdr B (w.setCell ⟨Bx, i, none⟩ v) R b off n c l j bad ns rs nv rv G1 G2 :=
  { h with
    cur := h.cur.keep (Below.heap_setCell _ _ _ _ (fun e => hb e.symm)) (by simpa using h.cur.lt)
    blk := h.blk.far hR i v
    nrow := RowIs.keep h.nrow (fun g hg => Below.heap_setCell _ _ _ _ (h1 g hg))
    rrow := RowIs.keep h.rrow (fun g hg => Below.heap_setCell _ _ _ _ (h2 g hg)) }
theorem Rdr.gg (h : Rdr B w R b off n c l j bad ns rs nv rv G1 G2) : ∀ g g', G1 = some g → G2 = some g' → g ≠ g' := fun g g' h1 h2 => by
  have r1 := h.nrow
  have r2 := h.rrow
  rw [h1] at r1
  rw [h2] at r2
  exact RowIs.neE r1 r2 (by decide)
theorem Rdr.node (h : Rdr B w R b off n c l j bad ns rs nv rv G1 G2) {w1 : World} {v' : Value} {G' : Nat} {ms : List Nd} (r : RowIs w1 v' (some G') 39 3 ms.length (flat ms)) (hg : G1 = some G' ∨ w.heap.size ≤ G')
    (st : StoStep w w1 G1.toList [G']) (hB : B ≤ w.heap.size) : Rdr B (w1.setCell ⟨R, 2, none⟩ v') R b off n c l j bad ms rs v' rv (some G') G2 ∧ Below B w (w1.setCell ⟨R, 2, none⟩ v') := by
  have hz := h.blk.lt
  have kb : w1.heap[b]? = w.heap[b]? := st.block b h.cur.lt (fun hm => by have := h.g1 b (by simpa using hm); have := h.bB; omega)
  have kR : w1.heap[R]? = w.heap[R]? := st.block R hz (fun hm => (h.g1 R (by simpa using hm)).2 rfl)
  have hG : B ≤ G' ∧ G' ≠ R := by
    rcases hg with e | e
    · exact h.g1 _ e
    · omega
  have bl := (h.blk.keep kR).set_ 2 v'
  refine ⟨{ cur := (h.cur.keep kb (Nat.lt_of_lt_of_le h.cur.lt st.size)).keep (Below.heap_setCell _ _ _ _ h.bR) (by simpa using Nat.lt_of_lt_of_le h.cur.lt st.size)
            blk := bl, nrow := RowIs.keep r (fun g hg => by cases hg; exact Below.heap_setCell _ _ _ _ hG.2)
            rrow := RowIs.keep h.rrow (fun g hg2 => by
              have hn : g ∉ G1.toList := fun hm => h.gg g g (by simpa using hm) hg2 rfl
              have hlt := RowIs.lt h.rrow g hg2
              exact (Below.heap_setCell _ _ _ _ (h.g2 g hg2).2).trans (st.block g hlt hn))
            hj := h.hj, bB := h.bB, RB := h.RB, g1 := fun g hg => by cases hg; exact hG, g2 := h.g2 }, ?_⟩
  exact (st.below (fun k hk => (h.g1 k (by simpa using hk)).1) hB).setCell (p := ⟨R, 2, none⟩) h.RB v'
theorem Rdr.root (h : Rdr B w R b off n c l j bad ns rs nv rv G1 G2) {w1 : World} {v' : Value} {G' : Nat} {ms : List Int} (r : RowIs w1 v' (some G') 3 1 ms.length (ints ms)) (hg : G2 = some G' ∨ w.heap.size ≤ G')
    (st : StoStep w w1 G2.toList [G']) (hB : B ≤ w.heap.size) : Rdr B (w1.setCell ⟨R, 3, none⟩ v') R b off n c l j bad ns ms nv v' G1 (some G') ∧ Below B w (w1.setCell ⟨R, 3, none⟩ v') := by
  have hz := h.blk.lt
  have kb : w1.heap[b]? = w.heap[b]? := st.block b h.cur.lt (fun hm => by have := h.g2 b (by simpa using hm); have := h.bB; omega)
  have kR : w1.heap[R]? = w.heap[R]? := st.block R hz (fun hm => (h.g2 R (by simpa using hm)).2 rfl)
  have hG : B ≤ G' ∧ G' ≠ R := by
    rcases hg with e | e
    · exact h.g2 _ e
    · omega
  have bl := (h.blk.keep kR).set_ 3 v'
  refine ⟨{ cur := (h.cur.keep kb (Nat.lt_of_lt_of_le h.cur.lt st.size)).keep (Below.heap_setCell _ _ _ _ h.bR) (by simpa using Nat.lt_of_lt_of_le h.cur.lt st.size)
            blk := bl, rrow := RowIs.keep r (fun g hg => by cases hg; exact Below.heap_setCell _ _ _ _ hG.2)
            nrow := RowIs.keep h.nrow (fun g hg2 => by
              have hn : g ∉ G2.toList := fun hm => h.gg g g hg2 (by simpa using hm) rfl
              have hlt := RowIs.lt h.nrow g hg2
              exact (Below.heap_setCell _ _ _ _ (h.g1 g hg2).2).trans (st.block g hlt hn))
            hj := h.hj, bB := h.bB, RB := h.RB, g2 := fun g hg => by cases hg; exact hG, g1 := h.g1 }, ?_⟩
  exact (st.below (fun k hk => (h.g2 k (by simpa using hk)).1) hB).setCell (p := ⟨R, 3, none⟩) h.RB v'
set_option maxHeartbeats 4000000 in
theorem top_at (h : Rdr B w R b off n c l j bad ns rs nv rv G1 G2) {a : Nat} (ha : a < ns.length + 2) (hn : ns.length ≤ 8388608) :
    Calls Try.prog 148 #[.pointer (some ⟨R, 0, none⟩), .int .i64 a] w (Pure (.int .i64 (topR ns a)) w) := by
  have c2 := h.blk.cell 2
  have z := h.blk.lt
  simp only [List.getElem?_cons_zero, List.getElem?_cons_succ] at c2
  by_cases h2 : a < 2
  · have e : topR ns a = 64 := by unfold topR; rw [if_pos h2]
    rw [e]
    have h2' : (a : Int) < 2 := by omega
    clear e h
    go_enter Try.func148, Try.ntmps148
    go_wp2
    go_returns
    exact Pure.of rfl (by (repeat' (first | (with_reducible exact Below.refl _ _) | (with_reducible refine Below.ext_mk ?_ ?_ _ _) | (with_reducible refine Below.alloc ?_ ?_ _) | (with_reducible refine Below.drew ?_) | (with_reducible refine Below.setCell ?_ ?_ _) | go_size)))
  · have hx : ns[a - 2]? = some ns[a - 2] := List.getElem?_eq_getElem (by omega)
    have e : topR ns a = ns[a - 2].1 := by unfold topR; rw [if_neg h2, hx]; rfl
    rw [e]
    have hrd := RowIs.rd h.nrow
    obtain ⟨sa, sc, rfl, _⟩ := RowIs.form h.nrow
    obtain ⟨b', off', rfl, hb1, g0, _, _⟩ := Rd.nodeAt hrd hx
    generalize ns[a - 2] = x at *
    obtain ⟨i, hi⟩ : ∃ i, i = a - 2 := ⟨_, rfl⟩
    rw [← hi] at g0
    have h2' : ¬ (a : Int) < 2 := by omega
    have ws : IntKind.i64.wrap ((a : Int) - 2) = (i : Int) := by rw [IntWalk.i64_in _ (by omega)]; omega
    have hil : (i : Int) < (ns.length : Int) := by omega
    have HI := hid (And.intro hi ha)
    clear h hrd e hx hi ha
    go_enter Try.func148, Try.ntmps148
    go_wp2
    go_returns
    exact Pure.of rfl (by (repeat' (first | (with_reducible exact Below.refl _ _) | (with_reducible refine Below.ext_mk ?_ ?_ _ _) | (with_reducible refine Below.alloc ?_ ?_ _) | (with_reducible refine Below.drew ?_) | (with_reducible refine Below.setCell ?_ ?_ _) | go_size)))
def AllPost (B : Nat) (w : World) (R b off n c : Nat) (l : List Nat) (e : Ending) (w' : World) : Prop := Below B w w' ∧
  ((e = .returned (.bool false) ∧ parseV l = none) ∨ (∃ ns rs nv rv G1 G2 j, e = .returned (.bool true) ∧ parseV l = some (ns, rs) ∧ Rdr B w' R b off n c l j false ns rs nv rv G1 G2 ∧ ns.length ≤ 8388608 ∧ rs.length ≤ 64))
theorem AllPost.no (hb : Below B w w') (h : parseV l = none) : AllPost B w R b off n c l (.returned (.bool false)) w' := ⟨hb, .inl ⟨rfl, h⟩⟩
theorem AllPost.yes (hb : Below B w w') (h : parseV l = some (ns, rs)) (hr : Rdr B w' R b off n c l j false ns rs nv rv G1 G2) (h1 : ns.length ≤ 8388608) (h2 : rs.length ≤ 64) : AllPost B w R b off n c l (.returned (.bool true)) w' :=
  ⟨hb, .inr ⟨ns, rs, nv, rv, G1, G2, j, rfl, h, hr, h1, h2⟩⟩
set_option maxRecDepth 100000 in
set_option maxHeartbeats 16000000 in
theorem all_any (h : Rdr B w R b off n c l 0 false [] [] (.slice none 0 0) (.slice none 0 0) none none) (hB : B ≤ w.heap.size) :
    Calls Try.prog 127 #[.pointer (some ⟨R, 0, none⟩)] w (AllPost B w R b off n c l) := by
  have hln := h.cur.len
  have C0 := hid (number_at h.cur h.blk h.hj h.bR 8388608 (by omega))
  have M0 := hid (h.move (bad' := (numT l 8388608 0 false).2.2) (by have := numT_le l 8388608 false (j := 0) (by omega); omega : (numT l 8388608 0 false).2.1 ≤ n))
  have R0 := hid (numT_rel l 8388608 0 (by omega))
  have H := hid h
  have hmx := h.cur.max
  have hRB := h.RB
  generalize numT l 8388608 0 false = t0 at *
  obtain ⟨m0, j0, b0⟩ := t0
  simp only at C0 M0 R0
  obtain ⟨W0, hW0⟩ : ∃ W, W = w.setRow R (curV b off n c j0 :: .bool b0 :: [.slice none 0 0, .slice none 0 0]).toArray := ⟨_, rfl⟩
  rw [← hW0] at C0 M0
  have B0 := hid (show Below B w W0 by rw [hW0]; exact Below.setRow (Below.refl _ _) h.RB _)
  clear h hW0
  go_enter Try.func127, Try.ntmps127
  go_upto_region 1 with (fail)
  refine wp_region_doc (fun F' hF => ?_)
  have HF := hid hF
  clear hF
  iterate 3 (refine doc_val rfl (by first | (go_simp; done) | (go_simp; exact ⟨rfl, rfl⟩) | (go_simp; with_reducible rfl)) ?_; simp only [Act.put, List.setIfInBounds_toArray, List.set_cons_zero, List.set_cons_succ])
  refine doc_call rfl (by first | (go_simp; done) | (go_simp; exact ⟨rfl, rfl⟩) | (go_simp; with_reducible rfl)) ((C0.out).mono ?_)
  rintro _ _ ⟨rfl, rfl⟩
  refine ⟨_, rfl, ?_⟩
  simp only [Act.put, List.setIfInBounds_toArray, List.set_cons_zero, List.set_cons_succ]
  refine doc_val rfl (by first | (go_simp; done) | (go_simp; exact ⟨rfl, rfl⟩) | (go_simp; with_reducible rfl)) ?_
  simp only [Act.put, List.setIfInBounds_toArray, List.set_cons_zero, List.set_cons_succ]
  refine doc_end (HF.out _ _ ?_)
  clear HF F' C0
  go_wp2_with fail
  go_loopw [3] (fun mv wr => ∃ (m j : Nat) (bad : Bool) (ns : List Nd) (nv : Value) (G1 : Option Nat), mv = .int .i64 m ∧ Rdr B wr R b off n c l j bad ns [] nv (.slice none 0 0) G1 none ∧ Below B w wr ∧ ns.length + m ≤ 8388608 ∧
      (bad = false → parse1 m ns (l.drop j) = parseV l) ∧ (bad = true → m = 0 ∧ parseV l = none)) (fun mv _ => (intOf mv).toNat)
  case atStart =>
    refine ⟨m0, j0, b0, [], _, _, rfl, M0.out, B0.out, ?_, ?_, ?_⟩
    · rcases R0.out with ⟨_, _, h3⟩ | ⟨a, j2, _, h2, h3⟩
      · have h3' : m0 = 0 := h3
        rw [h3']; simp
      · cases h3
        have := (numV_len h2).2
        simp; omega
    · intro hb
      subst hb
      rcases R0.out with ⟨_, h3, _⟩ | ⟨a, j2, _, h2, h3⟩
      · cases h3
      · cases h3
        rw [parseV_eq]
        rw [List.drop_zero] at h2
        rw [h2]
    · intro hb
      subst hb
      rcases R0.out with ⟨h1, h2, h3⟩ | ⟨a, j2, _, h2, h3⟩
      · refine ⟨h3, ?_⟩
        rw [parseV_eq]
        rw [List.drop_zero] at h1
        rw [h1]
      · cases h3
  case round =>
    obtain ⟨m, j, bad, ns, nv, G1, rfl, hR, hb, hlen, hgood, hbad⟩ := hrel
    have HR := hid hR
    have HB := hid hb
    have HG := hid hgood
    have HBAD := hid hbad
    have d0 := hR.blk.cell 0
    have d1 := hR.blk.cell 1
    have d2 := hR.blk.cell 2
    have d3 := hR.blk.cell 3
    have z := hR.blk.lt
    simp only [List.getElem?_cons_zero, List.getElem?_cons_succ] at d0 d1 d2 d3
    clear hR hb hgood hbad M0 B0 R0
    by_cases hm : m = 0 ∨ bad = true
    · have hm0 : m = 0 := hm.elim id (fun q => (HBAD.out q).1)
      subst hm0
      have hz0 : ¬ (0 : Int) < ((0 : Nat) : Int) := by omega
      have C1 := hid (number_at HR.out.cur HR.out.blk HR.out.hj HR.out.bR 65 (by omega))
      have hO := numT_le l 65 bad (show j ≤ l.length by have := HR.out.hj; have := HR.out.cur.len; omega)
      have M1 := hid (HR.out.move (bad' := (numT l 65 j bad).2.2) (by have := HR.out.cur.len; omega : (numT l 65 j bad).2.1 ≤ n))
      have INIT : (numT l 65 j bad).1 ≤ 64 ∧ ((numT l 65 j bad).2.2 = false → parse2 ns (numT l 65 j bad).1 [] (l.drop (numT l 65 j bad).2.1) = parseV l) ∧ ((numT l 65 j bad).2.2 = true → parseV l = none) := by
        cases bad with
        | true =>
          obtain ⟨h1, h2⟩ := numT_true l 65 j
          rw [h1, h2]
          exact ⟨by omega, fun h => (by cases h), fun _ => (HBAD.out (by first | rfl | trivial)).2⟩
        | false =>
          have hg := HG.out (by first | rfl | trivial)
          rw [parse1_zero, tailV_eq] at hg
          rcases numT_rel l 65 j (by have := HR.out.hj; have := HR.out.cur.len; omega) with ⟨h1, h2, h3⟩ | ⟨a, k, hk, h1, h2⟩
          · rw [h1] at hg
            rw [h2, h3]
            exact ⟨by omega, fun h => (by cases h), fun _ => hg.symm⟩
          · rw [h1] at hg
            rw [h2]
            have := (numV_len h1).2
            exact ⟨by show a ≤ 64; omega, fun _ => hg, fun h => (by cases h)⟩
      have INIT := hid INIT
      generalize numT l 65 j bad = t1 at *
      obtain ⟨m1, j1, b1⟩ := t1
      simp only at C1 M1 INIT hO
      obtain ⟨W1, hW1⟩ : ∃ W, W = wr.setRow R (curV b off n c j1 :: .bool b1 :: [nv, .slice none 0 0]).toArray := ⟨_, rfl⟩
      rw [← hW1] at C1 M1
      have B1 := hid (HB.out.trans (show Below B wr W1 by rw [hW1]; exact Below.setRow (Below.refl _ _) hRB _))
      clear hW1 hm HG HBAD d0 d1 d2 d3 z
      go_upto_region 10 with (fail)
      refine wp_region_doc (fun F' hF => ?_)
      have HF := hid hF
      clear hF
      iterate 3 (refine doc_val rfl (by first | (go_simp; done) | (go_simp; exact ⟨rfl, rfl⟩) | (go_simp; with_reducible rfl)) ?_; simp only [Act.put, List.setIfInBounds_toArray, List.set_cons_zero, List.set_cons_succ])
      refine doc_call rfl (by first | (go_simp; done) | (go_simp; exact ⟨rfl, rfl⟩) | (go_simp; with_reducible rfl)) ((C1.out).mono ?_)
      rintro _ _ ⟨rfl, rfl⟩
      refine ⟨_, rfl, ?_⟩
      simp only [Act.put, List.setIfInBounds_toArray, List.set_cons_zero, List.set_cons_succ]
      refine doc_val rfl (by first | (go_simp; done) | (go_simp; exact ⟨rfl, rfl⟩) | (go_simp; with_reducible rfl)) ?_
      simp only [Act.put, List.setIfInBounds_toArray, List.set_cons_zero, List.set_cons_succ]
      refine doc_end (HF.out _ _ ?_)
      clear HF F' C1 HR HB
      go_wp2_with fail
      go_loopw [5] (fun mv wr => ∃ (m j : Nat) (bad : Bool) (rs : List Int) (rv : Value) (G2 : Option Nat), mv = .int .i64 m ∧ Rdr B wr R b off n c l j bad ns rs nv rv G1 G2 ∧ Below B w wr ∧ rs.length + m ≤ 64 ∧
        (bad = false → parse2 ns m rs (l.drop j) = parseV l) ∧ (bad = true → parseV l = none)) (fun mv _ => (intOf mv).toNat)
      case atStart => exact ⟨m1, j1, b1, [], _, _, rfl, M1.out, B1.out, by have := INIT.out.1; simp; omega, INIT.out.2.1, INIT.out.2.2⟩
      case round =>
        obtain ⟨m, j, bad, rs, rv, G2, rfl, hR, hb, hlen2, hgood, hbad⟩ := hrel
        obtain ⟨sa, sc, rfl, _⟩ := RowIs.form hR.nrow
        obtain ⟨ra, rc, rfl, _⟩ := RowIs.form hR.rrow
        have HR := hid hR
        have HB := hid hb
        have HG := hid hgood
        have HBAD := hid hbad
        have d0 := hR.blk.cell 0
        have d1 := hR.blk.cell 1
        have d2 := hR.blk.cell 2
        have d3 := hR.blk.cell 3
        have z := hR.blk.lt
        simp only [List.getElem?_cons_zero, List.getElem?_cons_succ] at d0 d1 d2 d3
        unfold curV at d0
        clear hR hb hgood hbad M1 B1 INIT
        cases bad
        · by_cases hm : m = 0
          · subst hm
            have hz0 : ¬ (0 : Int) < ((0 : Nat) : Int) := by omega
            have hg := HG.out (by first | rfl | trivial)
            rw [parse2_zero] at hg
            by_cases hjn : j = n
            · rw [if_pos (List.drop_eq_nil_of_le (by omega))] at hg
              have hg := hid hg
              have e0 : n - j = 0 := by omega
              rw [e0] at d0
              clear HG HBAD hjn e0
              go_wp2
              go_returns
              exact AllPost.yes HB.out hg.out.symm HR.out (by omega) (by omega)
            · have hne : ¬ l.drop j = [] := fun q => by
                have := congrArg List.length q
                simp at this
                have := HR.out.hj
                omega
              rw [if_neg hne] at hg
              have hg := hid hg
              have hj := HR.out.hj
              obtain ⟨k, hk⟩ : ∃ k, k = n - j := ⟨_, rfl⟩
              rw [← hk] at d0
              have e1 : ((k : Int) == 0) = false := beq_eq_false_iff_ne.2 (by omega)
              clear HG HBAD hjn hk hne hj
              go_wp2
              go_returns
              exact AllPost.no (HB.out) hg.out.symm
          · obtain ⟨m, rfl⟩ : ∃ k, m = k + 1 := ⟨m - 1, by omega⟩
            have hm1 : (0 : Int) < ((m + 1 : Nat) : Int) := by omega
            obtain ⟨nl, hnl⟩ : ∃ k, k = ns.length + 2 := ⟨_, rfl⟩
            have wl : IntKind.i64.wrap ((ns.length : Int) + 2) = (nl : Int) := by rw [IntWalk.i64_in _ (by omega)]; omega
            have HXd := HR.out.below (Below.drew (Below.refl _ wr))
            have C1 := number_at HXd.cur HXd.blk HXd.hj HXd.bR nl (by omega)
            have hjl : j ≤ l.length := by have := HR.out.hj; omega
            have hO := numT_le l nl false hjl
            have M1 := HXd.move (bad' := (numT l nl j false).2.2) (by omega : (numT l nl j false).2.1 ≤ n)
            have PR : True ∧ ((numT l nl j false).2.2 = false → parse2 ns m (rs ++ [((numT l nl j false).1 : Int)]) (l.drop (numT l nl j false).2.1) = parseV l) ∧ ((numT l nl j false).2.2 = true → parseV l = none) := by
              have hg := HG.out (by first | rfl | trivial)
              rw [parse2_more, ← hnl] at hg
              rcases numT_rel l nl j hjl with ⟨h1, h2, h3⟩ | ⟨a, k, hk, h1, h2⟩
              · rw [h1] at hg
                rw [h2]
                exact ⟨trivial, fun h => (by cases h), fun _ => hg.symm⟩
              · rw [h1] at hg
                rw [h2]
                exact ⟨trivial, fun _ => hg, fun h => (by cases h)⟩
            have PR := hid PR
            generalize numT l nl j false = t1 at *
            obtain ⟨y, j1, b1⟩ := t1
            simp only at C1 M1 PR hO
            obtain ⟨W1, hW1⟩ : ∃ W, W = wr.drew.setRow R (curV b off n c j1 :: .bool b1 :: [.slice sa ns.length sc, .slice ra rs.length rc]).toArray := ⟨_, rfl⟩
            rw [← hW1] at C1 M1
            have B1 := HB.out.trans (show Below B wr W1 by rw [hW1]; exact Below.setRow (Below.drew (Below.refl _ _)) hRB _)
            have hB1 : B ≤ W1.heap.size := Nat.le_trans hB B1.size
            obtain ⟨v', W3, G', g1, g2, g3, g4⟩ := int_one M1.rrow (by omega) (y : Int)
            obtain ⟨HN, BN⟩ := M1.root g2 g3 g4 hB1
            have c3 := M1.blk.cell 3
            have cz := M1.blk.lt
            simp only [List.getElem?_cons_zero, List.getElem?_cons_succ] at c3
            have kR : W3.heap[R]? = W1.heap[R]? := g4.block R cz (fun hm => (M1.g2 R (by simpa using hm)).2 rfl)
            have e3 := (cell_of_heap 3 kR).trans c3
            have f3 : W3.frozen? ⟨R, 3, none⟩ = false := (M1.blk.keep kR).free 3
            have fz : R < W3.heap.size := Nat.lt_of_lt_of_le cz g4.size
            have Q1 := hid g1
            have HN := hid HN
            have BN := hid (B1.trans BN)
            have C1 := hid C1
            obtain ⟨sb, sc', rfl, _⟩ := RowIs.form g2
            obtain ⟨nl2, hnl2⟩ : ∃ k, k = (rs ++ [(y : Int)]).length := ⟨_, rfl⟩
            rw [← hnl2] at Q1 HN BN
            clear hnl2 g1 g2 g3 g4 kR B1 hB1 M1 hW1 HXd HG HBAD d0
            go_upto_region 13 with (fail)
            refine wp_region_stage [14, 15, 16, 19] (fun i W => (i = 0 → W = wr.drew) ∧ (i = 1 → W = W1) ∧ (i = 2 → W = W1.alloc (.cells #[.int .i64 y] 3)) ∧ (i = 3 → W = W3) ∧ (i = 4 → W = W3.setCell ⟨R, 3, none⟩ (.slice sb nl2 sc'))) (by kernel_rfl) (by kernel_rfl) (by kernel_rfl) (by kernel_rfl) ⟨fun _ => rfl, fun h => by omega, fun h => by omega, fun h => by omega, fun h => by omega⟩ (fun F' hF' => ?_)
            have HF := hid hF'
            clear hF'
            iterate 4 (refine sg_any rfl rfl (fun _ => by go_simp; with_reducible rfl) ?_; simp only [Act.put, List.setIfInBounds_toArray, List.set_cons_zero, List.set_cons_succ])
            refine sg_read 0 2 rfl (by decide +kernel) (by decide +kernel) rfl (fun ii w' l' u hR => by
              rcases (show ii = 0 ∨ ii = 1 ∨ ii = 2 by omega) with rfl | rfl | rfl
              · rw [hR.1 rfl]; clear hR; first | (go_simp; done) | (go_simp; with_reducible rfl)
              · rw [hR.2.1 rfl]; clear hR; first | (go_simp; done) | (go_simp; with_reducible rfl)
              · rw [hR.2.2.1 rfl]; clear hR; first | (go_simp; done) | (go_simp; with_reducible rfl)) ?_
            simp only [Act.put, List.setIfInBounds_toArray, List.set_cons_zero, List.set_cons_succ]
            repeat (first
              | (apply sg_any; (focus rfl); (focus rfl); (focus (intro _; go_simp; with_reducible rfl)); simp only [Act.put, List.setIfInBounds_toArray, List.set_cons_zero, List.set_cons_succ])
              | (apply sg_read 0 0; (focus rfl); (focus (decide +kernel)); (focus (decide +kernel)); (focus rfl); (focus (intro ii w' l' u hR; rw [hR.1 (by omega)]; clear hR; go_simp; with_reducible rfl)); simp only [Act.put, List.setIfInBounds_toArray, List.set_cons_zero, List.set_cons_succ]))
            refine sg_turn_call 0 (v := .int .i64 y) (f := 146) (args := #[.pointer (some ⟨R, 0, none⟩), .int .i64 nl]) rfl rfl (fun _ => by first | (go_simp; done) | (go_simp; exact ⟨rfl, rfl⟩)) (fun W hR => by
              rw [hR.1 rfl]
              refine C1.out.mono ?_
              rintro e w' ⟨rfl, rfl⟩
              exact ⟨rfl, fun h => by omega, fun _ => rfl, fun h => by omega, fun h => by omega, fun h => by omega⟩) ?_
            simp only [Act.put, List.setIfInBounds_toArray, List.set_cons_zero, List.set_cons_succ]
            refine sg_turn 1 (v := .slice (some ⟨W1.heap.size, 0, none⟩) 1 1) rfl rfl (fun W hR => ⟨W1.alloc (.cells #[.int .i64 y] 3), by rw [hR.2.1 rfl]; clear hR; go_simp, fun h => by omega, fun h => by omega, fun _ => rfl, fun h => by omega, fun h => by omega⟩) ?_
            simp only [Act.put, List.setIfInBounds_toArray, List.set_cons_zero, List.set_cons_succ]
            refine sg_turn 2 (v := .slice sb nl2 sc') rfl rfl (fun W hR => ⟨W3, by rw [hR.2.2.1 rfl]; clear hR; exact run_append_op _ _ _ _ _ _ _ _ _ Q1.out, fun h => by omega, fun h => by omega, fun h => by omega, fun _ => rfl, fun h => by omega⟩) ?_
            simp only [Act.put, List.setIfInBounds_toArray, List.set_cons_zero, List.set_cons_succ]
            iterate 2 (refine sg_any rfl rfl (fun _ => by go_simp; with_reducible rfl) ?_; simp only [Act.put, List.setIfInBounds_toArray, List.set_cons_zero, List.set_cons_succ])
            refine sg_do 3 rfl rfl (fun W hR => ⟨W3.setCell ⟨R, 3, none⟩ (.slice sb nl2 sc'), by rw [hR.2.2.2.1 rfl]; clear hR; go_simp, fun h => by omega, fun h => by omega, fun h => by omega, fun h => by omega, fun _ => rfl⟩) ?_
            simp only [Act.put, List.setIfInBounds_toArray, List.set_cons_zero, List.set_cons_succ]
            refine sg_end (HF.out _ (fun w3 hR => ?_))
            obtain rfl := hR.2.2.2.2 rfl
            clear hR HF F' Q1 C1 c3 cz e3 f3 fz d1 d2 d3
            go_wp2_with fail
            go_roundw
            case rel =>
              refine ⟨m, j1, b1, rs ++ [(y : Int)], _, some G', by go_num, HN.out, BN.out, by simp; omega, PR.out.2.1, PR.out.2.2⟩
            case measure => first | (simp [intOf]; done) | (simp [intOf]; omega)
        · have hp := hid (HBAD.out (by first | rfl | trivial))
          clear HG HBAD
          by_cases hm : m = 0
          · subst hm
            have hz0 : ¬ (0 : Int) < ((0 : Nat) : Int) := by omega
            go_wp2
            go_returns
            exact AllPost.no (HB.out) hp.out
          · have hm1 : (0 : Int) < (m : Int) := by omega
            go_wp2
            go_returns
            exact AllPost.no (HB.out) hp.out
    · have hmb : bad = false := by
        cases bad
        · rfl
        · exact absurd (.inr rfl) hm
      subst hmb
      obtain ⟨m, rfl⟩ : ∃ k, m = k + 1 := ⟨m - 1, by have : m ≠ 0 := fun q => hm (.inl q); omega⟩
      have hm1 : (0 : Int) < ((m + 1 : Nat) : Int) := by omega
      have hO := oneT_le (l := l) (j := j) (bad := false) (by have := HR.out.hj; have := HR.out.cur.len; omega)
      have C1 := hid (one_at HR.out.cur HR.out.blk HR.out.hj HR.out.bR)
      have M1 := hid (HR.out.move (bad' := (oneT l j false).2.2) (by have := HR.out.cur.len; omega : (oneT l j false).2.1 ≤ n))
      obtain ⟨t1, ht1⟩ : ∃ t, t = oneT l j false := ⟨_, rfl⟩
      rw [← ht1] at C1 M1 hO
      have O1 := hid ht1
      obtain ⟨x, j1, b1⟩ := t1
      simp only at C1 M1 hO
      clear ht1 hm
      obtain ⟨W1, hW1⟩ : ∃ W, W = wr.setRow R (curV b off n c j1 :: .bool b1 :: [nv, .slice none 0 0]).toArray := ⟨_, rfl⟩
      rw [← hW1] at C1 M1
      have B1 := hid (show Below B wr W1 by rw [hW1]; exact Below.setRow (Below.refl _ _) hRB _)
      clear hW1
      go_upto_region 5 with ((with_reducible refine (C1.out).mono ?_); clear C1; rintro e w2 ⟨rfl, rfl⟩)
      refine wp_gen (fun X0 hX0 => ?_)
      have hbU : Below w2.heap.size w2 X0 := by rw [hX0]; (repeat' (first | (with_reducible exact Below.refl _ _) | (with_reducible refine Below.ext_mk ?_ ?_ _ _) | (with_reducible refine Below.alloc ?_ ?_ _) | (with_reducible refine Below.drew ?_) | (with_reducible refine Below.setCell ?_ ?_ _) | go_size))
      have bX0 : Blk X0 w2.heap.size 39 [.int .i64 x, .int .i64 0, .int .i64 0] := by rw [hX0]; exact World.heap_alloc_last w2 _
      obtain ⟨Bx, hBx⟩ : ∃ b, b = w2.heap.size := ⟨_, rfl⟩
      rw [← hBx] at bX0 ⊢
      have BX0 := hid (show Below B w X0 from (HB.out.trans B1.out).trans (hbU.mono (Nat.le_trans hB (Nat.le_trans HB.out.size B1.out.size))))
      obtain ⟨sa, sc, rfl, _⟩ := RowIs.form M1.out.nrow
      have nXR := hid (show True ∧ Bx ≠ R ∧ Bx ≠ b ∧ (∀ g, G1 = some g → g ≠ Bx) ∧ B ≤ Bx from
        ⟨trivial, by have := M1.out.blk.lt; omega, by have := M1.out.cur.lt; omega, fun g hg => by have := RowIs.lt M1.out.nrow g hg; omega, by have := Nat.le_trans hB (Nat.le_trans HB.out.size B1.out.size); omega⟩)
      have HX0 := hid (M1.out.below hbU)
      have bX0 := hid bX0
      obtain ⟨nl, hnl⟩ : ∃ k, k = ns.length + 2 := ⟨_, rfl⟩
      have wl : IntKind.i64.wrap ((ns.length : Int) + 2) = (nl : Int) := by rw [IntWalk.i64_in _ (by omega)]; omega
      have hnl2 : nl ≤ 9000000 := by omega
      have HNL := hid hnl
      clear hX0 hbU M1 B1 hBx d0 d1 d2 d3 z hnl
      have hj2 := numT_le l nl b1 (show j1 ≤ l.length by have := HX0.out.hj; have := HX0.out.cur.len; omega)
      have HXd := HX0.out.below (Below.drew (Below.refl _ X0))
      have bXd := bX0.out.below (Below.drew (Below.refl _ X0))
      have C2 := number_at HXd.cur HXd.blk HXd.hj HXd.bR nl (by omega)
      have M2 := HXd.move (bad' := (numT l nl j1 b1).2.2) (by have := HXd.cur.len; omega : (numT l nl j1 b1).2.1 ≤ n)
      have e2 := HXd.blk.cell 2
      have ez := HXd.blk.lt
      simp only [List.getElem?_cons_zero, List.getElem?_cons_succ] at e2
      obtain ⟨t2, ht2⟩ : ∃ t, t = numT l nl j1 b1 := ⟨_, rfl⟩
      rw [← ht2] at C2 M2 hj2
      have O2 := hid ht2
      obtain ⟨y2, j2, b2⟩ := t2
      simp only at C2 M2 hj2
      clear ht2
      obtain ⟨W2, hW2⟩ : ∃ W, W = X0.drew.setRow R (curV b off n c j2 :: .bool b2 :: [.slice sa ns.length sc, .slice none 0 0]).toArray := ⟨_, rfl⟩
      rw [← hW2] at C2 M2
      have bW2 := bXd.farRow nXR.out.2.1.symm (curV b off n c j2 :: .bool b2 :: [.slice sa ns.length sc, .slice none 0 0]).toArray
      rw [← hW2] at bW2
      have B2 := hid (show Below B w W2 by rw [hW2]; exact Below.setRow (Below.drew BX0.out) hRB _)
      have HX1 := hid (M2.far nXR.out.2.1 nXR.out.2.2.1 nXR.out.2.2.2.1 (fun g hg => by cases hg) 1 (.int .i64 y2))
      have bX1 := hid (bW2.set_ 1 (.int .i64 y2))
      have BX1 := hid (B2.out.setCell (p := ⟨Bx, 1, none⟩) nXR.out.2.2.2.2 (.int .i64 y2))
      have ff := bW2.free 1
      have zz := bW2.lt
      have cc := bW2.cell 1
      simp only [List.getElem?_cons_zero, List.getElem?_cons_succ] at cc
      have C2 := hid C2
      clear M2 bXd HXd bW2 hW2 B2
      refine wp_region_stage [9, 11] (fun i W => (i = 0 → W = X0.drew) ∧ (i = 1 → W = W2) ∧ (i = 2 → W = W2.setCell ⟨Bx, 1, none⟩ (.int .i64 y2))) (by kernel_rfl) (by kernel_rfl) (by kernel_rfl) (by kernel_rfl) ⟨fun _ => rfl, fun h => by omega, fun h => by omega⟩ (fun F' hF' => ?_)
      have HF := hid hF'
      clear hF'
      repeat (first
        | (apply sg_any; (focus rfl); (focus rfl); (focus (intro _; go_simp; with_reducible rfl)); simp only [Act.put, List.setIfInBounds_toArray, List.set_cons_zero, List.set_cons_succ])
        | (apply sg_read 0 0; (focus rfl); (focus (decide +kernel)); (focus (decide +kernel)); (focus rfl); (focus (intro ii w' l' u hR; rw [hR.1 (by omega)]; clear hR; go_simp; with_reducible rfl)); simp only [Act.put, List.setIfInBounds_toArray, List.set_cons_zero, List.set_cons_succ]))
      refine sg_turn_call 0 (v := .int .i64 y2) (f := 146) (args := #[.pointer (some ⟨R, 0, none⟩), .int .i64 nl]) rfl rfl (fun _ => by first | (go_simp; done) | (go_simp; exact ⟨rfl, rfl⟩)) (fun W hR => by
        rw [hR.1 rfl]
        refine C2.out.mono ?_
        rintro e w' ⟨rfl, rfl⟩
        exact ⟨rfl, fun h => by omega, fun _ => rfl, fun h => by omega⟩) ?_
      simp only [Act.put, List.setIfInBounds_toArray, List.set_cons_zero, List.set_cons_succ]
      refine sg_any rfl rfl (fun _ => by go_simp; with_reducible rfl) ?_
      simp only [Act.put, List.setIfInBounds_toArray, List.set_cons_zero, List.set_cons_succ]
      refine sg_do 1 rfl rfl (fun W hR => ⟨W2.setCell ⟨Bx, 1, none⟩ (.int .i64 y2), by rw [hR.2.1 rfl]; clear hR; go_simp, fun h => by omega, fun h => by omega, fun _ => rfl⟩) ?_
      simp only [Act.put, List.setIfInBounds_toArray, List.set_cons_zero, List.set_cons_succ]
      refine sg_end (HF.out _ (fun w3 hR => ?_))
      obtain rfl := hR.2.2 rfl
      clear hR HF F' C2 e2 ez ff zz cc
      go_upto_region 6 with (fail)
      refine wp_gen (fun X1 hX1 => ?_)
      rw [← hX1] at HX1 bX1 BX1
      simp only [List.set_cons_succ, List.set_cons_zero] at bX1
      clear hX1
      have hj3 := numT_le l nl b2 (show j2 ≤ l.length by have := HX1.out.hj; have := HX1.out.cur.len; omega)
      have HXd := HX1.out.below (Below.drew (Below.refl _ X1))
      have bXd := bX1.out.below (Below.drew (Below.refl _ X1))
      have C3 := number_at HXd.cur HXd.blk HXd.hj HXd.bR nl (by omega)
      have M3 := HXd.move (bad' := (numT l nl j2 b2).2.2) (by have := HXd.cur.len; omega : (numT l nl j2 b2).2.1 ≤ n)
      have e2 := HXd.blk.cell 2
      have ez := HXd.blk.lt
      simp only [List.getElem?_cons_zero, List.getElem?_cons_succ] at e2
      obtain ⟨t3, ht3⟩ : ∃ t, t = numT l nl j2 b2 := ⟨_, rfl⟩
      rw [← ht3] at C3 M3 hj3
      have O3 := hid ht3
      obtain ⟨y3, j3, b3⟩ := t3
      simp only at C3 M3 hj3
      clear ht3
      obtain ⟨W3, hW3⟩ : ∃ W, W = X1.drew.setRow R (curV b off n c j3 :: .bool b3 :: [.slice sa ns.length sc, .slice none 0 0]).toArray := ⟨_, rfl⟩
      rw [← hW3] at C3 M3
      have bW3 := bXd.farRow nXR.out.2.1.symm (curV b off n c j3 :: .bool b3 :: [.slice sa ns.length sc, .slice none 0 0]).toArray
      rw [← hW3] at bW3
      have B3 := hid (show Below B w W3 by rw [hW3]; exact Below.setRow (Below.drew BX1.out) hRB _)
      have HX2 := hid (M3.far nXR.out.2.1 nXR.out.2.2.1 nXR.out.2.2.2.1 (fun g hg => by cases hg) 2 (.int .i64 y3))
      have bX2 := hid (bW3.set_ 2 (.int .i64 y3))
      have BX2 := hid (B3.out.setCell (p := ⟨Bx, 2, none⟩) nXR.out.2.2.2.2 (.int .i64 y3))
      have ff := bW3.free 2
      have zz := bW3.lt
      have cc := bW3.cell 2
      simp only [List.getElem?_cons_zero, List.getElem?_cons_succ] at cc
      have C3 := hid C3
      clear M3 bXd HXd bW3 hW3 B3
      refine wp_region_stage [9, 11] (fun i W => (i = 0 → W = X1.drew) ∧ (i = 1 → W = W3) ∧ (i = 2 → W = W3.setCell ⟨Bx, 2, none⟩ (.int .i64 y3))) (by kernel_rfl) (by kernel_rfl) (by kernel_rfl) (by kernel_rfl) ⟨fun _ => rfl, fun h => by omega, fun h => by omega⟩ (fun F' hF' => ?_)
      have HF := hid hF'
      clear hF'
      repeat (first
        | (apply sg_any; (focus rfl); (focus rfl); (focus (intro _; go_simp; with_reducible rfl)); simp only [Act.put, List.setIfInBounds_toArray, List.set_cons_zero, List.set_cons_succ])
        | (apply sg_read 0 0; (focus rfl); (focus (decide +kernel)); (focus (decide +kernel)); (focus rfl); (focus (intro ii w' l' u hR; rw [hR.1 (by omega)]; clear hR; go_simp; with_reducible rfl)); simp only [Act.put, List.setIfInBounds_toArray, List.set_cons_zero, List.set_cons_succ]))
      refine sg_turn_call 0 (v := .int .i64 y3) (f := 146) (args := #[.pointer (some ⟨R, 0, none⟩), .int .i64 nl]) rfl rfl (fun _ => by first | (go_simp; done) | (go_simp; exact ⟨rfl, rfl⟩)) (fun W hR => by
        rw [hR.1 rfl]
        refine C3.out.mono ?_
        rintro e w' ⟨rfl, rfl⟩
        exact ⟨rfl, fun h => by omega, fun _ => rfl, fun h => by omega⟩) ?_
      simp only [Act.put, List.setIfInBounds_toArray, List.set_cons_zero, List.set_cons_succ]
      refine sg_any rfl rfl (fun _ => by go_simp; with_reducible rfl) ?_
      simp only [Act.put, List.setIfInBounds_toArray, List.set_cons_zero, List.set_cons_succ]
      refine sg_do 1 rfl rfl (fun W hR => ⟨W3.setCell ⟨Bx, 2, none⟩ (.int .i64 y3), by rw [hR.2.1 rfl]; clear hR; go_simp, fun h => by omega, fun h => by omega, fun _ => rfl⟩) ?_
      simp only [Act.put, List.setIfInBounds_toArray, List.set_cons_zero, List.set_cons_succ]
      refine sg_end (HF.out _ (fun w3 hR => ?_))
      obtain rfl := hR.2.2 rfl
      clear hR HF F' C3 e2 ez ff zz cc
      go_upto_region 7 with (fail)
      refine wp_gen (fun X2 hX2 => ?_)
      rw [← hX2] at HX2 bX2 BX2
      simp only [List.set_cons_succ, List.set_cons_zero] at bX2
      have hO3 := O3.out
      have hO2 := O2.out
      rw [HNL.out] at hO3 hO2
      obtain ⟨N1, N2⟩ := node_rel l ns m (by have := HR.out.hj; have := HR.out.cur.len; omega) O1.out hO2 hO3
      rw [HG.out (by first | rfl | trivial)] at N1 N2
      clear hX2 hO3 hO2 C2 C3 O1 O2 O3 HX0 HX1 bX0 bX1 BX0 BX1
      have hB2 : B ≤ X2.heap.size := Nat.le_trans hB BX2.out.size
      have q0 := bX2.out.cell 0
      have q1 := bX2.out.cell 1
      have q2 := bX2.out.cell 2
      have qz := bX2.out.lt
      have d1 := HX2.out.blk.cell 1
      have dz := HX2.out.blk.lt
      simp only [List.getElem?_cons_zero, List.getElem?_cons_succ] at q0 q1 q2 d1
      cases b3
      · obtain ⟨ly2, ly3, hxl, hpar⟩ := N2 rfl
        by_cases hyy : y2 = y3
        · have hy1 : ((y2 : Int) == (y3 : Int)) = true := by rw [hyy]; exact beq_self_eq_true _
          rw [if_pos (.inl hyy)] at hpar
          have HPAR := hid hpar
          clear N1 N2 hpar hyy
          refine wp_region_ext (by kernel_rfl) (by kernel_rfl) (fun F hF => ?_)
          have HF := hid hF; clear hF
          repeat (first
            | (apply text_skip; (focus rfl); simp only [Act.put, List.setIfInBounds_toArray, List.set_cons_zero, List.set_cons_succ])
            | (apply text_val; (focus rfl); (focus (intro _ _; go_simp; with_reducible rfl)); simp only [Act.put, List.setIfInBounds_toArray, List.set_cons_zero, List.set_cons_succ])
            | (apply text_if; (focus (first | exact wanted_t rfl rfl | exact wanted_f rfl rfl | exact wanted_gt rfl rfl | exact wanted_gf rfl rfl)); (focus (intro hc _ _; (try simp only [Bool.and_eq_true, Bool.not_eq_true', Bool.true_and] at hc); go_simp; with_reducible rfl)); simp only [Act.put, List.setIfInBounds_toArray, List.set_cons_zero, List.set_cons_succ]))
          refine text_nil (HF.out _ (fun mx dx => ?_))
          clear HF F
          go_wp2
          go_returns
          exact AllPost.no (Below.ext_mk BX2.out hB2 _ _) HPAR.out
        · have hy1 : ((y2 : Int) == (y3 : Int)) = false := beq_eq_false_iff_ne.2 (by omega)
          have T1 := hid (fun m d => top_at (HX2.out.below (Below.ext_mk (Below.refl _ _) (Nat.le_refl _) m d)) ly2 (by omega))
          have T2 := hid (fun m d => top_at (HX2.out.below (Below.ext_mk (Below.refl _ _) (Nat.le_refl _) m d)) ly3 (by omega))
          by_cases hmin : min 64 (min (topR ns y2) (topR ns y3)) ≤ (x : Int)
          · rw [if_pos (.inr hmin)] at hpar
            have HPAR := hid hpar
            clear N1 N2 hpar hyy
            generalize topR ns y2 = p2 at *
            generalize topR ns y3 = p3 at *
            obtain ⟨a1, hq1⟩ : ∃ a, (if p2 < 64 then p2 else 64) = a := ⟨_, rfl⟩
            obtain ⟨a2, hq2⟩ : ∃ a, (if p3 < a1 then p3 else a1) = a := ⟨_, rfl⟩
            have hmin2 : a2 ≤ (x : Int) := by
              rw [← hq2, ← hq1]
              split <;> split at * <;> omega
            clear hmin
            refine wp_region_ext (by kernel_rfl) (by kernel_rfl) (fun F hF => ?_)
            have HF := hid hF; clear hF
            repeat (first
              | (apply text_skip; (focus rfl); simp only [Act.put, List.setIfInBounds_toArray, List.set_cons_zero, List.set_cons_succ])
              | (apply text_val; (focus rfl); (focus (intro _ _; go_simp; with_reducible rfl)); simp only [Act.put, List.setIfInBounds_toArray, List.set_cons_zero, List.set_cons_succ])
              | (apply text_call; (focus rfl); (focus (intro _ _; go_simp; exact ⟨rfl, rfl⟩)); (focus (intro _ _; with_reducible (exact T1.out _ _))); simp only [Act.put, List.setIfInBounds_toArray, List.set_cons_zero, List.set_cons_succ])
              | (apply text_call; (focus rfl); (focus (intro _ _; go_simp; exact ⟨rfl, rfl⟩)); (focus (intro _ _; with_reducible (exact T2.out _ _))); simp only [Act.put, List.setIfInBounds_toArray, List.set_cons_zero, List.set_cons_succ])
              | (apply text_if; (focus (first | exact wanted_t rfl rfl | exact wanted_f rfl rfl | exact wanted_gt rfl rfl | exact wanted_gf rfl rfl)); (focus (intro hc _ _; (try simp only [Bool.and_eq_true, Bool.not_eq_true', Bool.true_and] at hc); go_simp; with_reducible rfl)); simp only [Act.put, List.setIfInBounds_toArray, List.set_cons_zero, List.set_cons_succ])
              | (apply text_if_call; (focus (first | exact wanted_t rfl rfl | exact wanted_f rfl rfl | exact wanted_gt rfl rfl | exact wanted_gf rfl rfl)); (focus (intro hc _ _; (try simp only [Bool.and_eq_true, Bool.not_eq_true', Bool.true_and] at hc); go_simp; exact ⟨rfl, rfl⟩)); (focus (intro hc _ _; with_reducible (exact T1.out _ _))); simp only [Act.put, List.setIfInBounds_toArray, List.set_cons_zero, List.set_cons_succ])
              | (apply text_if_call; (focus (first | exact wanted_t rfl rfl | exact wanted_f rfl rfl | exact wanted_gt rfl rfl | exact wanted_gf rfl rfl)); (focus (intro hc _ _; (try simp only [Bool.and_eq_true, Bool.not_eq_true', Bool.true_and] at hc); go_simp; exact ⟨rfl, rfl⟩)); (focus (intro hc _ _; with_reducible (exact T2.out _ _))); simp only [Act.put, List.setIfInBounds_toArray, List.set_cons_zero, List.set_cons_succ]))
            refine text_nil (HF.out _ (fun mx dx => ?_))
            clear HF F
            go_wp2
            go_returns
            exact AllPost.no (Below.ext_mk BX2.out hB2 _ _) HPAR.out
          · rw [if_neg (fun q => q.elim hyy hmin)] at hpar
            have HPAR := hid hpar
            clear N1 N2 hpar hyy
            generalize topR ns y2 = p2 at *
            generalize topR ns y3 = p3 at *
            obtain ⟨a1, hq1⟩ : ∃ a, (if p2 < 64 then p2 else 64) = a := ⟨_, rfl⟩
            obtain ⟨a2, hq2⟩ : ∃ a, (if p3 < a1 then p3 else a1) = a := ⟨_, rfl⟩
            have hmin2 : ¬ a2 ≤ (x : Int) := by
              rw [← hq2, ← hq1]
              split <;> split at * <;> omega
            clear hmin
            refine wp_region_ext (by kernel_rfl) (by kernel_rfl) (fun F hF => ?_)
            have HF := hid hF; clear hF
            repeat (first
              | (apply text_skip; (focus rfl); simp only [Act.put, List.setIfInBounds_toArray, List.set_cons_zero, List.set_cons_succ])
              | (apply text_val; (focus rfl); (focus (intro _ _; go_simp; with_reducible rfl)); simp only [Act.put, List.setIfInBounds_toArray, List.set_cons_zero, List.set_cons_succ])
              | (apply text_call; (focus rfl); (focus (intro _ _; go_simp; exact ⟨rfl, rfl⟩)); (focus (intro _ _; with_reducible (exact T1.out _ _))); simp only [Act.put, List.setIfInBounds_toArray, List.set_cons_zero, List.set_cons_succ])
              | (apply text_call; (focus rfl); (focus (intro _ _; go_simp; exact ⟨rfl, rfl⟩)); (focus (intro _ _; with_reducible (exact T2.out _ _))); simp only [Act.put, List.setIfInBounds_toArray, List.set_cons_zero, List.set_cons_succ])
              | (apply text_if; (focus (first | exact wanted_t rfl rfl | exact wanted_f rfl rfl | exact wanted_gt rfl rfl | exact wanted_gf rfl rfl)); (focus (intro hc _ _; (try simp only [Bool.and_eq_true, Bool.not_eq_true', Bool.true_and] at hc); go_simp; with_reducible rfl)); simp only [Act.put, List.setIfInBounds_toArray, List.set_cons_zero, List.set_cons_succ])
              | (apply text_if_call; (focus (first | exact wanted_t rfl rfl | exact wanted_f rfl rfl | exact wanted_gt rfl rfl | exact wanted_gf rfl rfl)); (focus (intro hc _ _; (try simp only [Bool.and_eq_true, Bool.not_eq_true', Bool.true_and] at hc); go_simp; exact ⟨rfl, rfl⟩)); (focus (intro hc _ _; with_reducible (exact T1.out _ _))); simp only [Act.put, List.setIfInBounds_toArray, List.set_cons_zero, List.set_cons_succ])
              | (apply text_if_call; (focus (first | exact wanted_t rfl rfl | exact wanted_f rfl rfl | exact wanted_gt rfl rfl | exact wanted_gf rfl rfl)); (focus (intro hc _ _; (try simp only [Bool.and_eq_true, Bool.not_eq_true', Bool.true_and] at hc); go_simp; exact ⟨rfl, rfl⟩)); (focus (intro hc _ _; with_reducible (exact T2.out _ _))); simp only [Act.put, List.setIfInBounds_toArray, List.set_cons_zero, List.set_cons_succ]))
            refine text_nil (HF.out _ (fun mx dx => ?_))
            clear HF F
            go_upto_region 9 with (fail)
            refine wp_gen (fun X3 hX3 => ?_)
            have hb3 : Below X2.heap.size X2 X3 := by rw [hX3]; exact Below.ext_mk (Below.refl _ _) (Nat.le_refl _) _ _
            have HX3 := HX2.out.below hb3
            have HXd := HX3.below (Below.drew (Below.refl _ X3))
            have bXd := (bX2.out.below hb3).below (Below.drew (Below.refl _ X3))
            have BXd := BX2.out.trans ((hb3.mono hB2).trans (Below.drew (Below.refl B X3)))
            obtain ⟨v', W1, G', g1, g2, g3, g4⟩ := node_one HXd.nrow (by omega) ((x : Int), (y2 : Int), (y3 : Int))
            have hBd : B ≤ X3.drew.heap.size := Nat.le_trans hB2 hb3.size
            obtain ⟨HN, BN⟩ := HXd.node g2 g3 g4 hBd
            have c2 := HXd.blk.cell 2
            have cz := HXd.blk.lt
            simp only [List.getElem?_cons_zero, List.getElem?_cons_succ] at c2
            have kR : W1.heap[R]? = X3.drew.heap[R]? := g4.block R cz (fun hm => (HXd.g1 R (by simpa using hm)).2 rfl)
            have e2 := (cell_of_heap 2 kR).trans c2
            have f2 : W1.frozen? ⟨R, 2, none⟩ = false := (HXd.blk.keep kR).free 2
            have fz : R < W1.heap.size := Nat.lt_of_lt_of_le cz g4.size
            have Q1 := hid g1
            have HN := hid HN
            have BN := hid (BXd.trans BN)
            have BD := hid bXd
            obtain ⟨sb, sc', rfl, _⟩ := RowIs.form g2
            obtain ⟨nl2, hnl2⟩ : ∃ k, k = (ns ++ [((x : Int), (y2 : Int), (y3 : Int))]).length := ⟨_, rfl⟩
            rw [← hnl2] at Q1 HN BN
            have HNL2 := hid hnl2
            have c2' := HX3.blk.cell 2
            have cz' := HX3.blk.lt
            simp only [List.getElem?_cons_zero, List.getElem?_cons_succ] at c2'
            clear hX3 hb3 HX3 HXd bXd BXd g1 g2 g3 g4 hBd kR hnl2 q0 q1 q2 qz d1 dz hmin2 hq1 hq2
            refine wp_region_stage [6, 7, 10] (fun i W => (i = 0 → W = X3.drew) ∧ (i = 1 → W = X3.drew.alloc (.cells #[.int .i64 x, .int .i64 y2, .int .i64 y3] 39)) ∧ (i = 2 → W = W1) ∧ (i = 3 → W = W1.setCell ⟨R, 2, none⟩ (.slice sb nl2 sc'))) (by kernel_rfl) (by kernel_rfl) (by kernel_rfl) (by kernel_rfl) ⟨fun _ => rfl, fun h => by omega, fun h => by omega, fun h => by omega⟩ (fun F' hF' => ?_)
            have HF := hid hF'
            clear hF'
            iterate 4 (refine sg_any rfl rfl (fun _ => by go_simp; with_reducible rfl) ?_; simp only [Act.put, List.setIfInBounds_toArray, List.set_cons_zero, List.set_cons_succ])
            refine sg_read 0 1 rfl (by decide +kernel) (by decide +kernel) rfl (fun ii w' l' u hR => by
              rcases (show ii = 0 ∨ ii = 1 by omega) with rfl | rfl
              · rw [hR.1 rfl]; clear hR; go_simp; with_reducible rfl
              · rw [hR.2.1 rfl]; clear hR; first | (go_simp; done) | (go_simp; with_reducible rfl)) ?_
            simp only [Act.put, List.setIfInBounds_toArray, List.set_cons_zero, List.set_cons_succ]
            refine sg_read 0 0 rfl (by decide +kernel) (by decide +kernel) rfl (fun ii w' l' u hR => by
              rw [hR.1 (by omega)]
              exact load_struct_op _ _ _ _ _ _ _ _ Try.underlying39 (branchy_size _ _ _) rfl BD.out) ?_
            simp only [Act.put, List.setIfInBounds_toArray, List.set_cons_zero, List.set_cons_succ]
            refine sg_turn 0 (v := .slice (some ⟨X3.drew.heap.size, 0, none⟩) 1 1) rfl rfl (fun W hR => ⟨X3.drew.alloc (.cells #[.int .i64 x, .int .i64 y2, .int .i64 y3] 39), by rw [hR.1 rfl]; clear hR; go_simp, fun h => by omega, fun _ => rfl, fun h => by omega, fun h => by omega⟩) ?_
            simp only [Act.put, List.setIfInBounds_toArray, List.set_cons_zero, List.set_cons_succ]
            refine sg_turn 1 (v := .slice sb nl2 sc') rfl rfl (fun W hR => ⟨W1, by rw [hR.2.1 rfl]; clear hR; exact run_append_op _ _ _ _ _ _ _ _ _ Q1.out, fun h => by omega, fun h => by omega, fun _ => rfl, fun h => by omega⟩) ?_
            simp only [Act.put, List.setIfInBounds_toArray, List.set_cons_zero, List.set_cons_succ]
            iterate 2 (refine sg_any rfl rfl (fun _ => by go_simp; with_reducible rfl) ?_; simp only [Act.put, List.setIfInBounds_toArray, List.set_cons_zero, List.set_cons_succ])
            refine sg_do 2 rfl rfl (fun W hR => ⟨W1.setCell ⟨R, 2, none⟩ (.slice sb nl2 sc'), by rw [hR.2.2.1 rfl]; clear hR; go_simp, fun h => by omega, fun h => by omega, fun h => by omega, fun _ => rfl⟩) ?_
            simp only [Act.put, List.setIfInBounds_toArray, List.set_cons_zero, List.set_cons_succ]
            refine sg_end (HF.out _ (fun w3 hR => ?_))
            obtain rfl := hR.2.2.2 rfl
            clear hR HF F' Q1 c2 c2' cz cz' e2 f2 fz BD
            go_wp2_with fail
            go_roundw
            case rel =>
              refine ⟨m, j3, false, ns ++ [((x : Int), (y2 : Int), (y3 : Int))], _, some G', by go_num, HN.out, BN.out, by simp; omega, fun _ => HPAR.out.symm, fun h => (by cases h)⟩
            case measure => first | (simp [intOf]; done) | (simp [intOf]; omega)
      · have HPAR := hid (N1 rfl)
        clear N1 N2
        refine wp_region_ext (by kernel_rfl) (by kernel_rfl) (fun F hF => ?_)
        have HF := hid hF; clear hF
        repeat (first
          | (apply text_skip; (focus rfl); simp only [Act.put, List.setIfInBounds_toArray, List.set_cons_zero, List.set_cons_succ])
          | (apply text_val; (focus rfl); (focus (intro _ _; go_simp; with_reducible rfl)); simp only [Act.put, List.setIfInBounds_toArray, List.set_cons_zero, List.set_cons_succ])
          | (apply text_if; (focus (first | exact wanted_t rfl rfl | exact wanted_f rfl rfl | exact wanted_gt rfl rfl | exact wanted_gf rfl rfl)); (focus (intro hc _ _; (try simp only [Bool.and_eq_true, Bool.not_eq_true', Bool.true_and] at hc); go_simp; with_reducible rfl)); simp only [Act.put, List.setIfInBounds_toArray, List.set_cons_zero, List.set_cons_succ]))
        refine text_nil (HF.out _ (fun mx dx => ?_))
        clear HF F
        go_wp2
        go_returns
        exact AllPost.no (Below.ext_mk BX2.out hB2 _ _) HPAR.out
end
end Go.Proofs.Ytboekafmplomhaa
set_option linter.unusedVariables false
set_option linter.unusedSimpArgs false
namespace Go.Proofs.Ytboekafmplomhaa
open Go.RowKit

/-- The reader, read by the closure of canonical. -/
structure RdC (q1 R : Nat) (G1 : Option Nat) (ns : List Nd) (w : World) : Prop where
  c1 : w.cell? ⟨q1, 0, none⟩ = some (.pointer (some ⟨R, 0, none⟩))
  z1 : q1 < w.heap.size
  row : ∃ x0 x1 nv x3, Blk w R 150 [x0, x1, nv, x3] ∧ RowIs w nv G1 39 3 ns.length (flat ns)
section
variable {q1 R : Nat} {G1 : Option Nat} {ns : List Nd} {w w' : World}
theorem RdC.keep (h : RdC q1 R G1 ns w) (hk : ∀ k ∈ q1 :: R :: G1.toList, w'.heap[k]? = w.heap[k]?) : RdC q1 R G1 ns w' := by
  obtain ⟨x0, x1, nv, x3, hb, hr⟩ := h.row
  have h1 := hk q1 (by simp)
  refine ⟨(cell_of_heap 0 h1).trans h.c1, ?_, x0, x1, nv, x3, hb.keep (hk R (by simp)), RowIs.keep hr (fun g hg => hk g (by simp [hg]))⟩
  have e : w'.heap[q1]? ≠ none := by rw [h1]; simp [h.z1]
  exact Nat.lt_of_not_le (fun hle => e (Array.getElem?_eq_none hle))
theorem RdC.lt (h : RdC q1 R G1 ns w) : ∀ k ∈ q1 :: R :: G1.toList, k < w.heap.size := by
  obtain ⟨x0, x1, nv, x3, hb, hr⟩ := h.row
  intro k hk
  simp only [List.mem_cons, Option.mem_toList] at hk
  rcases hk with rfl | rfl | hk
  · exact h.z1
  · exact hb.lt
  · exact RowIs.lt hr k hk
set_option maxHeartbeats 4000000 in
theorem can1_any (h : RdC q1 R G1 ns w) {a : Int} (ha : okR ns a) (hn : ns.length ≤ 8388608) :
    Calls Try.prog 149 #[.int .i64 a, .pointer (some ⟨q1, 0, none⟩)] w (Pure (.tuple #[.agg #[.int .i64 (atR ns a).1.1, .int .i64 (atR ns a).1.2.1, .int .i64 (atR ns a).1.2.2], .bool (atR ns a).2]) w) := by
  obtain ⟨x0, x1, nv, x3, hb, hr⟩ := h.row
  have c1 := h.c1
  have z1 := h.z1
  have c2 := hb.cell 2
  have z := hb.lt
  simp only [List.getElem?_cons_zero, List.getElem?_cons_succ] at c2
  by_cases h2 : a < 2
  · have e : atR ns a = ((0, 0, 0), false) := by unfold atR; rw [if_pos h2]
    rw [e]
    clear e h hb hr c2 z c1 z1
    go_enter Try.func149, Try.ntmps149
    go_wp2
    refine bodyPost_ret (v := .tuple #[.agg #[.int .i64 0, .int .i64 0, .int .i64 0], .bool false]) (by simp [results, Try.results149, go_sem]) rfl ?_
    exact Pure.of rfl (by (repeat' (first | (with_reducible exact Below.refl _ _) | (with_reducible refine Below.ext_mk ?_ ?_ _ _) | (with_reducible refine Below.alloc ?_ ?_ _) | (with_reducible refine Below.drew ?_) | (with_reducible refine Below.setCell ?_ ?_ _) | go_size)))
  · obtain ⟨i, rfl⟩ : ∃ i : Nat, a = (i : Int) + 2 := ⟨(a - 2).toNat, by unfold okR at ha; omega⟩
    have hi : i < ns.length := by unfold okR at ha; omega
    have hx : ns[i]? = some ns[i] := List.getElem?_eq_getElem hi
    have e : atR ns ((i : Int) + 2) = (ns[i], true) := by
      unfold atR
      rw [if_neg h2, show ((i : Int) + 2 - 2).toNat = i by omega, hx]
      rfl
    rw [e]
    have hrd := RowIs.rd hr
    obtain ⟨sa, sc, rfl, _⟩ := RowIs.form hr
    obtain ⟨b', off', rfl, hb1, g0, g1, g2⟩ := Rd.nodeAt hrd hx
    generalize ns[i] = x at *
    have ws : IntKind.i64.wrap (i : Int) = (i : Int) := IntWalk.i64_in _ (by omega)
    have hil : (i : Int) < (ns.length : Int) := by omega
    have hi0 : (0 : Int) ≤ (i : Int) := by omega
    have HI := hid (And.intro hi ha)
    clear h hrd e hx hi ha hb hr
    go_enter Try.func149, Try.ntmps149
    go_wp2
    refine bodyPost_ret (v := .tuple #[.agg #[.int .i64 x.1, .int .i64 x.2.1, .int .i64 x.2.2], .bool true]) (by simp [results, Try.results149, go_sem]) rfl ?_
    exact Pure.of rfl (by (repeat' (first | (with_reducible exact Below.refl _ _) | (with_reducible refine Below.ext_mk ?_ ?_ _ _) | (with_reducible refine Below.alloc ?_ ?_ _) | (with_reducible refine Below.drew ?_) | (with_reducible refine Below.setCell ?_ ?_ _) | go_size)))
theorem src_can (hN : NsOk ns) (hn : ns.length ≤ 8388608) (q1 R : Nat) (G1 : Option Nat) : AtSrc 149 #[] #[.pointer (some ⟨q1, 0, none⟩)] (q1 :: R :: G1.toList) (RdC q1 R G1 ns) (atR ns) (fun a => a.toNat) (okR ns) where
  keep w w' h hk := h.keep hk
  lt w h := h.lt
  enter args w := by simp [go_sem]
  call w h a ha := can1_any h ha hn
  lo a ho h := atR_lo hN a ho h
  hi a ho h := atR_hi hN a ho h
theorem ordR_inv {rs : List Int} (hN : NsOk ns) (hr : ∀ r ∈ rs, okR ns r) :
    ∃ K, OrdInv (atR ns) (okR ns) K (ordR ns rs).1 ∧ (∀ a ∈ rs, Kn (atR ns) K a) ∧ (ordR ns rs).2 = rs.map (numK K) := by
  obtain ⟨h1, _, h3, h4⟩ := ordL_inv (rk := fun a => a.toNat) (atR_lo hN) (atR_hi hN) (ns.length + 2) rs [(1, 1)] [] [] (fun a ha => ⟨hr a ha, by have := hr a ha; unfold okR at this; omega⟩) (OrdInv.start _ _)
  refine ⟨_, h1, h3, ?_⟩
  unfold ordR
  rw [h4, List.nil_append]
theorem ordR_len {rs : List Int} (hN : NsOk ns) (hr : ∀ r ∈ rs, okR ns r) : (ordR ns rs).1.length ≤ ns.length := by
  obtain ⟨K, h, _, _⟩ := ordR_inv hN hr
  generalize (ordR ns rs).1 = ms at *
  have key : ∀ i : Nat, i < ms.length → ∃ k : Nat, k < ns.length ∧ aget K ((k : Int) + 2) = some ((i : Int) + 2) := fun i hi => by
    obtain ⟨a, ha⟩ := h.all i hi
    rcases h.num a _ ha with ⟨_, e⟩ | ⟨_, ho, ht, _⟩
    · omega
    · obtain ⟨k, n, rfl, hn, _⟩ := atR_yes ho ht
      exact ⟨k, (List.getElem?_eq_some_iff.1 hn).1, ha⟩
  refine pigeon ns.length ms.length (fun i => if hi : i < ms.length then (key i hi).choose else 0) (fun i hi => ?_) (fun i j hi hj e => ?_)
  · simp only [hi, dite_true]
    exact (key i hi).choose_spec.1
  · simp only [hi, hj, dite_true] at e
    have h1 := (key i hi).choose_spec.2
    have h2 := (key j hj).choose_spec.2
    rw [e] at h1
    rw [h1] at h2
    injection h2 with h2
    omega
theorem aget_not {ls : List Nd} {x : Nd} (h : x ∉ ls) : aget (ls.map (fun a => (a, (1 : Int)))) x = none := by rw [← aidx_aget x _ 0, aidx_none x ls 0 h]; rfl
theorem aget_in {ls : List Nd} {x : Nd} (h : x ∈ ls) : aget (ls.map (fun a => (a, (1 : Int)))) x = some 1 := by
  obtain ⟨j, _, e⟩ := aidx_some x ls 0 h
  rw [← aidx_aget x _ 0, e]; rfl
theorem not_nodup {ls : List Nd} {j : Nat} (hj : j < ls.length) (h : ls[j] ∈ ls.take j) : ¬ ls.Nodup := fun hn => by
  obtain ⟨i, hi, e⟩ := List.getElem_of_mem h
  have h1 : i < j := by simp at hi; omega
  rw [List.getElem_take] at e
  have := (List.getElem_inj (h₀ := by omega) (h₁ := hj) hn).1 e
  omega
theorem guard_node : Try.prog.eqGuardType Try.prog.depth 39 = false := by kernel_rfl
theorem neq_node_op (a : Act) (dst : Option Tmp) (t : TypeId) (x y : Operand) (pos : String) (after : Array Edge) (guard : Option (Nat × Bool)) (o : TypeId) {n m : Nd} (hx : a.eval x = kv n) (hy : a.eval y = kv m) (w : World) :
    (execOp a.eval { dst, op := .binOp .neq 39 x y o, type := t, pos, after, guard }).run Try.prog w = .ok (.value (.bool (!decide (n = m)))) w := by
  have h1 : (eqGuard .neq 39 x y (kv n) (kv m)).run Try.prog w = .ok () w := by
    unfold eqGuard
    have hp : (program).run Try.prog w = .ok Try.prog w := rfl
    simp [go_sem, hp, guard_node]
  have h2 : (binOp .neq 39 (kv n) (kv m)).run Try.prog w = .ok (.bool (!decide (n = m))) w := by
    have h := key_node.eq n m w
    simp [binOp, go_sem, h]
  unfold execOp
  simp only [hx, hy, Sem.run_bind, Sem.run_pure, Result.andThen_ok, h1, h2]
set_option maxRecDepth 100000 in
set_option maxHeartbeats 16000000 in
theorem canonical_any {B b off n c j : Nat} {l : List Nat} {rs : List Int} {nv rv : Value} {G2 : Option Nat} (h : Rdr B w R b off n c l j false ns rs nv rv G1 G2) (hN : NsOk ns) (hr : ∀ r ∈ rs, okR ns r) (hn : ns.length ≤ 8388608) (hrl : rs.length ≤ 64) :
    Calls Try.prog 128 #[.pointer (some ⟨R, 0, none⟩)] w (fun e w' => e = .returned (.bool (canV ns rs)) ∧ Below w.heap.size w w') := by
  have hmm := @run_makeMap Try.prog
  have hmf : ∀ (fn : Fn) (first cap : Array Value) (w : World), (Instr.makeFunc fn first cap).run Try.prog w = .ok (.func fn first cap) w := fun _ _ _ _ => rfl
  obtain ⟨sa, sc, rfl, _⟩ := RowIs.form h.nrow
  obtain ⟨ra, rc, rfl, _⟩ := RowIs.form h.rrow
  have H := hid h
  obtain ⟨cv, hcv0⟩ : ∃ cv, cv = canV ns rs := ⟨_, rfl⟩
  rw [← hcv0]
  have HCV := hid hcv0
  clear hcv0
  go_enter Try.func128, Try.ntmps128
  go_upto_region 2 with (fail)
  refine wp_gen (fun V hV => ?_)
  have hbV : Below w.heap.size w V := by rw [hV]; (repeat' (first | (with_reducible exact Below.refl _ _) | (with_reducible refine Below.ext_mk ?_ ?_ _ _) | (with_reducible refine Below.alloc ?_ ?_ _) | (with_reducible refine Below.drew ?_) | (with_reducible refine Below.setCell ?_ ?_ _) | go_size))
  have hw1 : w.heap.size + 1 < V.heap.size := by rw [hV]; simp
  have k1 : V.cell? ⟨w.heap.size, 0, none⟩ = some (.pointer (some ⟨R, 0, none⟩)) := by rw [hV]; go_simp
  have kM : ByIs kv V (w.heap.size + 1) ([] : List Nd) := by
    rw [hV]
    have h := World.heap_alloc_last (w.alloc (.cells #[.pointer (some ⟨R, 0, none⟩)] 146)) (.map #[] 0)
    rw [World.size_alloc] at h
    exact h
  obtain ⟨q1, hq1⟩ : ∃ q, q = w.heap.size := ⟨_, rfl⟩
  obtain ⟨mb, hmb⟩ : ∃ q, q = w.heap.size + 1 := ⟨_, rfl⟩
  rw [← hq1] at k1
  rw [← hmb] at kM hw1
  have RC : RdC q1 R G1 ns V := ⟨k1, by omega, _, _, _, _, h.blk.below hbV, RowIs.keep h.nrow (fun g hg => hbV.block g (RowIs.lt h.nrow g hg))⟩
  have RR : RowIs V (.slice ra rs.length rc) G2 3 1 rs.length (ints rs) := RowIs.keep h.rrow (fun g hg => hbV.block g (RowIs.lt h.rrow g hg))
  have hF : ∀ k, k < w.heap.size → k ≠ mb := fun k hk => by omega
  have AT := hid (fun (W : World) (st : StoStep V W [mb] [mb]) => (show RdC q1 R G1 ns W ∧ RowIs W (.slice sa ns.length sc) G1 39 3 ns.length (flat ns) ∧ RowIs W (.slice ra rs.length rc) G2 3 1 rs.length (ints rs) ∧ W.cell? ⟨R, 2, none⟩ = some (.slice sa ns.length sc) ∧ W.cell? ⟨R, 3, none⟩ = some (.slice ra rs.length rc) ∧ R < W.heap.size from by
    have hne : ∀ k, k ∈ q1 :: R :: G1.toList → k ≠ mb := fun k hk => by
      simp only [List.mem_cons, Option.mem_toList] at hk
      rcases hk with rfl | rfl | hk
      · omega
      · have := h.blk.lt; omega
      · have := RowIs.lt h.nrow k hk; omega
    have kR : W.heap[R]? = V.heap[R]? := st.block R (Nat.lt_of_lt_of_le h.blk.lt hbV.size) (by simp; exact hne R (by simp))
    have bR := (h.blk.below hbV).keep kR
    refine ⟨RC.keep (fun k hk => st.block k (RC.lt k hk) (by simp; exact hne k hk)), RowIs.keep (RowIs.keep h.nrow (fun g hg => hbV.block g (RowIs.lt h.nrow g hg))) (fun g hg => st.block g (Nat.lt_of_lt_of_le (RowIs.lt h.nrow g hg) hbV.size) (by simp; exact hne g (by simp [hg]))),
      RowIs.keep RR (fun g hg => st.block g (RowIs.lt RR g hg) (by simp; have := RowIs.lt h.rrow g hg; omega)), by simpa using bR.cell 2, by simpa using bR.cell 3, bR.lt⟩))
  have RC := hid RC
  have KM := hid kM
  have HB := hid (And.intro hbV (And.intro hq1 (And.intro hmb hw1)))
  have d2 := (h.blk.below hbV).cell 2
  have dz := (h.blk.below hbV).lt
  have zq : q1 < V.heap.size := by omega
  simp only [List.getElem?_cons_zero, List.getElem?_cons_succ] at d2
  rw [← hmb, ← hq1]
  clear hV kM RR hF h hbV hw1 hq1 hmb hmm
  go_wp2_with fail
  go_loopw [16] (fun iv wr => ∃ j : Nat, j ≤ ns.length ∧ iv = .int .i64 j ∧ ByIs kv wr mb (ns.take j) ∧ (ns.take j).Nodup ∧ StoStep V wr [mb] [mb]) (fun iv _ => ns.length - (intOf iv).toNat)
  case atStart => exact ⟨0, by omega, rfl, KM.out, by simp, StoStep.refl _ _⟩
  case round =>
    obtain ⟨j, hj, rfl, hB, hND, hst⟩ := hrel
    have HST := hid hst
    have HND := hid hND
    obtain ⟨A1, A2, A3, A4, A5, A6⟩ := AT.out wr hst
    have HBY := hid hB
    clear hB hst hND d2 dz zq k1
    by_cases hlt : j < ns.length
    · have hj1 : (j : Int) < (ns.length : Int) := by omega
      have hx := List.getElem?_eq_getElem hlt
      obtain ⟨b', off', rfl, hb1, g0, g1, g2⟩ := Rd.nodeAt (RowIs.rd A2) hx
      have TK : ns.take (j + 1) = ns.take j ++ [ns[j]] := by rw [List.take_add_one, hx]; rfl
      have NN := hid (fun h => not_nodup (ls := ns) hlt h)
      generalize ns[j] = x at *
      have TK := hid TK
      clear hx A1 A2 A3 A4 A5 A6
      go_upto_region 5 with (fail)
      refine wp_gen (fun X hX => ?_)
      have hbX : Below wr.heap.size wr X := by rw [hX]; (repeat' (first | (with_reducible exact Below.refl _ _) | (with_reducible refine Below.ext_mk ?_ ?_ _ _) | (with_reducible refine Below.alloc ?_ ?_ _) | (with_reducible refine Below.drew ?_) | (with_reducible refine Below.setCell ?_ ?_ _) | go_size))
      have bX : Blk X wr.heap.size 39 [.int .i64 x.1, .int .i64 x.2.1, .int .i64 x.2.2] := by rw [hX]; exact World.heap_alloc_last wr _
      have hby : ByIs kv X.drew mb (ns.take j) := HBY.out.keep ((Below.drew hbX).block mb (Array.getElem?_eq_some_iff.1 HBY.out).1)
      have hBm : wr.heap.size ≠ mb := fun e => by have := (Array.getElem?_eq_some_iff.1 HBY.out).1; omega
      obtain ⟨Bx, hBx⟩ : ∃ b, b = wr.heap.size := ⟨_, rfl⟩
      rw [← hBx] at bX hBm ⊢
      have bXd := bX.below (Below.drew (Below.refl _ X))
      have hst1 := hid ((HST.out.trans (StoStep.of_below hbX)).trans (StoStep.of_below (F := [mb]) (Below.drew (Below.refl X.heap.size X))))
      clear hX hbX g0 g1 g2 hb1 hBx
      by_cases hin : x ∈ ns.take j
      · have NN2 := hid (NN.out hin)
        obtain ⟨o1, o2, st, e1, e2, e3, e4⟩ := entry_old key_node Try.underlying44 hby hin
        have l0 := fun ok => lookup_run (w := X.drew) key_node Try.underlying44 (zero_int _) hby.map x ok
        have l1 := fun ok => lookup_run (w := X.drew.putObj mb o1) key_node Try.underlying44 (zero_int _) e2 x ok
        have l2 := fun ok => lookup_run (w := X.drew.putObj mb o2) key_node Try.underlying44 (zero_int _) e4 x ok
        rw [aget_in hin] at l0 l1
        rw [aget_aput, if_pos rfl] at l2
        have l0 := l0 false
        have l1 := l1 false
        have l2 := l2 false
        simp only [Bool.false_eq_true, if_false, Option.getD_some] at l0 l1 l2
        have bX2 : Blk (X.drew.putObj mb o2) Bx 39 [.int .i64 x.1, .int .i64 x.2.1, .int .i64 x.2.2] := bXd.keep (World.heap_putObj_ne _ _ hBm)
        have L0 := hid l0
        have L1 := hid l1
        have E1 := hid e1
        have E3 := hid e3
        have BXD := hid bXd
        have hz2 := hst1.out.trans (StoStep.put (w := X.drew) (F := [mb]) (b := mb) (by simp) o2)
        have HZ2 := hid hz2
        clear l0 l1 e1 e2 e3 e4 bX bXd hz2 hst1
        refine wp_region_stage [4, 6] (fun i W => (i = 0 → W = X.drew) ∧ (i = 1 → W = X.drew.putObj mb o1) ∧ (i = 2 → W = X.drew.putObj mb o2)) (by kernel_rfl) (by kernel_rfl) (by kernel_rfl) (by kernel_rfl) ⟨fun _ => rfl, fun h => by omega, fun h => by omega⟩ (fun F' hF' => ?_)
        have HF := hid hF'
        clear hF'
        refine sg_any rfl rfl (fun _ => by go_simp; with_reducible rfl) ?_
        simp only [Act.put, List.setIfInBounds_toArray, List.set_cons_zero, List.set_cons_succ]
        refine sg_read 0 0 rfl (by decide +kernel) (by decide +kernel) rfl (fun ii w' l' u hR => by
          rw [hR.1 (by omega)]
          exact load_struct_op _ _ _ _ _ _ _ _ Try.underlying39 (branchy_size _ _ _) rfl BXD.out) ?_
        simp only [Act.put, List.setIfInBounds_toArray, List.set_cons_zero, List.set_cons_succ]
        refine sg_read 0 1 rfl (by decide +kernel) (by decide +kernel) rfl (fun ii w' l' u hR => by
          rcases (show ii = 0 ∨ ii = 1 by omega) with rfl | rfl
          · rw [hR.1 rfl]; clear hR; have h := L0.out; first | (go_simp; done) | (go_simp; with_reducible rfl)
          · rw [hR.2.1 rfl]; clear hR; have h := L1.out; first | (go_simp; done) | (go_simp; with_reducible rfl)) ?_
        simp only [Act.put, List.setIfInBounds_toArray, List.set_cons_zero, List.set_cons_succ]
        refine sg_any rfl rfl (fun _ => by go_simp; with_reducible rfl) ?_
        simp only [Act.put, List.setIfInBounds_toArray, List.set_cons_zero, List.set_cons_succ]
        refine sg_turn 0 (v := .tuple #[.int .i64 1, .int .i64 st]) rfl rfl (fun W hR => ⟨X.drew.putObj mb o1, by rw [hR.1 rfl]; clear hR; have h := E1.out; go_simp, fun h => by omega, fun _ => rfl, fun h => by omega⟩) ?_
        simp only [Act.put, List.setIfInBounds_toArray, List.set_cons_zero, List.set_cons_succ]
        refine sg_any rfl rfl (fun _ => by go_simp; with_reducible rfl) ?_
        simp only [Act.put, List.setIfInBounds_toArray, List.set_cons_zero, List.set_cons_succ]
        refine sg_do 1 rfl rfl (fun W hR => ⟨X.drew.putObj mb o2, by rw [hR.2.1 rfl]; clear hR; have h := E3.out; have w1 : IntKind.i64.wrap 1 = 1 := (by decide); have w2 : IntKind.i64.wrap 2 = 2 := (by decide); go_simp, fun h => by omega, fun h => by omega, fun _ => rfl⟩) ?_
        simp only [Act.put, List.setIfInBounds_toArray, List.set_cons_zero, List.set_cons_succ]
        refine sg_end (HF.out _ (fun w3 hR => ?_))
        obtain rfl := hR.2.2 rfl
        clear hR HF F' L0 L1 E1 E3 BXD
        generalize X.drew.putObj mb o2 = Y at *
        go_upto_region 6 with (fail)
        refine wp_region_doc (fun F' hF => ?_)
        have HF := hid hF
        clear hF
        refine doc_val rfl (by first | (go_simp; done) | (go_simp; exact ⟨rfl, rfl⟩) | (go_simp; with_reducible rfl)) ?_
        simp only [Act.put, List.setIfInBounds_toArray, List.set_cons_zero, List.set_cons_succ]
        refine doc_val rfl (load_struct_op _ _ _ _ _ _ _ _ Try.underlying39 (branchy_size _ _ _) rfl bX2) ?_
        simp only [Act.put, List.setIfInBounds_toArray, List.set_cons_zero, List.set_cons_succ]
        iterate 2 (refine doc_val rfl (by first | (go_simp; done) | (go_simp; exact ⟨rfl, rfl⟩) | (go_simp; with_reducible rfl)) ?_; simp only [Act.put, List.setIfInBounds_toArray, List.set_cons_zero, List.set_cons_succ])
        refine doc_end (HF.out _ _ ?_)
        clear HF F' l2
        have hcv : canV ns rs = false := by unfold canV; rw [decide_eq_false NN2.out]; rfl
        have HCF := hid hcv
        clear hcv
        have hbY : Below w.heap.size w Y := HB.out.1.trans (HZ2.out.below (fun k hk => by simp at hk; have := HB.out.2.2.1; omega) HB.out.1.size)
        have HBY2 := hid hbY
        clear hbY
        go_wp2
        go_returns
        exact ⟨by rw [HCV.out, HCF.out]; rfl, HBY2.out⟩
      · obtain ⟨o1, o2, e1, e2, e3, e4⟩ := entry_new key_node Try.underlying44 zero_int hby hin
        have l0 := fun ok => lookup_run (w := X.drew) key_node Try.underlying44 (zero_int _) hby.map x ok
        have l1 := fun ok => lookup_run (w := X.drew.putObj mb o1) key_node Try.underlying44 (zero_int _) e2 x ok
        have l2 := fun ok => lookup_run (w := X.drew.putObj mb o2) key_node Try.underlying44 (zero_int _) e4.map x ok
        rw [aget_not hin] at l0
        rw [aget_aput, if_pos rfl] at l1
        rw [aget_in (by simp)] at l2
        have l0 := l0 false
        have l1 := l1 false
        have l2 := l2 false
        simp only [Bool.false_eq_true, if_false, Option.getD_some, Option.getD_none] at l0 l1 l2
        have hln : (ns.take j).length = j := by simp; omega
        rw [hln] at e1 e3
        have bX2 : Blk (X.drew.putObj mb o2) Bx 39 [.int .i64 x.1, .int .i64 x.2.1, .int .i64 x.2.2] := bXd.keep (World.heap_putObj_ne _ _ hBm)
        have L0 := hid l0
        have L1 := hid l1
        have E1 := hid e1
        have E3 := hid e3
        have E4 := hid e4
        have BXD := hid bXd
        have hz2 := hst1.out.trans (StoStep.put (w := X.drew) (F := [mb]) (b := mb) (by simp) o2)
        have HZ2 := hid hz2
        have HND2 := hid (show (ns.take (j + 1)).Nodup by
          rw [TK.out]
          exact List.nodup_append.2 ⟨HND.out, by simp, fun a ha b hb => by simp at hb; subst hb; exact fun e => hin (e ▸ ha)⟩)
        clear l0 l1 e1 e2 e3 e4 bX bXd hz2 hst1 hln hin hby
        refine wp_region_stage [4, 6] (fun i W => (i = 0 → W = X.drew) ∧ (i = 1 → W = X.drew.putObj mb o1) ∧ (i = 2 → W = X.drew.putObj mb o2)) (by kernel_rfl) (by kernel_rfl) (by kernel_rfl) (by kernel_rfl) ⟨fun _ => rfl, fun h => by omega, fun h => by omega⟩ (fun F' hF' => ?_)
        have HF := hid hF'
        clear hF'
        refine sg_any rfl rfl (fun _ => by go_simp; with_reducible rfl) ?_
        simp only [Act.put, List.setIfInBounds_toArray, List.set_cons_zero, List.set_cons_succ]
        refine sg_read 0 0 rfl (by decide +kernel) (by decide +kernel) rfl (fun ii w' l' u hR => by
          rw [hR.1 (by omega)]
          exact load_struct_op _ _ _ _ _ _ _ _ Try.underlying39 (branchy_size _ _ _) rfl BXD.out) ?_
        simp only [Act.put, List.setIfInBounds_toArray, List.set_cons_zero, List.set_cons_succ]
        refine sg_read 0 1 rfl (by decide +kernel) (by decide +kernel) rfl (fun ii w' l' u hR => by
          rcases (show ii = 0 ∨ ii = 1 by omega) with rfl | rfl
          · rw [hR.1 rfl]; clear hR; have h := L0.out; first | (go_simp; done) | (go_simp; with_reducible rfl)
          · rw [hR.2.1 rfl]; clear hR; have h := L1.out; first | (go_simp; done) | (go_simp; with_reducible rfl)) ?_
        simp only [Act.put, List.setIfInBounds_toArray, List.set_cons_zero, List.set_cons_succ]
        refine sg_any rfl rfl (fun _ => by go_simp; with_reducible rfl) ?_
        simp only [Act.put, List.setIfInBounds_toArray, List.set_cons_zero, List.set_cons_succ]
        refine sg_turn 0 (v := .tuple #[.int .i64 0, .int .i64 j]) rfl rfl (fun W hR => ⟨X.drew.putObj mb o1, by rw [hR.1 rfl]; clear hR; have h := E1.out; go_simp, fun h => by omega, fun _ => rfl, fun h => by omega⟩) ?_
        simp only [Act.put, List.setIfInBounds_toArray, List.set_cons_zero, List.set_cons_succ]
        refine sg_any rfl rfl (fun _ => by go_simp; with_reducible rfl) ?_
        simp only [Act.put, List.setIfInBounds_toArray, List.set_cons_zero, List.set_cons_succ]
        refine sg_do 1 rfl rfl (fun W hR => ⟨X.drew.putObj mb o2, by rw [hR.2.1 rfl]; clear hR; have h := E3.out; have w1 : IntKind.i64.wrap 1 = 1 := (by decide); have w2 : IntKind.i64.wrap 2 = 2 := (by decide); go_simp, fun h => by omega, fun h => by omega, fun _ => rfl⟩) ?_
        simp only [Act.put, List.setIfInBounds_toArray, List.set_cons_zero, List.set_cons_succ]
        refine sg_end (HF.out _ (fun w3 hR => ?_))
        obtain rfl := hR.2.2 rfl
        clear hR HF F' L0 L1 E1 E3 BXD
        generalize X.drew.putObj mb o2 = Y at *
        go_upto_region 6 with (fail)
        refine wp_region_doc (fun F' hF => ?_)
        have HF := hid hF
        clear hF
        refine doc_val rfl (by first | (go_simp; done) | (go_simp; exact ⟨rfl, rfl⟩) | (go_simp; with_reducible rfl)) ?_
        simp only [Act.put, List.setIfInBounds_toArray, List.set_cons_zero, List.set_cons_succ]
        refine doc_val rfl (load_struct_op _ _ _ _ _ _ _ _ Try.underlying39 (branchy_size _ _ _) rfl bX2) ?_
        simp only [Act.put, List.setIfInBounds_toArray, List.set_cons_zero, List.set_cons_succ]
        iterate 2 (refine doc_val rfl (by first | (go_simp; done) | (go_simp; exact ⟨rfl, rfl⟩) | (go_simp; with_reducible rfl)) ?_; simp only [Act.put, List.setIfInBounds_toArray, List.set_cons_zero, List.set_cons_succ])
        refine doc_end (HF.out _ _ ?_)
        clear HF F' l2
        have HYS := hid (show ByIs kv Y mb (ns.take (j + 1)) by rw [TK.out]; exact E4.out)
        go_wp2_with fail
        go_roundw
        case rel =>
          refine ⟨j + 1, by omega, by go_num, ?_, HND2.out, ?_⟩
          · refine HYS.out.keep ?_
            first | rfl | exact (Below.drew (Below.refl _ _)).block _ (Array.getElem?_eq_some_iff.1 HYS.out).1
          · exact HZ2.out
        case measure => simp [intOf]; omega
    · obtain rfl : j = ns.length := by omega
      have hnd : ns.Nodup := by have := HND.out; rwa [List.take_length] at this
      have hln := ordR_len hN hr
      have OR := hid (order_any (src_can hN hn q1 R G1) (av := .func (.func 149) #[] #[.pointer (some ⟨q1, 0, none⟩)]) rfl A1 (RowIs.rd A3) (by omega) (ns.length + 2) (fun a ha => ⟨by have := hr a ha; unfold okR at this; omega, hr a ha⟩) (by
        unfold ordR at hln
        omega))
      have HOV := hid (show canV ns rs = decide ((ordL (atR ns) (ns.length + 2) [(1, 1)] [] [] rs).1 = ns) by unfold canV ordR; rw [decide_eq_true hnd, Bool.true_and])
      have hln : (ordL (atR ns) (ns.length + 2) [(1, 1)] [] [] rs).1.length ≤ ns.length := hln
      generalize ordL (atR ns) (ns.length + 2) [(1, 1)] [] [] rs = O at *
      obtain ⟨ms, ks⟩ := O
      simp only at OR HOV hln
      have A1 := hid A1
      have A2 := hid A2
      have hbw := HB.out.1.trans (HST.out.below (fun k hk => by simp at hk; have := HB.out.2.2.1; omega) HB.out.1.size)
      have HBW := hid hbw
      have zq := A1.out.z1
      have k1 := A1.out.c1
      clear A3 hbw hnd RC KM HBY HND
      go_upto_region 9 with (fail)
      refine wp_region_doc (fun F' hF => ?_)
      have HF := hid hF
      clear hF
      iterate 5 (refine doc_val rfl (by first | (go_simp; done) | (go_simp; exact ⟨rfl, rfl⟩) | (go_simp; with_reducible rfl)) ?_; simp only [Act.put, List.setIfInBounds_toArray, List.set_cons_zero, List.set_cons_succ])
      refine doc_call rfl (by first | (go_simp; done) | (go_simp; exact ⟨rfl, rfl⟩) | (go_simp; with_reducible rfl)) ((OR.out).mono ?_)
      rintro _ W2 ⟨s1, s2, rfl, r1, r2, r3⟩
      refine ⟨_, rfl, ?_⟩
      simp only [Act.put, List.setIfInBounds_toArray, List.set_cons_zero, List.set_cons_succ]
      iterate 5 (refine doc_val rfl (by first | (go_simp; done) | (go_simp; exact ⟨rfl, rfl⟩) | (go_simp; with_reducible rfl)) ?_; simp only [Act.put, List.setIfInBounds_toArray, List.set_cons_zero, List.set_cons_succ])
      refine doc_end (HF.out _ _ ?_)
      clear HF F' OR
      obtain ⟨ma, mc, rfl, _, hmm⟩ := Rd.lenN r1
      have R1 := hid r1
      have N2 := hid (RowIs.keep A2.out (fun g hg => r3.block g (RowIs.lt A2.out g hg)))
      have HBW2 := hid (HBW.out.trans (r3.mono HBW.out.size))
      have d2 := (cell_of_heap 2 (r3.block R A6)).trans A4
      have dz : R < W2.heap.size := Nat.lt_of_lt_of_le A6 r3.size
      have zq2 : q1 < W2.heap.size := Nat.lt_of_lt_of_le zq r3.size
      have k2 := (r3.cell (p := ⟨q1, 0, none⟩) zq).trans k1
      clear r1 r2 r3 A4 A5 A6 zq k1 A1 A2 HBW HST hmm
      by_cases hll : ms.length = ns.length
      · have hl1 : ((ms.length : Int) != (ns.length : Int)) = false := by rw [hll]; simp
        go_wp2_with fail
        go_loopw [50] (fun iv wr => ∃ j : Nat, j ≤ ms.length ∧ iv = .int .i64 j ∧ Below W2.heap.size W2 wr ∧ ms.take j = ns.take j) (fun iv _ => ms.length - (intOf iv).toNat)
        case atStart => exact ⟨0, by omega, rfl, Below.refl _ _, by simp⟩
        case round =>
          obtain ⟨j, hj, rfl, hb, htk⟩ := hrel
          have HB2 := hid hb
          have HTK := hid htk
          have c1 := (hb.cell (p := ⟨q1, 0, none⟩) zq2).trans k2
          have c2 := (hb.cell (p := ⟨R, 2, none⟩) dz).trans d2
          have z1 := Nat.lt_of_lt_of_le zq2 hb.size
          have z2 := Nat.lt_of_lt_of_le dz hb.size
          clear hb htk
          by_cases hlt : j < ms.length
          · have hj1 : (j : Int) < (ms.length : Int) := by omega
            have hx := List.getElem?_eq_getElem hlt
            have hlt2 : j < ns.length := by omega
            have hj2 : (j : Int) < (ns.length : Int) := by omega
            have hy := List.getElem?_eq_getElem hlt2
            obtain ⟨b1, off1, rfl, hb1, g0, g1, g2⟩ := Rd.nodeAt (R1.out.below HB2.out) hx
            obtain ⟨b2, off2, rfl, hb2, e0, e1, e2⟩ := Rd.nodeAt (RowIs.rd (RowIs.keep N2.out (fun g hg => HB2.out.block g (RowIs.lt N2.out g hg)))) hy
            have T1 : ms.take (j + 1) = ms.take j ++ [ms[j]] := by rw [List.take_add_one, hx]; rfl
            have T2 : ns.take (j + 1) = ns.take j ++ [ns[j]] := by rw [List.take_add_one, hy]; rfl
            have NE : ms[j] ≠ ns[j] → ms ≠ ns := fun h e => h (by subst e; rfl)
            generalize ms[j] = x at *
            generalize ns[j] = y at *
            have T1 := hid T1
            have T2 := hid T2
            have NE := hid NE
            have KQ := fun w => key_node.eq x y w
            clear hx hy
            go_upto_region 15 with (fail)
            refine wp_gen (fun X hX => ?_)
            have hbX : Below wr.heap.size wr X := by rw [hX]; (repeat' (first | (with_reducible exact Below.refl _ _) | (with_reducible refine Below.ext_mk ?_ ?_ _ _) | (with_reducible refine Below.alloc ?_ ?_ _) | (with_reducible refine Below.drew ?_) | (with_reducible refine Below.setCell ?_ ?_ _) | go_size))
            have bX : Blk X wr.heap.size 39 [.int .i64 x.1, .int .i64 x.2.1, .int .i64 x.2.2] := by rw [hX]; exact World.heap_alloc_last wr _
            have c1 := (hbX.cell (p := ⟨q1, 0, none⟩) z1).trans c1
            have c2 := (hbX.cell (p := ⟨R, 2, none⟩) z2).trans c2
            have z1 := Nat.lt_of_lt_of_le z1 hbX.size
            have z2 := Nat.lt_of_lt_of_le z2 hbX.size
            have e0 := (hbX.cell (p := ⟨b2, off2 + j * 3, none⟩) hb2).trans e0
            have e1 := (hbX.cell (p := ⟨b2, off2 + j * 3 + 1, none⟩) hb2).trans e1
            have e2 := (hbX.cell (p := ⟨b2, off2 + j * 3 + 2, none⟩) hb2).trans e2
            have hb2 := Nat.lt_of_lt_of_le hb2 hbX.size
            have HB3 := hid (HB2.out.trans (hbX.mono HB2.out.size))
            clear hX g0 g1 g2
            obtain ⟨Bx, hBx⟩ : ∃ b, b = wr.heap.size := ⟨_, rfl⟩
            rw [← hBx] at bX ⊢
            clear hBx hbX
            obtain ⟨bb, hbb⟩ : ∃ bb, bb = (!decide (x = y)) := ⟨_, rfl⟩
            have NQ := fun (a : Act) (dst : Option Tmp) (t : TypeId) (o1 o2 : Operand) (pos : String) (after : Array Edge) (guard : Option (Nat × Bool)) (o : TypeId) (hx : a.eval o1 = kv x) (hy : a.eval o2 = kv y) (w : World) => neq_node_op a dst t o1 o2 pos after guard o hx hy w
            rw [← hbb] at NQ
            have HBB := hid hbb
            clear KQ hbb
            refine wp_region_ext (by kernel_rfl) (by kernel_rfl) (fun F hF => ?_)
            have HF := hid hF; clear hF
            repeat (first
              | (apply text_skip; (focus rfl); simp only [Act.put, List.setIfInBounds_toArray, List.set_cons_zero, List.set_cons_succ])
              | (apply text_val; (focus rfl); (focus (intro _ _; exact load_struct_op _ _ _ _ _ _ _ _ Try.underlying39 (branchy_size _ _ _) rfl (bX.ext _ _))); simp only [Act.put, List.setIfInBounds_toArray, List.set_cons_zero, List.set_cons_succ])
              | (apply text_val; (focus rfl); (focus (intro _ _; exact NQ _ _ _ _ _ _ _ _ _ rfl rfl _)); simp only [Act.put, List.setIfInBounds_toArray, List.set_cons_zero, List.set_cons_succ])
              | (apply text_if; (focus (first | exact wanted_t rfl rfl | exact wanted_f rfl rfl | exact wanted_gt rfl rfl | exact wanted_gf rfl rfl)); (focus (intro hc _ _; exact load_struct_op _ _ _ _ _ _ _ _ Try.underlying39 (branchy_size _ _ _) rfl (bX.ext _ _))); simp only [Act.put, List.setIfInBounds_toArray, List.set_cons_zero, List.set_cons_succ])
              | (apply text_if; (focus (first | exact wanted_t rfl rfl | exact wanted_f rfl rfl | exact wanted_gt rfl rfl | exact wanted_gf rfl rfl)); (focus (intro hc _ _; exact NQ _ _ _ _ _ _ _ _ _ rfl rfl _)); simp only [Act.put, List.setIfInBounds_toArray, List.set_cons_zero, List.set_cons_succ])
              | (apply text_val; (focus rfl); (focus (intro _ _; go_simp; with_reducible rfl)); simp only [Act.put, List.setIfInBounds_toArray, List.set_cons_zero, List.set_cons_succ])
              | (apply text_if; (focus (first | exact wanted_t rfl rfl | exact wanted_f rfl rfl | exact wanted_gt rfl rfl | exact wanted_gf rfl rfl)); (focus (intro hc _ _; (try simp only [Bool.and_eq_true, Bool.not_eq_true', Bool.true_and] at hc); go_simp; with_reducible rfl)); simp only [Act.put, List.setIfInBounds_toArray, List.set_cons_zero, List.set_cons_succ]))
            refine text_nil (HF.out _ (fun mx dx => ?_))
            clear HF F
            clear NQ
            have hb4 : Below W2.heap.size W2 (X.ext mx dx) := Below.ext_mk HB3.out HB3.out.size _ _
            have HB4 := hid hb4
            clear hb4
            cases bb
            · have hxy : x = y := by
                have := HBB.out
                by_cases h : x = y
                · exact h
                · rw [decide_eq_false h] at this; cases this
              go_wp2_with fail
              go_roundw
              case rel => exact ⟨j + 1, by omega, by go_num, HB4.out, by rw [T1.out, T2.out, HTK.out, hxy]⟩
              case measure => simp [intOf]; omega
            · have hxy : x ≠ y := by
                have := HBB.out
                intro h
                rw [decide_eq_true h] at this; cases this
              have HCF := hid (show cv = false by rw [HCV.out, HOV.out]; exact decide_eq_false (NE.out hxy))
              clear hxy
              go_wp2
              go_returns
              exact ⟨by rw [HCF.out]; rfl, HBW2.out.trans (HB4.out.mono HBW2.out.size)⟩
          · obtain rfl : j = ms.length := by omega
            have hE : ms = ns := by
              have h := HTK.out
              rw [List.take_length, hll, List.take_length] at h
              exact h
            have HCF := hid (show cv = true by rw [HCV.out, HOV.out]; exact decide_eq_true hE)
            clear hE
            go_wp2
            go_returns
            exact ⟨by rw [HCF.out]; rfl, HBW2.out.trans (HB2.out.mono HBW2.out.size)⟩
      · have hl1 : ((ms.length : Int) != (ns.length : Int)) = true := by simp; omega
        have hcf : cv = false := by rw [HCV.out, HOV.out]; exact decide_eq_false (fun e => hll (by rw [e]))
        have HCF := hid hcf
        clear hcf
        go_wp2
        go_returns
        exact ⟨by rw [HCF.out]; rfl, HBW2.out⟩
end
end Go.Proofs.Ytboekafmplomhaa
set_option linter.unusedVariables false
set_option linter.unusedSimpArgs false
namespace Go.Proofs.Ytboekafmplomhaa
open Go.RowKit

/-- The worlds of the region: reads first; then Ite, a row of one, append. -/
structure RmI (Z : World) (p g : Nat) (F : List Nat) (S1 : Sto) (r : Int) (all : List Int) (b : Nat → Bool) (w : World) (q : Nat) (v' : Value) : Prop where
  a : b 13 = false → Below Z.heap.size Z w
  i : b 13 = true → b 14 = false → ∃ F1, StoIs w p F1 S1 ∧ StoStep Z w F F1
  c : b 14 = true → b 15 = false → ∃ w1 F1, StoIs w1 p F1 S1 ∧ StoStep Z w1 F F1 ∧ w = w1.alloc (.cells #[.int .i64 r] 3) ∧ q = w1.heap.size
  d : b 15 = true → ∃ F1 G', StoIs w p F1 S1 ∧ RowIs w v' (some G') 3 1 (all ++ [r]).length (ints (all ++ [r])) ∧ G' ∉ F1 ∧ (G' = g ∨ Z.heap.size ≤ G') ∧ StoStep Z w (g :: F) (G' :: F1)
section
variable {Z w w' : World} {p q g : Nat} {F : List Nat} {S S1 : Sto} {r : Int} {all : List Int} {b b' : Nat → Bool} {v' : Value}
theorem RmI.congr (h : RmI Z p g F S1 r all b w q v') (h4 : b' 13 = b 13) (h5 : b' 14 = b 14) (h6 : b' 15 = b 15) : RmI Z p g F S1 r all b' w q v' := by
  obtain ⟨a1, a2, a3, a4⟩ := h
  exact ⟨by rw [h4]; exact a1, by rw [h4, h5]; exact a2, by rw [h5, h6]; exact a3, by rw [h6]; exact a4⟩
theorem RmI.ite (h : RmI Z p g F S1 r all b w q v') (f : b 13 = false) (f' : b' 13 = true) (f5 : b' 14 = false) (f6 : b' 15 = false) {F2 : List Nat} (hS : StoIs w' p F2 S1) (st : StoStep w w' F F2) : RmI Z p g F S1 r all b' w' q v' :=
  ⟨fun e => by (rw [f'] at e; cases e), fun _ _ => ⟨F2, hS, (StoStep.of_below (h.a f)).trans st⟩, fun e => by (rw [f5] at e; cases e), fun e => by (rw [f6] at e; cases e)⟩
theorem RmI.lit (h : RmI Z p g F S1 r all b w q v') (f : b 13 = true) (f5 : b 14 = false) (f' : b' 13 = true) (f5' : b' 14 = true) (f6 : b' 15 = false) : RmI Z p g F S1 r all b' (w.alloc (.cells #[.int .i64 r] 3)) w.heap.size v' := by
  obtain ⟨F2, hS, st⟩ := h.i f f5
  exact ⟨fun e => by (rw [f'] at e; cases e), fun _ e => by (rw [f5'] at e; cases e), fun _ _ => ⟨w, F2, hS, st, rfl, rfl⟩, fun e => by (rw [f6] at e; cases e)⟩
/-- The row of what was made grows, behind a call of the store. -/
theorem made_grow {w1 : World} {F1 : List Nat} {sv : Value} (hrow : RowIs Z sv (some g) 3 1 all.length (ints all)) (hg : g ∉ F) (hk : all.length ≤ 8388608) (hS : StoIs w1 p F1 S1) (st : StoStep Z w1 F F1) :
    ∃ v2 w3 G2, (Builtin.append_ #[28, 28] 28 #[sv, .slice (some ⟨w1.heap.size, 0, none⟩) 1 1]).run Try.prog (w1.alloc (.cells #[.int .i64 r] 3)) = .ok v2 w3 ∧
      (∃ F1 G', StoIs w3 p F1 S1 ∧ RowIs w3 v2 (some G') 3 1 (all ++ [r]).length (ints (all ++ [r])) ∧ G' ∉ F1 ∧ (G' = g ∨ Z.heap.size ≤ G') ∧ StoStep Z w3 (g :: F) (G' :: F1)) ∧ G2 = 0 := by
  have hlt := RowIs.lt hrow g rfl
  have hg1 : g ∉ F1 := st.keeps hlt hg
  have row1 : RowIs w1 sv (some g) 3 1 all.length (ints all) := RowIs.keep hrow (fun k hk => by cases hk; exact st.block g hlt hg)
  obtain ⟨v', w3, G', q1, q2, q3, q4⟩ := int_one row1 hk r
  have hne : ∀ k ∈ F1, k ∉ (some g).toList := fun k hk hm => by simp at hm; subst hm; exact hg1 hk
  have hGF : G' ∉ F1 := fun hm => by
    rcases q3 with e | e
    · cases e; exact hg1 hm
    · have := hS.lt G' hm; omega
  refine ⟨v', w3, 0, q1, ⟨F1, G', hS.keep (fun k hk => q4.block k (hS.lt k hk) (hne k hk)), q2, hGF, ?_, ?_⟩, rfl⟩
  · rcases q3 with e | e
    · cases e; exact .inl rfl
    · exact .inr (Nat.le_trans st.size e)
  · refine ⟨q4.os.trans st.os, q4.tape.trans st.tape, q4.output.trans st.output, Nat.le_trans st.size q4.size, fun k h1 h2 => ?_, fun k hk => ?_⟩
    · simp only [List.mem_cons, not_or] at h2
      exact (q4.block k (Nat.lt_of_lt_of_le h1 st.size) (by simp; exact h2.1)).trans (st.block k h1 h2.2)
    · rcases List.mem_cons.1 hk with rfl | hk
      · rcases q4.fresh k (by simp) with h | h
        · simp at h; exact .inl (by simp [h])
        · exact .inr ⟨by have := st.size; omega, h.2⟩
      · rcases st.fresh k hk with h | h
        · exact .inl (List.mem_cons_of_mem _ h)
        · exact .inr ⟨h.1, Nat.lt_of_lt_of_le h.2 q4.size⟩
theorem RmI.app (h : RmI Z p g F S1 r all b w q v') {sv : Value} (hrow : RowIs Z sv (some g) 3 1 all.length (ints all)) (hg : g ∉ F) (hk : all.length ≤ 8388608) (f5 : b 14 = true) (f6 : b 15 = false) :
    ∃ v2 w3 G2, (Builtin.append_ #[28, 28] 28 #[sv, .slice (some ⟨q, 0, none⟩) 1 1]).run Try.prog w = .ok v2 w3 ∧
      (∃ F1 G', StoIs w3 p F1 S1 ∧ RowIs w3 v2 (some G') 3 1 (all ++ [r]).length (ints (all ++ [r])) ∧ G' ∉ F1 ∧ (G' = g ∨ Z.heap.size ≤ G') ∧ StoStep Z w3 (g :: F) (G' :: F1)) ∧ G2 = 0 := by
  obtain ⟨w1, F1, hS, st, rfl, rfl⟩ := h.c f5 f6
  exact made_grow hrow hg hk hS st
theorem RmI.fin (h : RmI Z p g F S1 r all b w q v') (f6 : b' 15 = true) (f4 : b' 13 = true) (f5 : b' 14 = true) {v2 : Value} {w3 : World}
    (H : ∃ F1 G', StoIs w3 p F1 S1 ∧ RowIs w3 v2 (some G') 3 1 (all ++ [r]).length (ints (all ++ [r])) ∧ G' ∉ F1 ∧ (G' = g ∨ Z.heap.size ≤ G') ∧ StoStep Z w3 (g :: F) (G' :: F1)) : RmI Z p g F S1 r all b' w3 q v2 :=
  ⟨fun e => by (rw [f4] at e; cases e), fun _ e => by (rw [f5] at e; cases e), fun _ e => by (rw [f6] at e; cases e), fun _ => H⟩
end
def rmAct (p g n sc hi lo Bx : Nat) (vv k1 k2 r : Int) (y0 y1 y2 y3 y4 y5 y6 y7 y8 y9 y10 y11 y12 y13 y14 y15 y16 y17 y18 y19 y20 y21 y22 y23 y24 y25 y26 y27 y28 y29 y30 y31 y32 y33 y34 y35 y36 y37 y38 y39 y40 y41 y42 y43 y44 y45 y46 y47 y48 y49 y50 y51 y52 y53 y54 y55 y56 y57 y58 y59 y60 y61 y62 y63 y64 y65 y66 y67 y68 y69 y70 y71 y72 y73 y74 y75 y76 y77 y78 y79 y80 y81 y82 y83 y84 y85 y86 y87 y88 y89 y90 y91 y92 y93 y94 y95 y96 y97 y98 y99 y100 y101 y102 y103 y104 y105 y106 : Value) (b : Nat → Bool) (q : Nat) (v' : Value) : Act :=
  ⟨#[y0, y1, y2, y3, y4, y5, y6, gx (b 16) (v') y7, y8, y9, y10, y11, y12, y13, y14, y15, y16, y17, y18, y19, y20, y21, y22, y23, y24, y25, y26, y27, y28, y29, y30, y31, y32, y33, y34, y35, y36, y37, y38, y39, y40, y41, y42, y43, y44, y45, y46, y47, y48, y49, y50, y51, y52, y53, y54, y55, y56, y57, y58, y59, y60, y61, y62, y63, y64, y65, y66, y67, y68, gx (b 0) (.slice (some ⟨g, 0, none⟩) n sc) y69, gx (b 1) (.pointer (some ⟨p, 0, none⟩)) y70, gx (b 2) (.int .i64 vv) y71, gx (b 3) (.slice (some ⟨g, 0, none⟩) n sc) y72, gx (b 4) (.pointer (some ⟨Bx, 2, none⟩)) y73, gx (b 5) (.int .i64 (hi : Nat)) y74, gx (b 6) (.pointer (some ⟨g, hi, none⟩)) y75, gx (b 7) (.int .i64 k1) y76, gx (b 8) (.slice (some ⟨g, 0, none⟩) n sc) y77, gx (b 9) (.pointer (some ⟨Bx, 1, none⟩)) y78, gx (b 10) (.int .i64 (lo : Nat)) y79, gx (b 11) (.pointer (some ⟨g, lo, none⟩)) y80, gx (b 12) (.int .i64 k2) y81, gx (b 13) (.int .i64 r) y82, gx (b 14) (.slice (some ⟨q, 0, none⟩) 1 1) y83, gx (b 15) (v') y84, y85, y86, y87, y88, y89, y90, y91, y92, y93, y94, y95, y96, y97, y98, y99, y100, y101, y102, y103, y104, y105, y106], []⟩
def rmInv (Z : World) (p g n sc hi lo Bx : Nat) (vv k1 k2 r : Int) (F : List Nat) (S1 : Sto) (all : List Int) (y0 y1 y2 y3 y4 y5 y6 y7 y8 y9 y10 y11 y12 y13 y14 y15 y16 y17 y18 y19 y20 y21 y22 y23 y24 y25 y26 y27 y28 y29 y30 y31 y32 y33 y34 y35 y36 y37 y38 y39 y40 y41 y42 y43 y44 y45 y46 y47 y48 y49 y50 y51 y52 y53 y54 y55 y56 y57 y58 y59 y60 y61 y62 y63 y64 y65 y66 y67 y68 y69 y70 y71 y72 y73 y74 y75 y76 y77 y78 y79 y80 y81 y82 y83 y84 y85 y86 y87 y88 y89 y90 y91 y92 y93 y94 y95 y96 y97 y98 y99 y100 y101 y102 y103 y104 y105 y106 : Value) (L : Array Bool) (a : Act) (w : World) : Prop :=
  ∃ q v', a = rmAct p g n sc hi lo Bx vv k1 k2 r y0 y1 y2 y3 y4 y5 y6 y7 y8 y9 y10 y11 y12 y13 y14 y15 y16 y17 y18 y19 y20 y21 y22 y23 y24 y25 y26 y27 y28 y29 y30 y31 y32 y33 y34 y35 y36 y37 y38 y39 y40 y41 y42 y43 y44 y45 y46 y47 y48 y49 y50 y51 y52 y53 y54 y55 y56 y57 y58 y59 y60 y61 y62 y63 y64 y65 y66 y67 y68 y69 y70 y71 y72 y73 y74 y75 y76 y77 y78 y79 y80 y81 y82 y83 y84 y85 y86 y87 y88 y89 y90 y91 y92 y93 y94 y95 y96 y97 y98 y99 y100 y101 y102 y103 y104 y105 y106 (fun i => L.getD i false) q v' ∧ RmI Z p g F S1 r all (fun i => L.getD i false) w q v'
theorem wp_rm {ops : Array Oper} {id : Nat} {Q : Exit → Act → World → Prop} {y0 y1 y2 y3 y4 y5 y6 y7 y8 y9 y10 y11 y12 y13 y14 y15 y16 y17 y18 y19 y20 y21 y22 y23 y24 y25 y26 y27 y28 y29 y30 y31 y32 y33 y34 y35 y36 y37 y38 y39 y40 y41 y42 y43 y44 y45 y46 y47 y48 y49 y50 y51 y52 y53 y54 y55 y56 y57 y58 y59 y60 y61 y62 y63 y64 y65 y66 y67 y68 y69 y70 y71 y72 y73 y74 y75 y76 y77 y78 y79 y80 y81 y82 y83 y84 y85 y86 y87 y88 y89 y90 y91 y92 y93 y94 y95 y96 y97 y98 y99 y100 y101 y102 y103 y104 y105 y106 : Value} (Z : World) (p g n sc hi lo Bx : Nat) (vv k1 k2 r : Int) (F : List Nat) (S1 : Sto) (all : List Int)
    (hm : Try.prog.follows .mixedOrders = true) (hlt : (List.range ops.size).all (fun i => (deps .any ops i).all (fun k => decide (k < i))) = true)
    (h0 : rmInv Z p g n sc hi lo Bx vv k1 k2 r F S1 all y0 y1 y2 y3 y4 y5 y6 y7 y8 y9 y10 y11 y12 y13 y14 y15 y16 y17 y18 y19 y20 y21 y22 y23 y24 y25 y26 y27 y28 y29 y30 y31 y32 y33 y34 y35 y36 y37 y38 y39 y40 y41 y42 y43 y44 y45 y46 y47 y48 y49 y50 y51 y52 y53 y54 y55 y56 y57 y58 y59 y60 y61 y62 y63 y64 y65 y66 y67 y68 y69 y70 y71 y72 y73 y74 y75 y76 y77 y78 y79 y80 y81 y82 y83 y84 y85 y86 y87 y88 y89 y90 y91 y92 y93 y94 y95 y96 y97 y98 y99 y100 y101 y102 y103 y104 y105 y106 (Array.replicate ops.size false) ⟨#[y0, y1, y2, y3, y4, y5, y6, y7, y8, y9, y10, y11, y12, y13, y14, y15, y16, y17, y18, y19, y20, y21, y22, y23, y24, y25, y26, y27, y28, y29, y30, y31, y32, y33, y34, y35, y36, y37, y38, y39, y40, y41, y42, y43, y44, y45, y46, y47, y48, y49, y50, y51, y52, y53, y54, y55, y56, y57, y58, y59, y60, y61, y62, y63, y64, y65, y66, y67, y68, y69, y70, y71, y72, y73, y74, y75, y76, y77, y78, y79, y80, y81, y82, y83, y84, y85, y86, y87, y88, y89, y90, y91, y92, y93, y94, y95, y96, y97, y98, y99, y100, y101, y102, y103, y104, y105, y106], []⟩ Z.drew)
    (hfin : ∀ (L : Array Bool) (a : Act) (w : World), (∀ j, j < ops.size → L.getD j false = true) → rmInv Z p g n sc hi lo Bx vv k1 k2 r F S1 all y0 y1 y2 y3 y4 y5 y6 y7 y8 y9 y10 y11 y12 y13 y14 y15 y16 y17 y18 y19 y20 y21 y22 y23 y24 y25 y26 y27 y28 y29 y30 y31 y32 y33 y34 y35 y36 y37 y38 y39 y40 y41 y42 y43 y44 y45 y46 y47 y48 y49 y50 y51 y52 y53 y54 y55 y56 y57 y58 y59 y60 y61 y62 y63 y64 y65 y66 y67 y68 y69 y70 y71 y72 y73 y74 y75 y76 y77 y78 y79 y80 y81 y82 y83 y84 y85 y86 y87 y88 y89 y90 y91 y92 y93 y94 y95 y96 y97 y98 y99 y100 y101 y102 y103 y104 y105 y106 L a w → Q .normal a w)
    (hs' : InvSteps Try.prog ops (rmInv Z p g n sc hi lo Bx vv k1 k2 r F S1 all y0 y1 y2 y3 y4 y5 y6 y7 y8 y9 y10 y11 y12 y13 y14 y15 y16 y17 y18 y19 y20 y21 y22 y23 y24 y25 y26 y27 y28 y29 y30 y31 y32 y33 y34 y35 y36 y37 y38 y39 y40 y41 y42 y43 y44 y45 y46 y47 y48 y49 y50 y51 y52 y53 y54 y55 y56 y57 y58 y59 y60 y61 y62 y63 y64 y65 y66 y67 y68 y69 y70 y71 y72 y73 y74 y75 y76 y77 y78 y79 y80 y81 y82 y83 y84 y85 y86 y87 y88 y89 y90 y91 y92 y93 y94 y95 y96 y97 y98 y99 y100 y101 y102 y103 y104 y105 y106) 0 ops.toList) : (Code.region id ops true).wp Try.prog Q ⟨#[y0, y1, y2, y3, y4, y5, y6, y7, y8, y9, y10, y11, y12, y13, y14, y15, y16, y17, y18, y19, y20, y21, y22, y23, y24, y25, y26, y27, y28, y29, y30, y31, y32, y33, y34, y35, y36, y37, y38, y39, y40, y41, y42, y43, y44, y45, y46, y47, y48, y49, y50, y51, y52, y53, y54, y55, y56, y57, y58, y59, y60, y61, y62, y63, y64, y65, y66, y67, y68, y69, y70, y71, y72, y73, y74, y75, y76, y77, y78, y79, y80, y81, y82, y83, y84, y85, y86, y87, y88, y89, y90, y91, y92, y93, y94, y95, y96, y97, y98, y99, y100, y101, y102, y103, y104, y105, y106], []⟩ Z :=
  wp_region_invs (rmInv Z p g n sc hi lo Bx vv k1 k2 r F S1 all y0 y1 y2 y3 y4 y5 y6 y7 y8 y9 y10 y11 y12 y13 y14 y15 y16 y17 y18 y19 y20 y21 y22 y23 y24 y25 y26 y27 y28 y29 y30 y31 y32 y33 y34 y35 y36 y37 y38 y39 y40 y41 y42 y43 y44 y45 y46 y47 y48 y49 y50 y51 y52 y53 y54 y55 y56 y57 y58 y59 y60 y61 y62 y63 y64 y65 y66 y67 y68 y69 y70 y71 y72 y73 y74 y75 y76 y77 y78 y79 y80 y81 y82 y83 y84 y85 y86 y87 y88 y89 y90 y91 y92 y93 y94 y95 y96 y97 y98 y99 y100 y101 y102 y103 y104 y105 y106) hm hlt h0 hfin hs'
end Go.Proofs.Ytboekafmplomhaa
set_option linter.unusedVariables false
set_option linter.unusedSimpArgs false
namespace Go.Proofs.Ytboekafmplomhaa
open Go.RowKit

theorem str_eq {l m : List Nat} (hl : ∀ x ∈ l, x < 256) (hm : ∀ x ∈ m, x < 256) : ((strOf l).toList == (strOf m).toList) = decide (l = m) := by
  by_cases h : l = m
  · subst h
    rw [decide_eq_true rfl]
    exact beq_self_eq_true _
  · rw [decide_eq_false h]
    refine beq_eq_false_iff_ne.2 (fun e => h ?_)
    rw [ByteArray.toList_eq, ByteArray.toList_eq] at e
    exact (strOf_inj hl hm).1 (ByteArray.ext (Array.ext' e))
theorem sealB_byte {l : List Nat} (h : ∀ y ∈ l, y < 256) : ∀ y ∈ sealB l, y < 256 := fun y hy => by
  unfold sealB at hy
  rcases List.mem_append.1 hy with hy | hy
  · exact h y hy
  · simp only [sum4, List.mem_cons, List.not_mem_nil, or_false] at hy
    omega
set_option maxRecDepth 100000 in
set_option maxHeartbeats 4000000 in
theorem sumRight_any {w : World} {sv : Value} {l : List Nat} (h : Rd w 1 sv (byts l)) (hl : ∀ y ∈ l, y < 256) (h9 : 9 ≤ l.length) (hk : l.length ≤ 8388608) :
    Calls Try.prog 126 #[sv] w (fun e w' => e = .returned (.bool (decide (sealB (l.take (l.length - 4)) = l))) ∧ Below w.heap.size w w') := by
  obtain ⟨la, lc, rfl, hlc, hlm⟩ := h.lenB
  obtain ⟨b, off, rfl, hb, _⟩ := Rd.byteAt h (i := 0) (by omega)
  obtain ⟨n, hn⟩ : ∃ n, n = l.length - 4 := ⟨_, rfl⟩
  have wn : IntKind.i64.wrap ((l.length : Int) - 4) = (n : Int) := by rw [IntWalk.i64_in _ (by omega)]; omega
  rw [← hn]
  have htl : (l.take n).length = n := by simp; omega
  have hT : Rd w.drew 1 (.slice (some ⟨b, off, none⟩) n n) (byts (l.take n)) := (Rd.takeB h (i := n) (c' := n) (by omega) (by omega)).below (Below.drew (Below.refl _ _))
  obtain ⟨v', W1, C1, o1, b1⟩ := sealed_own (l := l.take n) (B := w.drew.heap.size) (w := w.drew) (sv := .slice (some ⟨b, off, none⟩) n n) (.inr ⟨b, off, by rw [htl], hT, by omega⟩) (fun y hy => hl y (List.mem_of_mem_take hy)) (Nat.le_refl _) (by omega)
  have s1 := str_any o1.rd
  have hd : Below w.heap.size w w.drew := Below.drew (Below.refl _ _)
  have b2 := b1.mono (Nat.le_refl _ : w.heap.size ≤ w.drew.heap.size)
  have s2 := str_any (h.below hd)
  have s3 := str_any (h.below (hd.trans b2))
  obtain ⟨sa, sc, rfl⟩ := o1.form
  have hEQ := str_eq (l := sealB (l.take n)) (m := l) (sealB_byte (fun y hy => hl y (List.mem_of_mem_take hy))) hl
  have C1 := hid C1
  have HBW := hid (hd.trans b2)
  obtain ⟨vv, hvv⟩ : ∃ v, v = decide (sealB (l.take n) = l) := ⟨_, rfl⟩
  rw [← hvv] at hEQ ⊢
  generalize strOf (sealB (l.take n)) = t1 at *
  generalize strOf l = t2 at *
  have S1 := hid s1
  have S2 := hid s2
  have S3 := hid s3
  have HV := hid hEQ
  have hnl : (n : Int) ≤ (lc : Int) := by omega
  have hn0 : (0 : Int) ≤ (n : Int) := by omega
  generalize hsl : Value.slice sa (sealB (l.take n)).length sc = sv2 at *
  have HN := hid hn
  have hn1 : n ≤ lc := by omega
  clear hn h o1 b1 b2 hd hT htl hEQ hvv s1 s2 s3 hsl
  go_enter Try.func126, Try.ntmps126
  go_upto_region 2 with (fail)
  refine wp_region_stage [4] (fun i W => (i = 0 → W = w.drew) ∧ (i = 1 → W = W1)) (by kernel_rfl) (by kernel_rfl) (by kernel_rfl) (by kernel_rfl) ⟨fun _ => rfl, fun h => by omega⟩ (fun F' hF' => ?_)
  have HF := hid hF'
  clear hF'
  repeat (apply sg_any; (focus rfl); (focus rfl); (focus (intro _; go_simp; with_reducible rfl)); simp only [Act.put, List.setIfInBounds_toArray, List.set_cons_zero, List.set_cons_succ])
  refine sg_turn_call 0 (v := sv2) (f := 144) (args := #[.slice (some ⟨b, off, none⟩) n n]) rfl rfl (fun _ => by first | (go_simp; done) | (go_simp; exact ⟨rfl, rfl⟩)) (fun W hR => by
    rw [hR.1 rfl]
    refine C1.out.mono ?_
    rintro e w' ⟨rfl, rfl⟩
    exact ⟨rfl, fun h => by omega, fun _ => rfl⟩) ?_
  simp only [Act.put, List.setIfInBounds_toArray, List.set_cons_zero, List.set_cons_succ]
  refine sg_read (v := .string t1) 1 1 rfl (by decide +kernel) (by decide +kernel) rfl (fun ii w' l' u hR => by
    rw [hR.2 (by omega)]; clear hR; have h := S1.out; go_simp) ?_
  simp only [Act.put, List.setIfInBounds_toArray, List.set_cons_zero, List.set_cons_succ]
  refine sg_any rfl rfl (fun _ => by go_simp; with_reducible rfl) ?_
  simp only [Act.put, List.setIfInBounds_toArray, List.set_cons_zero, List.set_cons_succ]
  refine sg_read (v := .string t2) 0 1 rfl (by decide +kernel) (by decide +kernel) rfl (fun ii w' l' u hR => by
    rcases (show ii = 0 ∨ ii = 1 by omega) with rfl | rfl
    · rw [hR.1 rfl]; clear hR; have h := S2.out; go_simp
    · rw [hR.2 rfl]; clear hR; have h := S3.out; go_simp) ?_
  simp only [Act.put, List.setIfInBounds_toArray, List.set_cons_zero, List.set_cons_succ]
  repeat (apply sg_any; (focus rfl); (focus rfl); (focus (intro _; go_simp; with_reducible rfl)); simp only [Act.put, List.setIfInBounds_toArray, List.set_cons_zero, List.set_cons_succ])
  refine sg_end (HF.out _ (fun w3 hR => ?_))
  obtain rfl := hR.2 rfl
  clear hR HF F' S1 S2 S3 C1
  go_wp2_with fail
  go_returns
  exact ⟨by rw [← HV.out]; rfl, HBW.out⟩
end Go.Proofs.Ytboekafmplomhaa
set_option linter.unusedVariables false
set_option linter.unusedSimpArgs false
namespace Go.Proofs.Ytboekafmplomhaa
open Go.RowKit

/-- A node made. -/
def makeN (S : Sto) (made : List Int) (x : Nd) : Sto × Int := iteV (varV S x.1).1 (varV S x.1).2 (made.getD x.2.2.toNat 0) (made.getD x.2.1.toNat 0)
def loadN : Sto → List Int → List Nd → Sto × List Int
  | S, made, [] => (S, made)
  | S, made, x :: r => loadN (makeN S made x).1 (made ++ [(makeN S made x).2]) r
theorem makeN_good {S : Sto} (hW : Wf S) (hs : Sated S) (made : List Int) (x : Nd) : Wf (makeN S made x).1 ∧ Sated (makeN S made x).1 := by
  obtain ⟨h1, h2⟩ := varV_good hW hs x.1
  exact iteV_good h1 h2 _ _ _
noncomputable def readB (S : Sto) (l : List Nat) : Sto × List Int × Int :=
  match parseV ((l.drop 3).take (l.length - 7)) with
  | none => (S, [], 4)
  | some (ns, rs) =>
    if canV ns rs = false then (S, [], 4) else
    if (loadN S [0, 1] ns).1.full = true then ((loadN S [0, 1] ns).1, [], 12) else ((loadN S [0, 1] ns).1, rs.map (fun r => (loadN S [0, 1] ns).2.getD r.toNat 0), 0)
noncomputable def readV (S : Sto) (l : List Nat) : Sto × List Int × Int :=
  if 8388608 < l.length then (S, [], 3) else
  if l.length < 9 then (S, [], 13) else
  if l.take 3 ≠ [81, 66, 1] then (S, [], 4) else
  if sealB (l.take (l.length - 4)) ≠ l then (S, [], 15) else readB S l
def ReadPost (w : World) (p : Nat) (F : List Nat) (R : Sto × List Int × Int) (e : Ending) (w' : World) : Prop :=
  ∃ sv G F', e = .returned (.tuple #[sv, .int .i64 R.2.2]) ∧ RowIs w' sv G 3 1 R.2.1.length (ints R.2.1) ∧ (∀ g, G = some g → w.heap.size ≤ g ∧ g ∉ F') ∧ StoIs w' p F' R.1 ∧ StoStep w w' F F'
theorem ReadPost.no {w w' : World} {p : Nat} {F : List Nat} {S : Sto} {k : Int} (h : StoIs w p F S) (hb : Below w.heap.size w w') : ReadPost w p F (S, [], k) (.returned (.tuple #[.slice none 0 0, .int .i64 k])) w' :=
  ⟨_, none, F, rfl, ⟨rfl, .inl ⟨rfl, rfl, rfl⟩⟩, fun g hg => (by cases hg), h.below hb, StoStep.of_below hb⟩
theorem magic_eq {l : List Nat} (hl : ∀ x ∈ l, x < 256) : ((strOf (l.take 3)).toList == ([81, 66, 1] : List UInt8)) = decide (l.take 3 = [81, 66, 1]) := by
  have e : ([81, 66, 1] : List UInt8) = (strOf [81, 66, 1]).toList := by rw [ByteArray.toList_eq]; rfl
  rw [e]
  exact str_eq (fun x hx => hl x (List.mem_of_mem_take hx)) (by decide)
theorem StoStep.cons {w w' : World} {F F' : List Nat} (st : StoStep w w' F F') (g : Nat) : StoStep w w' (g :: F) (g :: F') :=
  ⟨st.os, st.tape, st.output, st.size, fun k h1 h2 => st.block k h1 (fun hm => h2 (List.mem_cons_of_mem _ hm)), fun k hk => by
    rcases List.mem_cons.1 hk with rfl | hk
    · exact .inl (List.mem_cons_self ..)
    · exact (st.fresh k hk).imp (fun h => List.mem_cons_of_mem _ h) id⟩
theorem StoStep.off {w X wr : World} {g0 g : Nat} {F F' : List Nat} (st : StoStep X wr (g0 :: F) (g :: F')) (hb : Below w.heap.size w X) (h0 : w.heap.size ≤ g0) (hl : ∀ k ∈ F', k < wr.heap.size) : StoStep w wr F F' := by
  have hz := hb.size
  have s0 := StoStep.of_below (F := F) hb
  refine ⟨st.os.trans s0.os, st.tape.trans s0.tape, st.output.trans s0.output, Nat.le_trans hz st.size, fun k h1 h2 => ?_, fun k hm => ?_⟩
  · exact (st.block k (by omega) (by simp only [List.mem_cons, not_or]; exact ⟨by omega, h2⟩)).trans (s0.block k h1 h2)
  · rcases st.fresh k (List.mem_cons_of_mem _ hm) with h | h
    · rcases List.mem_cons.1 h with rfl | h
      · exact .inr ⟨h0, hl _ hm⟩
      · exact .inl h
    · exact .inr ⟨Nat.le_trans hz h.1, hl _ hm⟩
theorem next_w {j : Nat} (h : j ≤ 8388608) : wrap64 ((j : Int) + 1) = ((j + 1 : Nat) : Int) := by
  have h := IntWalk.i64_in ((j : Int) + 1) (by omega)
  rw [IntKind.wrap_i64] at h
  simp only [wrap64]
  omega
theorem meas_w {n j : Nat} (h : j < n) (hn : n ≤ 8388608) : n - (intOf (.int .i64 (wrap64 ((j : Int) + 1)))).toNat < n - (intOf (.int .i64 (j : Int))).toNat := by
  rw [next_w (by omega)]
  simp only [intOf, Int.toNat_natCast]
  omega
theorem rd_byte {w : World} {lb lo lc : Nat} {l : List Nat} (h : Rd w 1 (.slice (some ⟨lb, lo, none⟩) l.length lc) (byts l)) (i : Nat) (hi : i < l.length) : w.cell? ⟨lb, lo + i, none⟩ = some (.int .u8 (l[i] : Nat)) ∧ lb < w.heap.size := by
  obtain ⟨b', off', e, hb, hc⟩ := Rd.byteAt h hi
  cases e
  exact ⟨hc, hb⟩
section
variable {S : Sto} {w : World} {p : Nat} {F : List Nat}
set_option maxRecDepth 100000 in
set_option maxHeartbeats 16000000 in
theorem read_live (h : StoIs w p F S) (hW : Wf S) (hs : Sated S) {sv : Value} {l : List Nat} (hl : Rd w 1 sv (byts l)) (hb : ∀ y ∈ l, y < 256) :
    Calls Try.prog 73 #[.pointer (some ⟨p, 0, none⟩), sv] w (ReadPost w p F (readV S l)) := by
  have hc : S.cap ≠ 0 := by have := hW.cap2; omega
  obtain ⟨la, lc, rfl, hlc, hlm⟩ := hl.lenB
  have FU := fun W (hb : Below w.heap.size w W) => full_any (h.below hb) hc
  have LE := fun W (hb : Below w.heap.size w W) => len_any (h.below hb) hc
  have hz : S.full = true → ((S.nodes.length : Int) == 0) = false := fun hf => by
    have h1 := hs hf
    have h2 := hW.cap2
    exact beq_eq_false_iff_ne.2 (by omega)
  have H := hid h
  have HL := hid hl
  have HB := hid hb
  have HW := hid (And.intro hW hs)
  generalize (S.nodes.length : Int) = nl at *
  generalize S.full = fu at *
  obtain ⟨RV, hRV⟩ : ∃ R, R = readV S l := ⟨_, rfl⟩
  rw [← hRV]
  have HRV := hid hRV
  clear h hl hb hs hW hRV
  go_enter Try.func73, Try.ntmps73
  go_upto_block 0 with (fail)
  go_cut [] (fun wx => Below w.heap.size w wx ∧ RV = readB S l ∧ 9 ≤ l.length ∧ l.length ≤ 8388608)
  case first =>
    go_upto_region 1 with (fail)
    cases fu
    · refine wp_region_seq (fun F hF => ?_)
      have HF := hid hF; clear hF
      repeat (first
        | (apply text_skip; (focus rfl); simp only [Act.put, List.setIfInBounds_toArray, List.set_cons_zero, List.set_cons_succ])
        | (apply text_val; (focus rfl); (focus (intro _ _; go_simp; with_reducible rfl)); simp only [Act.put, List.setIfInBounds_toArray, List.set_cons_zero, List.set_cons_succ])
        | (apply text_call; (focus rfl); (focus (intro _ _; go_simp; exact ⟨rfl, rfl⟩)); (focus (intro _ _; with_reducible (first | exact FU _ (by (repeat' (first | (with_reducible exact Below.refl _ _) | (with_reducible refine Below.ext_mk ?_ ?_ _ _) | (with_reducible refine Below.alloc ?_ ?_ _) | (with_reducible refine Below.drew ?_) | (with_reducible refine Below.setCell ?_ ?_ _) | go_size)))))); simp only [Act.put, List.setIfInBounds_toArray, List.set_cons_zero, List.set_cons_succ])
        | (apply text_if; (focus (first | exact wanted_t rfl rfl | exact wanted_f rfl rfl | exact wanted_gt rfl rfl | exact wanted_gf rfl rfl)); (focus (intro hc _ _; (try simp only [Bool.and_eq_true, Bool.not_eq_true', Bool.true_and] at hc); go_simp; with_reducible rfl)); simp only [Act.put, List.setIfInBounds_toArray, List.set_cons_zero, List.set_cons_succ])
        | (apply text_if_call; (focus (first | exact wanted_t rfl rfl | exact wanted_f rfl rfl | exact wanted_gt rfl rfl | exact wanted_gf rfl rfl)); (focus (intro hc _ _; (try simp only [Bool.and_eq_true, Bool.not_eq_true', Bool.true_and] at hc); go_simp; exact ⟨rfl, rfl⟩)); (focus (intro hc _ _; with_reducible (first | exact FU _ (by (repeat' (first | (with_reducible exact Below.refl _ _) | (with_reducible refine Below.ext_mk ?_ ?_ _ _) | (with_reducible refine Below.alloc ?_ ?_ _) | (with_reducible refine Below.drew ?_) | (with_reducible refine Below.setCell ?_ ?_ _) | go_size)))))); simp only [Act.put, List.setIfInBounds_toArray, List.set_cons_zero, List.set_cons_succ]))
      refine text_nil (HF.out _ (fun mx dx => ?_))
      clear HF F
      clear FU LE hz
      go_upto_region 3 with (fail)
      refine wp_gen (fun V hV => ?_)
      have hbV : Below w.heap.size w V := by rw [hV]; (repeat' (first | (with_reducible exact Below.refl _ _) | (with_reducible refine Below.ext_mk ?_ ?_ _ _) | (with_reducible refine Below.alloc ?_ ?_ _) | (with_reducible refine Below.drew ?_) | (with_reducible refine Below.setCell ?_ ?_ _) | go_size))
      clear hV
      by_cases h1 : 8388608 < l.length
      · have e : RV = (S, [], 3) := by rw [HRV.out]; unfold readV; rw [if_pos h1]
        subst e
        have h1' : (8388608 : Int) < (l.length : Int) := by omega
        have HBV := hid hbV
        clear hbV
        go_wp2
        go_returns
        exact ReadPost.no H.out HBV.out
      · have h1' : ¬ (8388608 : Int) < (l.length : Int) := by omega
        by_cases h2 : l.length < 9
        · have e : RV = (S, [], 13) := by rw [HRV.out]; unfold readV; rw [if_neg h1, if_pos h2]
          subst e
          have h2' : (l.length : Int) < 9 := by omega
          have HBV := hid hbV
          clear hbV
          go_wp2
          go_returns
          exact ReadPost.no H.out HBV.out
        · have h2' : ¬ (l.length : Int) < 9 := by omega
          have hRV : RV = if l.take 3 ≠ [81, 66, 1] then (S, [], 4) else if sealB (l.take (l.length - 4)) ≠ l then (S, [], 15) else readB S l := by rw [HRV.out]; unfold readV; rw [if_neg h1, if_neg h2]
          have s7 := str_any (Rd.takeB (HL.out.below hbV) (i := 3) (c' := lc) (by omega) (by omega))
          have m7 := magic_eq HB.out
          have l3 : (3 : Int) ≤ (lc : Int) := by omega
          have l3' : 3 ≤ lc := by omega
          have SR := hid (sumRight_any (HL.out.below hbV) HB.out (by omega) (by omega))
          generalize strOf (l.take 3) = t1 at s7 m7
          have HBV := hid hbV
          clear hbV
          obtain ⟨lb, lo, rfl, hlb, _⟩ := Rd.byteAt HL.out (i := 0) (by omega)
          by_cases h3 : l.take 3 = [81, 66, 1]
          · rw [if_neg (fun q => q h3)] at hRV
            rw [decide_eq_true h3] at m7
            by_cases h4 : sealB (l.take (l.length - 4)) = l
            · rw [if_neg (fun q => q h4)] at hRV
              rw [decide_eq_true h4] at SR
              have HRV2 := hid hRV
              clear hRV h3 h4 HRV
              go_wp2_with ((with_reducible refine (SR.out).mono ?_); clear SR; rintro e w2 ⟨rfl, b2⟩)
              have b3 := hid (HBV.out.trans (b2.mono HBV.out.size))
              clear b2
              go_wp2_with fail
              go_meet
              case rel => exact ⟨b3.out, HRV2.out, by omega, by omega⟩
            · rw [if_pos h4] at hRV
              rw [decide_eq_false h4] at SR
              subst hRV
              clear h3 h4 HRV
              go_wp2_with ((with_reducible refine (SR.out).mono ?_); clear SR; rintro e w2 ⟨rfl, b2⟩)
              have b3 := hid (HBV.out.trans (b2.mono HBV.out.size))
              clear b2
              go_wp2
              go_returns
              exact ReadPost.no H.out b3.out
          · rw [if_pos h3] at hRV
            rw [decide_eq_false h3] at m7
            subst hRV
            clear h3 SR HRV
            go_wp2
            go_returns
            exact ReadPost.no H.out HBV.out
    · have hz1 := hz rfl
      refine wp_region_seq (fun F hF => ?_)
      have HF := hid hF; clear hF
      repeat (first
        | (apply text_skip; (focus rfl); simp only [Act.put, List.setIfInBounds_toArray, List.set_cons_zero, List.set_cons_succ])
        | (apply text_val; (focus rfl); (focus (intro _ _; go_simp; with_reducible rfl)); simp only [Act.put, List.setIfInBounds_toArray, List.set_cons_zero, List.set_cons_succ])
        | (apply text_call; (focus rfl); (focus (intro _ _; go_simp; exact ⟨rfl, rfl⟩)); (focus (intro _ _; with_reducible (first | exact FU _ (by (repeat' (first | (with_reducible exact Below.refl _ _) | (with_reducible refine Below.ext_mk ?_ ?_ _ _) | (with_reducible refine Below.alloc ?_ ?_ _) | (with_reducible refine Below.drew ?_) | (with_reducible refine Below.setCell ?_ ?_ _) | go_size))) | exact LE _ (by (repeat' (first | (with_reducible exact Below.refl _ _) | (with_reducible refine Below.ext_mk ?_ ?_ _ _) | (with_reducible refine Below.alloc ?_ ?_ _) | (with_reducible refine Below.drew ?_) | (with_reducible refine Below.setCell ?_ ?_ _) | go_size)))))); simp only [Act.put, List.setIfInBounds_toArray, List.set_cons_zero, List.set_cons_succ])
        | (apply text_if; (focus (first | exact wanted_t rfl rfl | exact wanted_f rfl rfl | exact wanted_gt rfl rfl | exact wanted_gf rfl rfl)); (focus (intro hc _ _; (try simp only [Bool.and_eq_true, Bool.not_eq_true', Bool.true_and] at hc); go_simp; with_reducible rfl)); simp only [Act.put, List.setIfInBounds_toArray, List.set_cons_zero, List.set_cons_succ])
        | (apply text_if_call; (focus (first | exact wanted_t rfl rfl | exact wanted_f rfl rfl | exact wanted_gt rfl rfl | exact wanted_gf rfl rfl)); (focus (intro hc _ _; (try simp only [Bool.and_eq_true, Bool.not_eq_true', Bool.true_and] at hc); go_simp; exact ⟨rfl, rfl⟩)); (focus (intro hc _ _; with_reducible (first | exact FU _ (by (repeat' (first | (with_reducible exact Below.refl _ _) | (with_reducible refine Below.ext_mk ?_ ?_ _ _) | (with_reducible refine Below.alloc ?_ ?_ _) | (with_reducible refine Below.drew ?_) | (with_reducible refine Below.setCell ?_ ?_ _) | go_size))) | exact LE _ (by (repeat' (first | (with_reducible exact Below.refl _ _) | (with_reducible refine Below.ext_mk ?_ ?_ _ _) | (with_reducible refine Below.alloc ?_ ?_ _) | (with_reducible refine Below.drew ?_) | (with_reducible refine Below.setCell ?_ ?_ _) | go_size)))))); simp only [Act.put, List.setIfInBounds_toArray, List.set_cons_zero, List.set_cons_succ]))
      refine text_nil (HF.out _ (fun mx dx => ?_))
      clear HF F
      clear FU LE hz hz1
      go_upto_region 3 with (fail)
      refine wp_gen (fun V hV => ?_)
      have hbV : Below w.heap.size w V := by rw [hV]; (repeat' (first | (with_reducible exact Below.refl _ _) | (with_reducible refine Below.ext_mk ?_ ?_ _ _) | (with_reducible refine Below.alloc ?_ ?_ _) | (with_reducible refine Below.drew ?_) | (with_reducible refine Below.setCell ?_ ?_ _) | go_size))
      clear hV
      by_cases h1 : 8388608 < l.length
      · have e : RV = (S, [], 3) := by rw [HRV.out]; unfold readV; rw [if_pos h1]
        subst e
        have h1' : (8388608 : Int) < (l.length : Int) := by omega
        have HBV := hid hbV
        clear hbV
        go_wp2
        go_returns
        exact ReadPost.no H.out HBV.out
      · have h1' : ¬ (8388608 : Int) < (l.length : Int) := by omega
        by_cases h2 : l.length < 9
        · have e : RV = (S, [], 13) := by rw [HRV.out]; unfold readV; rw [if_neg h1, if_pos h2]
          subst e
          have h2' : (l.length : Int) < 9 := by omega
          have HBV := hid hbV
          clear hbV
          go_wp2
          go_returns
          exact ReadPost.no H.out HBV.out
        · have h2' : ¬ (l.length : Int) < 9 := by omega
          have hRV : RV = if l.take 3 ≠ [81, 66, 1] then (S, [], 4) else if sealB (l.take (l.length - 4)) ≠ l then (S, [], 15) else readB S l := by rw [HRV.out]; unfold readV; rw [if_neg h1, if_neg h2]
          have s7 := str_any (Rd.takeB (HL.out.below hbV) (i := 3) (c' := lc) (by omega) (by omega))
          have m7 := magic_eq HB.out
          have l3 : (3 : Int) ≤ (lc : Int) := by omega
          have l3' : 3 ≤ lc := by omega
          have SR := hid (sumRight_any (HL.out.below hbV) HB.out (by omega) (by omega))
          generalize strOf (l.take 3) = t1 at s7 m7
          have HBV := hid hbV
          clear hbV
          obtain ⟨lb, lo, rfl, hlb, _⟩ := Rd.byteAt HL.out (i := 0) (by omega)
          by_cases h3 : l.take 3 = [81, 66, 1]
          · rw [if_neg (fun q => q h3)] at hRV
            rw [decide_eq_true h3] at m7
            by_cases h4 : sealB (l.take (l.length - 4)) = l
            · rw [if_neg (fun q => q h4)] at hRV
              rw [decide_eq_true h4] at SR
              have HRV2 := hid hRV
              clear hRV h3 h4 HRV
              go_wp2_with ((with_reducible refine (SR.out).mono ?_); clear SR; rintro e w2 ⟨rfl, b2⟩)
              have b3 := hid (HBV.out.trans (b2.mono HBV.out.size))
              clear b2
              go_wp2_with fail
              go_meet
              case rel => exact ⟨b3.out, HRV2.out, by omega, by omega⟩
            · rw [if_pos h4] at hRV
              rw [decide_eq_false h4] at SR
              subst hRV
              clear h3 h4 HRV
              go_wp2_with ((with_reducible refine (SR.out).mono ?_); clear SR; rintro e w2 ⟨rfl, b2⟩)
              have b3 := hid (HBV.out.trans (b2.mono HBV.out.size))
              clear b2
              go_wp2
              go_returns
              exact ReadPost.no H.out b3.out
          · rw [if_pos h3] at hRV
            rw [decide_eq_false h3] at m7
            subst hRV
            clear h3 SR HRV
            go_wp2
            go_returns
            exact ReadPost.no H.out HBV.out
  case rest =>
    obtain ⟨hbw, hrv, hl9, hlm2⟩ := hcut
    obtain ⟨lb, lo, rfl, hlb, _⟩ := Rd.byteAt HL.out (i := 0) (by omega)
    obtain ⟨m, hm⟩ : ∃ m, m = l.length - 4 := ⟨_, rfl⟩
    have wm : IntKind.i64.wrap ((l.length : Int) - 4) = (m : Int) := by rw [IntWalk.i64_in _ (by omega)]; omega
    have k1 : ¬ lc = 3 := by omega
    have k2 : (m : Int) ≤ (lc : Int) := by omega
    have k3 : (3 : Int) ≤ (m : Int) := by omega
    have k4 : m ≤ lc := by omega
    have k5 : 3 ≤ m := by omega
    have HM := hid hm
    clear hm
    go_upto_region 12 with (fail)
    refine wp_gen (fun V hV => ?_)
    have hbV : Below wc.heap.size wc V := by rw [hV]; (repeat' (first | (with_reducible exact Below.refl _ _) | (with_reducible refine Below.ext_mk ?_ ?_ _ _) | (with_reducible refine Below.alloc ?_ ?_ _) | (with_reducible refine Below.drew ?_) | (with_reducible refine Below.setCell ?_ ?_ _) | go_size))
    have bV : Blk V wc.heap.size 150 [.slice (some ⟨lb, lo + 3, none⟩) (m - 3) (lc - 3), .bool false, .slice none 0 0, .slice none 0 0] := by rw [hV]; exact World.heap_alloc_last wc _
    obtain ⟨Rb, hRb⟩ : ∃ R, R = wc.heap.size := ⟨_, rfl⟩
    rw [← hRb] at bV ⊢
    obtain ⟨l', hl'⟩ : ∃ l', l' = (l.drop 3).take (l.length - 7) := ⟨_, rfl⟩
    have hll : l'.length = m - 3 := by rw [hl', HM.out]; simp; omega
    have R0 : Rdr wc.heap.size V Rb lb (lo + 3) (m - 3) (lc - 3) l' 0 false [] [] (.slice none 0 0) (.slice none 0 0) none none :=
      { cur := { len := hll, cap := by have := HM.out; omega, max := by have := HM.out; omega, lt := by have := hbw.size; have := hbV.size; omega
                 at_ := fun i hi => by
                   have h := (rd_byte (HL.out.below (hbw.trans (hbV.mono hbw.size))) (3 + i) (by have := HM.out; omega)).1
                   rw [show lo + 3 + i = lo + (3 + i) by omega, h]
                   congr 3
                   simp only [hl', List.getElem_take, List.getElem_drop]
                 byte := fun y hy => HB.out y (by rw [hl'] at hy; exact List.mem_of_mem_drop (List.mem_of_mem_take hy)) }
        blk := bV, nrow := ⟨rfl, .inl ⟨rfl, rfl, rfl⟩⟩, rrow := ⟨rfl, .inl ⟨rfl, rfl, rfl⟩⟩, hj := by omega, bB := by have := hbw.size; omega, RB := by omega, g1 := fun g hg => (by cases hg), g2 := fun g hg => (by cases hg) }
    have AL := hid (all_any R0 hbV.size)
    have hP : RV = match parseV l' with | none => (S, [], 4) | some (ns, rs) => if canV ns rs = false then (S, [], 4) else
        if (loadN S [0, 1] ns).1.full = true then ((loadN S [0, 1] ns).1, [], 12) else ((loadN S [0, 1] ns).1, rs.map (fun r => (loadN S [0, 1] ns).2.getD r.toNat 0), 0) := by rw [hrv, hl']; rfl
    have HP := hid hP
    have HBV := hid (hbw.trans (hbV.mono hbw.size))
    have HWC := hid (And.intro hbw (And.intro hRb hbV))
    have HLL := hid (And.intro hl' hll)
    clear R0 bV hV hrv hP hl' hll hRb hbV hbw HRV k1 k2 k3 k4 k5 wm LE hz
    refine wp_region_doc (fun F' hF => ?_)
    have HF := hid hF
    clear hF
    refine doc_val rfl (by first | (go_simp; done) | (go_simp; exact ⟨rfl, rfl⟩) | (go_simp; with_reducible rfl)) ?_
    simp only [Act.put, List.setIfInBounds_toArray, List.set_cons_zero, List.set_cons_succ]
    refine doc_call rfl (by first | (go_simp; done) | (go_simp; exact ⟨rfl, rfl⟩) | (go_simp; with_reducible rfl)) ((AL.out).mono ?_)
    rintro e1 w2 ⟨hb2, ⟨rfl, hno⟩ | ⟨ns, rs, nv, rv, G1, G2, j1, rfl, hyes, hR2, hns, hrs⟩⟩
    · have hRV : RV = (S, [], 4) := by rw [HP.out, hno]
      subst hRV
      refine ⟨_, rfl, ?_⟩
      simp only [Act.put, List.setIfInBounds_toArray, List.set_cons_zero, List.set_cons_succ]
      iterate 2 (refine doc_val rfl (by first | (go_simp; done) | (go_simp; exact ⟨rfl, rfl⟩) | (go_simp; with_reducible rfl)) ?_; simp only [Act.put, List.setIfInBounds_toArray, List.set_cons_zero, List.set_cons_succ])
      iterate 3 (refine doc_not rfl ?_; simp only [Act.put, List.setIfInBounds_toArray, List.set_cons_zero, List.set_cons_succ])
      refine doc_val rfl (by first | (go_simp; done) | (go_simp; exact ⟨rfl, rfl⟩) | (go_simp; with_reducible rfl)) ?_
      simp only [Act.put, List.setIfInBounds_toArray, List.set_cons_zero, List.set_cons_succ]
      refine doc_end (HF.out _ _ ?_)
      have HB2 := hid (HBV.out.trans ((hb2.mono HWC.out.1.size)))
      clear HF F' AL HP hb2 hno
      go_wp2
      go_returns
      exact ReadPost.no H.out HB2.out
    · refine ⟨_, rfl, ?_⟩
      simp only [Act.put, List.setIfInBounds_toArray, List.set_cons_zero, List.set_cons_succ]
      obtain ⟨hN, hro, hns1, -⟩ := parseV_ok hyes
      have CA := hid (canonical_any hR2 hN hro hns hrs)
      have hP := HP.out
      rw [hyes] at hP
      simp only at hP
      have HB2 := hid (HBV.out.trans ((hb2.mono HWC.out.1.size)))
      have HW2 := hid (HWC.out.2.2.trans hb2)
      have HYES := hid (And.intro hyes (And.intro hN (And.intro hro (And.intro hns1 hrs))))
      have R2 := hid hR2
      clear HP AL hb2 hyes hN hro hns hns1 hrs hR2
      iterate 3 (refine doc_val rfl (by first | (go_simp; done) | (go_simp; exact ⟨rfl, rfl⟩) | (go_simp; with_reducible rfl)) ?_; simp only [Act.put, List.setIfInBounds_toArray, List.set_cons_zero, List.set_cons_succ])
      refine doc_call rfl (by first | (go_simp; done) | (go_simp; exact ⟨rfl, rfl⟩) | (go_simp; with_reducible rfl)) ((CA.out).mono ?_)
      rintro e1 w3 ⟨rfl, hb3⟩
      refine ⟨_, rfl, ?_⟩
      simp only [Act.put, List.setIfInBounds_toArray, List.set_cons_zero, List.set_cons_succ]
      have R3 := R2.out.below hb3
      have HB3 := hid (HB2.out.trans (hb3.mono HB2.out.size))
      cases hcv : canV ns rs
      · rw [if_pos hcv] at hP
        subst hP
        iterate 2 (refine doc_val rfl (by first | (go_simp; done) | (go_simp; exact ⟨rfl, rfl⟩) | (go_simp; with_reducible rfl)) ?_; simp only [Act.put, List.setIfInBounds_toArray, List.set_cons_zero, List.set_cons_succ])
        refine doc_end (HF.out _ _ ?_)
        clear HF F' CA hb3 R3 hcv
        go_wp2
        go_returns
        exact ReadPost.no H.out HB3.out
      · rw [if_neg (by rw [hcv]; simp)] at hP
        have HP := hid hP
        have R3 := hid R3
        iterate 2 (refine doc_val rfl (by first | (go_simp; done) | (go_simp; exact ⟨rfl, rfl⟩) | (go_simp; with_reducible rfl)) ?_; simp only [Act.put, List.setIfInBounds_toArray, List.set_cons_zero, List.set_cons_succ])
        refine doc_end (HF.out _ _ ?_)
        clear HF F' CA hb3 hcv hP R2 HB2
        go_upto_region 15 with (fail)
        refine wp_gen (fun X hX => ?_)
        have hbX : Below w3.heap.size w3 X := by rw [hX]; (repeat' (first | (with_reducible exact Below.refl _ _) | (with_reducible refine Below.ext_mk ?_ ?_ _ _) | (with_reducible refine Below.alloc ?_ ?_ _) | (with_reducible refine Below.drew ?_) | (with_reducible refine Below.setCell ?_ ?_ _) | go_size))
        have row0 : RowIs X (.slice (some ⟨w3.heap.size, 0, none⟩) 2 2) (some w3.heap.size) 3 1 2 (ints [0, 1]) := by
          rw [hX]
          exact ⟨rfl, .inr ⟨w3.heap.size, 2, #[.int .i64 0, .int .i64 1], rfl, rfl, World.heap_alloc_last w3 _, Nat.le_refl _, by unfold maxLen; omega, rfl, rfl⟩⟩
        clear hX
        obtain ⟨g0, hg0⟩ : ∃ g, g = w3.heap.size := ⟨_, rfl⟩
        rw [← hg0] at row0 ⊢
        have RX := R3.out.below hbX
        obtain ⟨na, nc, rfl, _⟩ := RowIs.form RX.nrow
        obtain ⟨ra, rc, rfl, _⟩ := RowIs.form RX.rrow
        have HBX := hid (HB3.out.trans (hbX.mono HB3.out.size))
        have hwB : w.heap.size ≤ wc.heap.size := HWC.out.1.size
        -- the blocks that stay
        have KS := hid (show (∀ k, k = Rb ∨ G1 = some k ∨ G2 = some k → k < X.heap.size ∧ k ∉ g0 :: F) ∧ g0 < X.heap.size ∧ w.heap.size ≤ g0 from by
          have h3 := R3.out
          have hsz := HB3.out.size
          refine ⟨fun k hk => ?_, RowIs.lt row0 g0 rfl, by omega⟩
          have hk2 : k < w3.heap.size ∧ wc.heap.size ≤ k := by
            rcases hk with rfl | hk | hk
            · exact ⟨h3.blk.lt, h3.RB⟩
            · exact ⟨RowIs.lt h3.nrow k hk, (h3.g1 k hk).1⟩
            · exact ⟨RowIs.lt h3.rrow k hk, (h3.g2 k hk).1⟩
          refine ⟨Nat.lt_of_lt_of_le hk2.1 hbX.size, fun hm => ?_⟩
          rcases List.mem_cons.1 hm with e | hm
          · omega
          · have := H.out.lt k hm; omega)
        have gF : g0 ∉ F := fun hm => by have := H.out.lt g0 hm; have := KS.out.2.2; omega
        have c2 := RX.blk.cell 2
        have cz := RX.blk.lt
        simp only [List.getElem?_cons_zero, List.getElem?_cons_succ] at c2
        have RX := hid RX
        have ROW0 := hid row0
        clear hbX row0 hg0 R3 hwB
        go_wp2_with fail
        go_loopw [7, 61] (fun mv iv wr => ∃ (j : Nat) (S1 : Sto) (F1 : List Nat) (all : List Int) (g sc : Nat), j ≤ ns.length ∧ iv = .int .i64 j ∧ mv = .slice (some ⟨g, 0, none⟩) all.length sc ∧ StoIs wr p F1 S1 ∧ (Wf S1 ∧ Sated S1) ∧
          RowIs wr mv (some g) 3 1 all.length (ints all) ∧ g ∉ F1 ∧ StoStep X wr (g0 :: F) (g :: F1) ∧ all.length = j + 2 ∧ loadN S1 all (ns.drop j) = loadN S [0, 1] ns) (fun _ iv _ => ns.length - (intOf iv).toNat)
        case atStart => exact ⟨0, S, F, [0, 1], g0, 2, by omega, rfl, rfl, H.out.below HBX.out, HW.out, ROW0.out, gF, StoStep.refl _ _, rfl, rfl⟩
        case round =>
          obtain ⟨j, S1, F1, all, g, sc, hj, rfl, rfl, hS1, hG1, hrow, hgF, hst, hal, hld⟩ := hrel
          have HS1 := hid hS1
          have HG1 := hid hG1
          have HR1 := hid hrow
          have HGF1 := hid hgF
          have HST := hid hst
          have HLD := hid hld
          have hal2 : all.length ≤ 8388609 := by have := HYES.out.2.2.2.1; omega
          have HAL := hid hal
          clear hS1 hG1 hrow hgF hst hld c2 cz hal
          by_cases hlt : j < ns.length
          · have hj1 : (j : Int) < (ns.length : Int) := by omega
            have hx := List.getElem?_eq_getElem hlt
            have nrowW : RowIs wr (.slice na ns.length nc) G1 39 3 ns.length (flat ns) := RowIs.keep RX.out.nrow (fun k hk => HST.out.block k (RowIs.lt RX.out.nrow k hk) (KS.out.1 k (.inr (.inl hk))).2)
            obtain ⟨b', off', rfl, hb1, q0, q1, q2⟩ := Rd.nodeAt (RowIs.rd nrowW) hx
            obtain ⟨n1, n2, n3, n4, n5, n6, -⟩ := HYES.out.2.1.ok j _ hx
            have LD := hid (List.drop_eq_getElem_cons hlt)
            have HLT := hid (And.intro hlt hj1)
            have HJW := hid (next_w (show j ≤ 8388608 by have := HYES.out.2.2.2.1; omega))
            have HMS := hid (meas_w hlt (by have := HYES.out.2.2.2.1; omega))
            generalize ns[j] = x at *
            obtain ⟨vx, lo', hi'⟩ := x
            simp only at q0 q1 q2 n1 n2 n3 n4 n5 n6
            obtain ⟨lo, rfl⟩ : ∃ v : Nat, lo' = v := ⟨lo'.toNat, by omega⟩
            obtain ⟨hi, rfl⟩ : ∃ v : Nat, hi' = v := ⟨hi'.toNat, by omega⟩
            clear hx nrowW
            go_upto_region 18 with (fail)
            refine wp_gen (fun Y hY => ?_)
            have hbY : Below wr.heap.size wr Y := by rw [hY]; (repeat' (first | (with_reducible exact Below.refl _ _) | (with_reducible refine Below.ext_mk ?_ ?_ _ _) | (with_reducible refine Below.alloc ?_ ?_ _) | (with_reducible refine Below.drew ?_) | (with_reducible refine Below.setCell ?_ ?_ _) | go_size))
            have bY : Blk Y wr.heap.size 39 [.int .i64 vx, .int .i64 lo, .int .i64 hi] := by rw [hY]; exact World.heap_alloc_last wr _
            obtain ⟨Bx, hBx⟩ : ∃ b, b = wr.heap.size := ⟨_, rfl⟩
            rw [← hBx] at bY ⊢
            have c0 := bY.cell 0
            have zB0 := bY.lt
            simp only [List.getElem?_cons_zero] at c0
            have SY := HS1.out.below hbY
            have VC := hid (var_call SY HG1.out.1 vx)
            unfold Tells at VC
            obtain ⟨hVW, hVS⟩ := varV_good HG1.out.1 HG1.out.2 vx
            have BXF : Bx ∉ F1 := fun hm => by have := HS1.out.lt Bx hm; omega
            have rowY : RowIs Y (.slice (some ⟨g, 0, none⟩) all.length sc) (some g) 3 1 all.length (ints all) := RowIs.keep HR1.out (fun k hk => hbY.block k (RowIs.lt HR1.out k hk))
            obtain ⟨V1, hV1⟩ : ∃ V, V = varV S1 vx := ⟨_, rfl⟩
            rw [← hV1] at VC hVW hVS
            have HV1 := hid hV1
            have BY := hid bY
            have HBY := hid (And.intro hbY (And.intro hBx BXF))
            have ROWY := hid rowY
            have HVG := hid (And.intro hVW hVS)
            clear hY q0 q1 q2 hb1 SY hV1 hbY hBx BXF rowY bY hVW hVS n1 n2
            refine wp_region_doc (fun F' hF => ?_)
            have HF := hid hF
            clear hF
            iterate 3 (refine doc_val rfl (by first | (go_simp; done) | (go_simp; exact ⟨rfl, rfl⟩) | (go_simp; with_reducible rfl)) ?_; simp only [Act.put, List.setIfInBounds_toArray, List.set_cons_zero, List.set_cons_succ])
            refine doc_call rfl (by first | (go_simp; done) | (go_simp; exact ⟨rfl, rfl⟩) | (go_simp; with_reducible rfl)) ((VC.out).mono ?_)
            rintro _ w4 ⟨rfl, F2, hS2, st2⟩
            refine ⟨_, rfl, ?_⟩
            simp only [Act.put, List.setIfInBounds_toArray, List.set_cons_zero, List.set_cons_succ]
            refine doc_val rfl (by first | (go_simp; done) | (go_simp; exact ⟨rfl, rfl⟩) | (go_simp; with_reducible rfl)) ?_
            simp only [Act.put, List.setIfInBounds_toArray, List.set_cons_zero, List.set_cons_succ]
            refine doc_end (HF.out _ _ ?_)
            clear HF F' VC c0 zB0
            have b4 := BY.out.keep (st2.block Bx BY.out.lt HBY.out.2.2)
            have HB1 := hid (b4.cell 1)
            have HB2 := hid (b4.cell 2)
            have zB := b4.lt
            have zgY := RowIs.lt ROWY.out g rfl
            have row4 : RowIs w4 (.slice (some ⟨g, 0, none⟩) all.length sc) (some g) 3 1 all.length (ints all) := RowIs.keep ROWY.out (fun k hk => by cases hk; exact st2.block g zgY HGF1.out)
            have hg2 : g ∉ F2 := st2.keeps zgY HGF1.out
            have zg := RowIs.lt row4 g rfl
            obtain ⟨x1, hx1⟩ : ∃ x, x = all.getD hi 0 := ⟨_, rfl⟩
            obtain ⟨x2, hx2⟩ : ∃ x, x = all.getD lo 0 := ⟨_, rfl⟩
            have rowc : ∀ c, c < all.length → w4.cell? ⟨g, c, none⟩ = some (.int .i64 (all.getD c 0)) := fun c hc => by
              obtain ⟨g', cap', e1, e2, e3, _⟩ := row4.at hc (j := 0) (by omega)
              cases e2
              simp only [Nat.mul_one, Nat.add_zero] at e3
              rw [e3]; simp [ints, List.getD_eq_getElem?_getD, hc]
            have lhi : hi < all.length := by have := HAL.out; omega
            have hal3 : all.length ≤ 8388608 := by have := HAL.out; have := HLT.out.1; have := HYES.out.2.2.2.1; omega
            have llo : lo < all.length := by have := HAL.out; omega
            have hc1 := rowc hi lhi
            have hc2 := rowc lo llo
            rw [← hx1] at hc1
            rw [← hx2] at hc2
            have HC1 := hid hc1
            have HC2 := hid hc2
            have lhi1 : (hi : Int) < (all.length : Int) := by omega
            have llo1 : (lo : Int) < (all.length : Int) := by omega
            have HROW := hid row4
            have HGF := hid hg2
            have IC := hid (fun W (hb : Below w4.heap.size w4 W) => ite_call (hS2.below hb) HVG.out.1 V1.2 x1 x2)
            unfold Tells at IC
            obtain ⟨R, hR⟩ : ∃ R, R = iteV V1.1 V1.2 x1 x2 := ⟨_, rfl⟩
            rw [← hR] at IC
            have HMK := hid (show makeN S1 all (vx, (lo : Int), (hi : Int)) = R by
              rw [hR, hx1, hx2]; unfold makeN; rw [← HV1.out]; rfl)
            have HRG := hid (show Wf R.1 ∧ Sated R.1 by rw [hR]; exact iteV_good HVG.out.1 HVG.out.2 _ _ _)
            have HX12 := hid (And.intro hx1 hx2)
            have ST4 := hid (HST.out.trans ((StoStep.of_below (F := g :: F1) HBY.out.1).trans (st2.cons g)))
            obtain ⟨v1, vv⟩ := V1
            simp only at IC
            clear b4 row4 hg2 rowc hc1 hc2 hR hx1 hx2 st2 hS2 zgY lhi llo n3 n4 n5 n6
            go_upto_region 19 with (fail)
            refine wp_rm w4 p g all.length sc hi lo Bx vv x1 x2 R.2 F2 R.1 all (by kernel_rfl) (by kernel_rfl) ?_ ?_ ?_
            · refine ⟨0, undef, ?_, ⟨fun _ => Below.drew (Below.refl _ _), fun h => by simp at h, fun h => by simp at h, fun h => by simp at h⟩⟩
              unfold rmAct
              rfl
            · rintro L a W' hall ⟨q, v', rfl, hQ⟩
              obtain ⟨F3, G', hS3, hr3, hg3, hgg, st3⟩ := hQ.d (hall 15 (by decide))
              have e0 := hall 0 (by decide)
              have e1 := hall 1 (by decide)
              have e2 := hall 2 (by decide)
              have e3 := hall 3 (by decide)
              have e4 := hall 4 (by decide)
              have e5 := hall 5 (by decide)
              have e6 := hall 6 (by decide)
              have e7 := hall 7 (by decide)
              have e8 := hall 8 (by decide)
              have e9 := hall 9 (by decide)
              have e10 := hall 10 (by decide)
              have e11 := hall 11 (by decide)
              have e12 := hall 12 (by decide)
              have e13 := hall 13 (by decide)
              have e14 := hall 14 (by decide)
              have e15 := hall 15 (by decide)
              have e16 := hall 16 (by decide)
              unfold rmAct
              simp only [e0, e1, e2, e3, e4, e5, e6, e7, e8, e9, e10, e11, e12, e13, e14, e15, e16, gx_true]
              clear e0 e1 e2 e3 e4 e5 e6 e7 e8 e9 e10 e11 e12 e13 e14 e15 e16 hall hQ
              obtain ⟨a', sc', rfl, hm'⟩ := RowIs.form hr3
              obtain ⟨rfl, -⟩ := RowIs.addr2 hr3
              have HS3 := hid hS3
              have HR3 := hid hr3
              have HG3 := hid hg3
              have HST3 := hid (ST4.out.trans st3)
              clear hS3 hr3 hg3 hgg st3
              go_wp2_with fail
              go_roundw
              case rel =>
                refine ⟨j + 1, R.1, F3, all ++ [R.2], G', sc', HLT.out.1, by rw [HJW.out], rfl, HS3.out, HRG.out, HR3.out, HG3.out, HST3.out, by have := HAL.out; simp; omega, ?_⟩
                have h := HLD.out
                rw [LD.out, loadN, HMK.out] at h
                exact h
              case measure => exact HMS.out
            -- GENERATED by genread.py
            refine ⟨fun L a w2 hn hI => ?_, ?_⟩
            · obtain ⟨q, v', rfl, hI⟩ := hI
              have hup := getD_up hn.2.1
              have f16 := not_upA hn.2.2.2 (i := 16) (k := 0) (by decide +kernel) hn.2.1
              refine st_val (v := .slice (some ⟨g, 0, none⟩) all.length sc) (W1 := w2) rfl (by unfold rmAct; simp only [gx_true, f16, gx_false]; go_simp) ?_
              refine ⟨q, v', ?_, hI.congr (up_ne _ _ (by decide)) (up_ne _ _ (by decide)) (up_ne _ _ (by decide))⟩
              unfold rmAct
              simp only [Act.put, List.setIfInBounds_toArray, List.set_cons_zero, List.set_cons_succ, hup, gx_true, up_ne 0 1 (by decide), up_ne 0 2 (by decide), up_ne 0 3 (by decide), up_ne 0 4 (by decide), up_ne 0 5 (by decide), up_ne 0 6 (by decide), up_ne 0 7 (by decide), up_ne 0 8 (by decide), up_ne 0 9 (by decide), up_ne 0 10 (by decide), up_ne 0 11 (by decide), up_ne 0 12 (by decide), up_ne 0 13 (by decide), up_ne 0 14 (by decide), up_ne 0 15 (by decide), up_ne 0 16 (by decide)]
            refine ⟨fun L a w2 hn hI => ?_, ?_⟩
            · obtain ⟨q, v', rfl, hI⟩ := hI
              have hup := getD_up hn.2.1
              refine st_val (v := .pointer (some ⟨p, 0, none⟩)) (W1 := w2) rfl (by unfold rmAct; simp only [gx_true]; go_simp) ?_
              refine ⟨q, v', ?_, hI.congr (up_ne _ _ (by decide)) (up_ne _ _ (by decide)) (up_ne _ _ (by decide))⟩
              unfold rmAct
              simp only [Act.put, List.setIfInBounds_toArray, List.set_cons_zero, List.set_cons_succ, hup, gx_true, up_ne 1 0 (by decide), up_ne 1 2 (by decide), up_ne 1 3 (by decide), up_ne 1 4 (by decide), up_ne 1 5 (by decide), up_ne 1 6 (by decide), up_ne 1 7 (by decide), up_ne 1 8 (by decide), up_ne 1 9 (by decide), up_ne 1 10 (by decide), up_ne 1 11 (by decide), up_ne 1 12 (by decide), up_ne 1 13 (by decide), up_ne 1 14 (by decide), up_ne 1 15 (by decide), up_ne 1 16 (by decide)]
            refine ⟨fun L a w2 hn hI => ?_, ?_⟩
            · obtain ⟨q, v', rfl, hI⟩ := hI
              have hup := getD_up hn.2.1
              refine st_val (v := .int .i64 vv) (W1 := w2) rfl (by unfold rmAct; simp only [gx_true]; go_simp) ?_
              refine ⟨q, v', ?_, hI.congr (up_ne _ _ (by decide)) (up_ne _ _ (by decide)) (up_ne _ _ (by decide))⟩
              unfold rmAct
              simp only [Act.put, List.setIfInBounds_toArray, List.set_cons_zero, List.set_cons_succ, hup, gx_true, up_ne 2 0 (by decide), up_ne 2 1 (by decide), up_ne 2 3 (by decide), up_ne 2 4 (by decide), up_ne 2 5 (by decide), up_ne 2 6 (by decide), up_ne 2 7 (by decide), up_ne 2 8 (by decide), up_ne 2 9 (by decide), up_ne 2 10 (by decide), up_ne 2 11 (by decide), up_ne 2 12 (by decide), up_ne 2 13 (by decide), up_ne 2 14 (by decide), up_ne 2 15 (by decide), up_ne 2 16 (by decide)]
            refine ⟨fun L a w2 hn hI => ?_, ?_⟩
            · obtain ⟨q, v', rfl, hI⟩ := hI
              have hup := getD_up hn.2.1
              have f16 := not_upA hn.2.2.2 (i := 16) (k := 3) (by decide +kernel) hn.2.1
              refine st_val (v := .slice (some ⟨g, 0, none⟩) all.length sc) (W1 := w2) rfl (by unfold rmAct; simp only [gx_true, f16, gx_false]; go_simp) ?_
              refine ⟨q, v', ?_, hI.congr (up_ne _ _ (by decide)) (up_ne _ _ (by decide)) (up_ne _ _ (by decide))⟩
              unfold rmAct
              simp only [Act.put, List.setIfInBounds_toArray, List.set_cons_zero, List.set_cons_succ, hup, gx_true, up_ne 3 0 (by decide), up_ne 3 1 (by decide), up_ne 3 2 (by decide), up_ne 3 4 (by decide), up_ne 3 5 (by decide), up_ne 3 6 (by decide), up_ne 3 7 (by decide), up_ne 3 8 (by decide), up_ne 3 9 (by decide), up_ne 3 10 (by decide), up_ne 3 11 (by decide), up_ne 3 12 (by decide), up_ne 3 13 (by decide), up_ne 3 14 (by decide), up_ne 3 15 (by decide), up_ne 3 16 (by decide)]
            refine ⟨fun L a w2 hn hI => ?_, ?_⟩
            · obtain ⟨q, v', rfl, hI⟩ := hI
              have hup := getD_up hn.2.1
              refine st_val (v := .pointer (some ⟨Bx, 2, none⟩)) (W1 := w2) rfl (by unfold rmAct; simp only [gx_true]; go_simp) ?_
              refine ⟨q, v', ?_, hI.congr (up_ne _ _ (by decide)) (up_ne _ _ (by decide)) (up_ne _ _ (by decide))⟩
              unfold rmAct
              simp only [Act.put, List.setIfInBounds_toArray, List.set_cons_zero, List.set_cons_succ, hup, gx_true, up_ne 4 0 (by decide), up_ne 4 1 (by decide), up_ne 4 2 (by decide), up_ne 4 3 (by decide), up_ne 4 5 (by decide), up_ne 4 6 (by decide), up_ne 4 7 (by decide), up_ne 4 8 (by decide), up_ne 4 9 (by decide), up_ne 4 10 (by decide), up_ne 4 11 (by decide), up_ne 4 12 (by decide), up_ne 4 13 (by decide), up_ne 4 14 (by decide), up_ne 4 15 (by decide), up_ne 4 16 (by decide)]
            refine ⟨fun L a w2 hn hI => ?_, ?_⟩
            · obtain ⟨q, v', rfl, hI⟩ := hI
              have hup := getD_up hn.2.1
              have d4 : L.getD 4 false = true := hn.2.2.1 4 (by decide +kernel)
              have f13 := not_upA hn.2.2.2 (i := 13) (k := 5) (by decide +kernel) hn.2.1
              have hB := hI.a f13
              have zbw : Bx < w2.heap.size := Nat.lt_of_lt_of_le zB hB.size
              have kc := (hB.cell (p := ⟨Bx, 2, none⟩) zB).trans HB2.out
              refine st_val (v := .int .i64 (hi : Nat)) (W1 := w2) rfl (by unfold rmAct; simp only [gx_true, d4]; go_simp) ?_
              refine ⟨q, v', ?_, hI.congr (up_ne _ _ (by decide)) (up_ne _ _ (by decide)) (up_ne _ _ (by decide))⟩
              unfold rmAct
              simp only [Act.put, List.setIfInBounds_toArray, List.set_cons_zero, List.set_cons_succ, hup, gx_true, up_ne 5 0 (by decide), up_ne 5 1 (by decide), up_ne 5 2 (by decide), up_ne 5 3 (by decide), up_ne 5 4 (by decide), up_ne 5 6 (by decide), up_ne 5 7 (by decide), up_ne 5 8 (by decide), up_ne 5 9 (by decide), up_ne 5 10 (by decide), up_ne 5 11 (by decide), up_ne 5 12 (by decide), up_ne 5 13 (by decide), up_ne 5 14 (by decide), up_ne 5 15 (by decide), up_ne 5 16 (by decide)]
            refine ⟨fun L a w2 hn hI => ?_, ?_⟩
            · obtain ⟨q, v', rfl, hI⟩ := hI
              have hup := getD_up hn.2.1
              have d3 : L.getD 3 false = true := hn.2.2.1 3 (by decide +kernel)
              have d5 : L.getD 5 false = true := hn.2.2.1 5 (by decide +kernel)
              refine st_val (v := .pointer (some ⟨g, hi, none⟩)) (W1 := w2) rfl (by unfold rmAct; simp only [gx_true, d3, d5]; go_simp) ?_
              refine ⟨q, v', ?_, hI.congr (up_ne _ _ (by decide)) (up_ne _ _ (by decide)) (up_ne _ _ (by decide))⟩
              unfold rmAct
              simp only [Act.put, List.setIfInBounds_toArray, List.set_cons_zero, List.set_cons_succ, hup, gx_true, up_ne 6 0 (by decide), up_ne 6 1 (by decide), up_ne 6 2 (by decide), up_ne 6 3 (by decide), up_ne 6 4 (by decide), up_ne 6 5 (by decide), up_ne 6 7 (by decide), up_ne 6 8 (by decide), up_ne 6 9 (by decide), up_ne 6 10 (by decide), up_ne 6 11 (by decide), up_ne 6 12 (by decide), up_ne 6 13 (by decide), up_ne 6 14 (by decide), up_ne 6 15 (by decide), up_ne 6 16 (by decide)]
            refine ⟨fun L a w2 hn hI => ?_, ?_⟩
            · obtain ⟨q, v', rfl, hI⟩ := hI
              have hup := getD_up hn.2.1
              have d6 : L.getD 6 false = true := hn.2.2.1 6 (by decide +kernel)
              have f13 := not_upA hn.2.2.2 (i := 13) (k := 7) (by decide +kernel) hn.2.1
              have hB := hI.a f13
              have zgw : g < w2.heap.size := Nat.lt_of_lt_of_le zg hB.size
              have kc := (hB.cell (p := ⟨g, hi, none⟩) zg).trans HC1.out
              refine st_val (v := .int .i64 x1) (W1 := w2) rfl (by unfold rmAct; simp only [gx_true, d6]; go_simp) ?_
              refine ⟨q, v', ?_, hI.congr (up_ne _ _ (by decide)) (up_ne _ _ (by decide)) (up_ne _ _ (by decide))⟩
              unfold rmAct
              simp only [Act.put, List.setIfInBounds_toArray, List.set_cons_zero, List.set_cons_succ, hup, gx_true, up_ne 7 0 (by decide), up_ne 7 1 (by decide), up_ne 7 2 (by decide), up_ne 7 3 (by decide), up_ne 7 4 (by decide), up_ne 7 5 (by decide), up_ne 7 6 (by decide), up_ne 7 8 (by decide), up_ne 7 9 (by decide), up_ne 7 10 (by decide), up_ne 7 11 (by decide), up_ne 7 12 (by decide), up_ne 7 13 (by decide), up_ne 7 14 (by decide), up_ne 7 15 (by decide), up_ne 7 16 (by decide)]
            refine ⟨fun L a w2 hn hI => ?_, ?_⟩
            · obtain ⟨q, v', rfl, hI⟩ := hI
              have hup := getD_up hn.2.1
              have f16 := not_upA hn.2.2.2 (i := 16) (k := 8) (by decide +kernel) hn.2.1
              refine st_val (v := .slice (some ⟨g, 0, none⟩) all.length sc) (W1 := w2) rfl (by unfold rmAct; simp only [gx_true, f16, gx_false]; go_simp) ?_
              refine ⟨q, v', ?_, hI.congr (up_ne _ _ (by decide)) (up_ne _ _ (by decide)) (up_ne _ _ (by decide))⟩
              unfold rmAct
              simp only [Act.put, List.setIfInBounds_toArray, List.set_cons_zero, List.set_cons_succ, hup, gx_true, up_ne 8 0 (by decide), up_ne 8 1 (by decide), up_ne 8 2 (by decide), up_ne 8 3 (by decide), up_ne 8 4 (by decide), up_ne 8 5 (by decide), up_ne 8 6 (by decide), up_ne 8 7 (by decide), up_ne 8 9 (by decide), up_ne 8 10 (by decide), up_ne 8 11 (by decide), up_ne 8 12 (by decide), up_ne 8 13 (by decide), up_ne 8 14 (by decide), up_ne 8 15 (by decide), up_ne 8 16 (by decide)]
            refine ⟨fun L a w2 hn hI => ?_, ?_⟩
            · obtain ⟨q, v', rfl, hI⟩ := hI
              have hup := getD_up hn.2.1
              refine st_val (v := .pointer (some ⟨Bx, 1, none⟩)) (W1 := w2) rfl (by unfold rmAct; simp only [gx_true]; go_simp) ?_
              refine ⟨q, v', ?_, hI.congr (up_ne _ _ (by decide)) (up_ne _ _ (by decide)) (up_ne _ _ (by decide))⟩
              unfold rmAct
              simp only [Act.put, List.setIfInBounds_toArray, List.set_cons_zero, List.set_cons_succ, hup, gx_true, up_ne 9 0 (by decide), up_ne 9 1 (by decide), up_ne 9 2 (by decide), up_ne 9 3 (by decide), up_ne 9 4 (by decide), up_ne 9 5 (by decide), up_ne 9 6 (by decide), up_ne 9 7 (by decide), up_ne 9 8 (by decide), up_ne 9 10 (by decide), up_ne 9 11 (by decide), up_ne 9 12 (by decide), up_ne 9 13 (by decide), up_ne 9 14 (by decide), up_ne 9 15 (by decide), up_ne 9 16 (by decide)]
            refine ⟨fun L a w2 hn hI => ?_, ?_⟩
            · obtain ⟨q, v', rfl, hI⟩ := hI
              have hup := getD_up hn.2.1
              have d9 : L.getD 9 false = true := hn.2.2.1 9 (by decide +kernel)
              have f13 := not_upA hn.2.2.2 (i := 13) (k := 10) (by decide +kernel) hn.2.1
              have hB := hI.a f13
              have zbw : Bx < w2.heap.size := Nat.lt_of_lt_of_le zB hB.size
              have kc := (hB.cell (p := ⟨Bx, 1, none⟩) zB).trans HB1.out
              refine st_val (v := .int .i64 (lo : Nat)) (W1 := w2) rfl (by unfold rmAct; simp only [gx_true, d9]; go_simp) ?_
              refine ⟨q, v', ?_, hI.congr (up_ne _ _ (by decide)) (up_ne _ _ (by decide)) (up_ne _ _ (by decide))⟩
              unfold rmAct
              simp only [Act.put, List.setIfInBounds_toArray, List.set_cons_zero, List.set_cons_succ, hup, gx_true, up_ne 10 0 (by decide), up_ne 10 1 (by decide), up_ne 10 2 (by decide), up_ne 10 3 (by decide), up_ne 10 4 (by decide), up_ne 10 5 (by decide), up_ne 10 6 (by decide), up_ne 10 7 (by decide), up_ne 10 8 (by decide), up_ne 10 9 (by decide), up_ne 10 11 (by decide), up_ne 10 12 (by decide), up_ne 10 13 (by decide), up_ne 10 14 (by decide), up_ne 10 15 (by decide), up_ne 10 16 (by decide)]
            refine ⟨fun L a w2 hn hI => ?_, ?_⟩
            · obtain ⟨q, v', rfl, hI⟩ := hI
              have hup := getD_up hn.2.1
              have d8 : L.getD 8 false = true := hn.2.2.1 8 (by decide +kernel)
              have d10 : L.getD 10 false = true := hn.2.2.1 10 (by decide +kernel)
              refine st_val (v := .pointer (some ⟨g, lo, none⟩)) (W1 := w2) rfl (by unfold rmAct; simp only [gx_true, d8, d10]; go_simp) ?_
              refine ⟨q, v', ?_, hI.congr (up_ne _ _ (by decide)) (up_ne _ _ (by decide)) (up_ne _ _ (by decide))⟩
              unfold rmAct
              simp only [Act.put, List.setIfInBounds_toArray, List.set_cons_zero, List.set_cons_succ, hup, gx_true, up_ne 11 0 (by decide), up_ne 11 1 (by decide), up_ne 11 2 (by decide), up_ne 11 3 (by decide), up_ne 11 4 (by decide), up_ne 11 5 (by decide), up_ne 11 6 (by decide), up_ne 11 7 (by decide), up_ne 11 8 (by decide), up_ne 11 9 (by decide), up_ne 11 10 (by decide), up_ne 11 12 (by decide), up_ne 11 13 (by decide), up_ne 11 14 (by decide), up_ne 11 15 (by decide), up_ne 11 16 (by decide)]
            refine ⟨fun L a w2 hn hI => ?_, ?_⟩
            · obtain ⟨q, v', rfl, hI⟩ := hI
              have hup := getD_up hn.2.1
              have d11 : L.getD 11 false = true := hn.2.2.1 11 (by decide +kernel)
              have f13 := not_upA hn.2.2.2 (i := 13) (k := 12) (by decide +kernel) hn.2.1
              have hB := hI.a f13
              have zgw : g < w2.heap.size := Nat.lt_of_lt_of_le zg hB.size
              have kc := (hB.cell (p := ⟨g, lo, none⟩) zg).trans HC2.out
              refine st_val (v := .int .i64 x2) (W1 := w2) rfl (by unfold rmAct; simp only [gx_true, d11]; go_simp) ?_
              refine ⟨q, v', ?_, hI.congr (up_ne _ _ (by decide)) (up_ne _ _ (by decide)) (up_ne _ _ (by decide))⟩
              unfold rmAct
              simp only [Act.put, List.setIfInBounds_toArray, List.set_cons_zero, List.set_cons_succ, hup, gx_true, up_ne 12 0 (by decide), up_ne 12 1 (by decide), up_ne 12 2 (by decide), up_ne 12 3 (by decide), up_ne 12 4 (by decide), up_ne 12 5 (by decide), up_ne 12 6 (by decide), up_ne 12 7 (by decide), up_ne 12 8 (by decide), up_ne 12 9 (by decide), up_ne 12 10 (by decide), up_ne 12 11 (by decide), up_ne 12 13 (by decide), up_ne 12 14 (by decide), up_ne 12 15 (by decide), up_ne 12 16 (by decide)]
            refine ⟨fun L a w2 hn hI => ?_, ?_⟩
            · obtain ⟨q, v', rfl, hI⟩ := hI
              have hup := getD_up hn.2.1
              have d1 : L.getD 1 false = true := hn.2.2.1 1 (by decide +kernel)
              have d2 : L.getD 2 false = true := hn.2.2.1 2 (by decide +kernel)
              have d7 : L.getD 7 false = true := hn.2.2.1 7 (by decide +kernel)
              have d12 : L.getD 12 false = true := hn.2.2.1 12 (by decide +kernel)
              have f13 := getD_false_of hn.2.1
              have f14 := not_upA hn.2.2.2 (i := 14) (k := 13) (by decide +kernel) hn.2.1
              have f15 := not_upA hn.2.2.2 (i := 15) (k := 13) (by decide +kernel) hn.2.1
              refine st_call (f := 25) (args := #[.pointer (some ⟨p, 0, none⟩), .int .i64 vv, .int .i64 x1, .int .i64 x2]) (W1 := w2) rfl (by unfold rmAct; simp only [gx_true, d1, d2, d7, d12]; first | (go_simp; done) | (go_simp; exact ⟨rfl, rfl⟩) | (go_simp; with_reducible rfl)) ((IC.out w2 (hI.a f13)).mono ?_)
              rintro e' w3 ⟨rfl, F2, hS2, st2⟩
              refine ⟨_, rfl, q, v', ?_, hI.ite f13 hup ((up_ne _ _ (by decide)).trans f14) ((up_ne _ _ (by decide)).trans f15) hS2 st2⟩
              unfold rmAct
              simp only [Act.put, List.setIfInBounds_toArray, List.set_cons_zero, List.set_cons_succ, hup, gx_true, up_ne 13 0 (by decide), up_ne 13 1 (by decide), up_ne 13 2 (by decide), up_ne 13 3 (by decide), up_ne 13 4 (by decide), up_ne 13 5 (by decide), up_ne 13 6 (by decide), up_ne 13 7 (by decide), up_ne 13 8 (by decide), up_ne 13 9 (by decide), up_ne 13 10 (by decide), up_ne 13 11 (by decide), up_ne 13 12 (by decide), up_ne 13 14 (by decide), up_ne 13 15 (by decide), up_ne 13 16 (by decide)]
            refine ⟨fun L a w2 hn hI => ?_, ?_⟩
            · obtain ⟨q, v', rfl, hI⟩ := hI
              have hup := getD_up hn.2.1
              have d13 : L.getD 13 false = true := hn.2.2.1 13 (by decide +kernel)
              have f14 := getD_false_of hn.2.1
              have f15 := not_upA hn.2.2.2 (i := 15) (k := 14) (by decide +kernel) hn.2.1
              have f16 := not_upA hn.2.2.2 (i := 16) (k := 14) (by decide +kernel) hn.2.1
              refine st_val (v := .slice (some ⟨w2.heap.size, 0, none⟩) 1 1) (W1 := w2.alloc (.cells #[.int .i64 R.2] 3)) rfl (by unfold rmAct; simp only [gx_true, d13]; go_simp) ?_
              refine ⟨w2.heap.size, v', ?_, hI.lit d13 f14 ((up_ne _ _ (by decide)).trans d13) hup ((up_ne _ _ (by decide)).trans f15)⟩
              unfold rmAct
              simp only [Act.put, List.setIfInBounds_toArray, List.set_cons_zero, List.set_cons_succ, hup, gx_true, f15, f16, gx_false, up_ne 14 0 (by decide), up_ne 14 1 (by decide), up_ne 14 2 (by decide), up_ne 14 3 (by decide), up_ne 14 4 (by decide), up_ne 14 5 (by decide), up_ne 14 6 (by decide), up_ne 14 7 (by decide), up_ne 14 8 (by decide), up_ne 14 9 (by decide), up_ne 14 10 (by decide), up_ne 14 11 (by decide), up_ne 14 12 (by decide), up_ne 14 13 (by decide), up_ne 14 15 (by decide), up_ne 14 16 (by decide)]
            refine ⟨fun L a w2 hn hI => ?_, ?_⟩
            · obtain ⟨q, v', rfl, hI⟩ := hI
              have hup := getD_up hn.2.1
              have d0 : L.getD 0 false = true := hn.2.2.1 0 (by decide +kernel)
              have d14 : L.getD 14 false = true := hn.2.2.1 14 (by decide +kernel)
              have f15 := getD_false_of hn.2.1
              have f16 := not_upA hn.2.2.2 (i := 16) (k := 15) (by decide +kernel) hn.2.1
              obtain ⟨v2, w3, G2, r1, r2, -⟩ := hI.app HROW.out HGF.out (by omega) d14 f15
              refine st_val (v := v2) (W1 := w3) rfl (by unfold rmAct; simp only [gx_true, d0, d14]; exact run_append_op _ _ _ _ _ _ _ _ _ r1) ?_
              refine ⟨q, v2, ?_, hI.fin hup ((up_ne _ _ (by decide)).trans (hn.2.2.1 13 (by decide +kernel))) ((up_ne _ _ (by decide)).trans d14) r2⟩
              unfold rmAct
              simp only [Act.put, List.setIfInBounds_toArray, List.set_cons_zero, List.set_cons_succ, hup, gx_true, f16, gx_false, up_ne 15 0 (by decide), up_ne 15 1 (by decide), up_ne 15 2 (by decide), up_ne 15 3 (by decide), up_ne 15 4 (by decide), up_ne 15 5 (by decide), up_ne 15 6 (by decide), up_ne 15 7 (by decide), up_ne 15 8 (by decide), up_ne 15 9 (by decide), up_ne 15 10 (by decide), up_ne 15 11 (by decide), up_ne 15 12 (by decide), up_ne 15 13 (by decide), up_ne 15 14 (by decide), up_ne 15 16 (by decide)]
            refine ⟨fun L a w2 hn hI => ?_, ?_⟩
            · obtain ⟨q, v', rfl, hI⟩ := hI
              have hup := getD_up hn.2.1
              have d15 : L.getD 15 false = true := hn.2.2.1 15 (by decide +kernel)
              refine st_val (v := v') (W1 := w2) rfl (by unfold rmAct; simp only [gx_true, d15]; go_simp) ?_
              refine ⟨q, v', ?_, hI.congr (up_ne _ _ (by decide)) (up_ne _ _ (by decide)) (up_ne _ _ (by decide))⟩
              unfold rmAct
              simp only [Act.put, List.setIfInBounds_toArray, List.set_cons_zero, List.set_cons_succ, hup, gx_true, up_ne 16 0 (by decide), up_ne 16 1 (by decide), up_ne 16 2 (by decide), up_ne 16 3 (by decide), up_ne 16 4 (by decide), up_ne 16 5 (by decide), up_ne 16 6 (by decide), up_ne 16 7 (by decide), up_ne 16 8 (by decide), up_ne 16 9 (by decide), up_ne 16 10 (by decide), up_ne 16 11 (by decide), up_ne 16 12 (by decide), up_ne 16 13 (by decide), up_ne 16 14 (by decide), up_ne 16 15 (by decide)]
            trivial
            -- END GENERATED
          · obtain rfl : j = ns.length := by omega
            have HRES := hid (show loadN S [0, 1] ns = (S1, all) by have h := HLD.out; rw [List.drop_length, loadN] at h; exact h.symm)
            have hP := HP.out
            rw [HRES.out] at hP
            simp only at hP
            have hc1 : S1.cap ≠ 0 := by have := HG1.out.1.cap2; omega
            have HSW := hid (StoStep.off HST.out HBX.out KS.out.2.2 (fun k hk => HS1.out.lt k hk))
            have FU1 := hid (full_any HS1.out hc1)
            clear hc1 FU
            go_upto_region 21 with (fail)
            cases hfu : S1.full
            · rw [if_neg (by rw [hfu]; simp)] at hP
              rw [hfu] at FU1
              have HP := hid hP
              clear hP hfu
              go_upto_region 24 with ((with_reducible refine (FU1.out).mono ?_); clear FU1; rintro e w5 ⟨rfl, m5, d5, rfl⟩)
              refine wp_gen (fun Z hZ => ?_)
              have hb5 : Below wr.heap.size wr Z := by rw [hZ]; (repeat' (first | (with_reducible exact Below.refl _ _) | (with_reducible refine Below.ext_mk ?_ ?_ _ _) | (with_reducible refine Below.alloc ?_ ?_ _) | (with_reducible refine Below.drew ?_) | (with_reducible refine Below.setCell ?_ ?_ _) | go_size))
              obtain ⟨og, hog⟩ : ∃ g, g = wr.heap.size + m5.size := ⟨_, rfl⟩
              have rowZ : RowIs Z (.slice (some ⟨og, 0, none⟩) 0 0) (some og) 3 1 0 (ints []) := by
                rw [hZ, hog]
                have h := World.heap_alloc_last (wr.ext m5 d5) (.cells #[] 3)
                rw [World.size_ext] at h
                exact ⟨rfl, .inr ⟨_, 0, #[], rfl, rfl, h, Nat.le_refl _, by unfold maxLen; omega, rfl, rfl⟩⟩
              rw [← hog]
              have hog2 : wr.heap.size ≤ og := by omega
              have HR3 := hid (RowIs.keep HR1.out (fun k hk => hb5.block k (RowIs.lt HR1.out k hk)))
              have kG2 : ∀ k, k = Rb ∨ G1 = some k ∨ G2 = some k → k < wr.heap.size ∧ wr.heap[k]? = X.heap[k]? := fun k hk => by
                obtain ⟨h1, h2⟩ := KS.out.1 k hk
                exact ⟨Nat.lt_of_lt_of_le h1 HST.out.size, HST.out.block k h1 h2⟩
              have RZ := hid (RowIs.keep (RowIs.keep RX.out.rrow (fun k hk => (kG2 k (.inr (.inr hk))).2)) (fun k hk => hb5.block k (kG2 k (.inr (.inr hk))).1))
              have c3 := ((cell_of_heap 3 (hb5.block Rb (kG2 Rb (.inl rfl)).1)).trans (cell_of_heap 3 (kG2 Rb (.inl rfl)).2)).trans (RX.out.blk.cell 3)
              have cz : Rb < Z.heap.size := Nat.lt_of_lt_of_le (kG2 Rb (.inl rfl)).1 hb5.size
              simp only [List.getElem?_cons_zero, List.getElem?_cons_succ] at c3
              have HB5 := hid (And.intro hb5 (And.intro hog2 (fun k hk => (kG2 k hk).1)))
              have ROWZ := hid rowZ
              have HLA := hid (show all.length = ns.length + 2 from HAL.out)
              clear hZ hog hog2 hb5 rowZ kG2 HLD
              obtain ⟨w6, hw6⟩ : ∃ w6, w6 = wr := ⟨_, rfl⟩
              subst hw6
              go_wp2_with fail
              go_loopw [11, 94] (fun ov iv wv => ∃ (j : Nat) (og' sc' : Nat), j ≤ rs.length ∧ iv = .int .i64 j ∧ ov = .slice (some ⟨og', 0, none⟩) j sc' ∧ RowIs wv ov (some og') 3 1 ((rs.take j).map (fun r => all.getD r.toNat 0)).length (ints ((rs.take j).map (fun r => all.getD r.toNat 0))) ∧
                StoStep Z wv [og] [og']) (fun _ iv _ => rs.length - (intOf iv).toNat)
              case atStart => exact ⟨0, og, 0, by omega, rfl, rfl, ROWZ.out, StoStep.refl _ _⟩
              case round =>
                obtain ⟨j, og', sc', hj, rfl, rfl, hrow, hst⟩ := hrel
                have HRW := hid hrow
                have HSZ := hid hst
                have hbz := HB5.out.1.trans (hst.below (B := w6.heap.size) (fun k hk => by simp at hk; have := HB5.out.2.1; omega) HB5.out.1.size)
                have HBZ := hid hbz
                clear hrow hst c3 cz
                by_cases hlt : j < rs.length
                · have hj1 : (j : Int) < (rs.length : Int) := by omega
                  have hog : ∀ k, k < w6.heap.size → k ∉ [og] := fun k hk hm => by simp at hm; have := HB5.out.2.1; omega
                  have rootW := RowIs.keep RZ.out (fun k hk => HSZ.out.block k (RowIs.lt RZ.out k hk) (hog k (HB5.out.2.2 k (.inr (.inr hk)))))
                  have madeW := RowIs.keep HR3.out (fun k hk => HSZ.out.block k (RowIs.lt HR3.out k hk) (hog k (by cases hk; exact RowIs.lt HR1.out g rfl)))
                  obtain ⟨b', off', rfl, hb1, q0⟩ := Rd.intAt (RowIs.rd rootW) hlt
                  obtain ⟨a0, a1⟩ := HYES.out.2.2.1 rs[j] (List.getElem_mem _)
                  have TK := hid (show (rs.take (j + 1)).map (fun r => all.getD r.toNat 0) = (rs.take j).map (fun r => all.getD r.toNat 0) ++ [all.getD (rs[j]).toNat 0] by
                    rw [List.take_add_one, List.getElem?_eq_getElem hlt, List.map_append]; rfl)
                  have HLT := hid (And.intro hlt (meas_w hlt (by have := HYES.out.2.2.2.2; omega)))
                  have HJW := hid (next_w (show j ≤ 8388608 by have := HYES.out.2.2.2.2; omega))
                  generalize rs[j] = r at *
                  obtain ⟨r, rfl⟩ : ∃ v : Nat, r = v := ⟨r.toNat, by omega⟩
                  rw [Int.toNat_natCast] at TK
                  have lr : r < all.length := by have := HLA.out; omega
                  have lr1 : (r : Int) < (all.length : Int) := by omega
                  obtain ⟨x1, hx1⟩ : ∃ x, x = all.getD r 0 := ⟨_, rfl⟩
                  have qc : wr.cell? ⟨g, r, none⟩ = some (.int .i64 x1) := by
                    obtain ⟨g', cap', e1, e2, e3, _⟩ := madeW.at lr (j := 0) (by omega)
                    cases e2
                    simp only [Nat.mul_one, Nat.add_zero] at e3
                    rw [e3, hx1]; simp [ints, List.getD_eq_getElem?_getD, lr]
                  have qz := RowIs.lt madeW g rfl
                  rw [← hx1] at TK
                  have hln : ((rs.take j).map (fun r => all.getD r.toNat 0)).length = j := by simp; omega
                  obtain ⟨v', W3, G', p1, p2, p3, p4⟩ := int_one HRW.out (by have := HYES.out.2.2.2.2; omega) x1
                  rw [← TK.out] at p2
                  obtain ⟨ga, gc, rfl, _⟩ := RowIs.form p2
                  obtain ⟨rfl, -⟩ := RowIs.addr2 p2
                  have hln2 : ((rs.take (j + 1)).map (fun r => all.getD r.toNat 0)).length = j + 1 := by simp; omega
                  rw [hln2] at p1
                  have HLN2 := hid hln2
                  have P1 := hid p1
                  have P2 := hid p2
                  have P4 := hid (HSZ.out.trans (show StoStep wr W3 [og'] [G'] from p4))
                  clear p1 p2 p3 p4 rootW madeW hx1 hln hln2 lr a0 a1 hbz hog
                  go_upto_region 27 with (fail)
                  refine wp_region_doc (fun F' hF => ?_)
                  have HF := hid hF
                  clear hF
                  iterate 6 (refine doc_val rfl (by first | (go_simp; done) | (go_simp; exact ⟨rfl, rfl⟩) | (go_simp; with_reducible rfl)) ?_; simp only [Act.put, List.setIfInBounds_toArray, List.set_cons_zero, List.set_cons_succ])
                  refine doc_val rfl (run_append_op _ _ _ _ _ _ _ _ _ P1.out) ?_
                  simp only [Act.put, List.setIfInBounds_toArray, List.set_cons_zero, List.set_cons_succ]
                  refine doc_val rfl (by first | (go_simp; done) | (go_simp; exact ⟨rfl, rfl⟩) | (go_simp; with_reducible rfl)) ?_
                  simp only [Act.put, List.setIfInBounds_toArray, List.set_cons_zero, List.set_cons_succ]
                  refine doc_end (HF.out _ _ ?_)
                  clear HF F' P1 q0 qc qz hb1
                  go_wp2_with fail
                  go_roundw
                  case rel =>
                    refine ⟨j + 1, G', gc, HLT.out.1, by rw [HJW.out], rfl, ?_, P4.out⟩
                    have h := P2.out
                    rw [HLN2.out] at h ⊢
                    exact h
                  case measure => exact HLT.out.2
                · obtain rfl : j = rs.length := by omega
                  have hP := HP.out
                  have hog3 : w.heap.size ≤ og' ∧ og' ∉ F1 := by
                    have h1 := HSZ.out.fresh og' (by simp)
                    have h2 := HSW.out.size
                    have h3 := HB5.out.2.1
                    have h4 := HB5.out.1.size
                    have h5 : w6.heap.size ≤ og' := by
                      rcases h1 with h | h
                      · simp at h; omega
                      · omega
                    exact ⟨by omega, fun hm => by have := HS1.out.lt og' hm; omega⟩
                  have HO := hid hog3
                  have HRW2 := hid (show RowIs wr (.slice (some ⟨og', 0, none⟩) rs.length sc') (some og') 3 1 (rs.map (fun r => all.getD r.toNat 0)).length (ints (rs.map (fun r => all.getD r.toNat 0))) by
                    have h := HRW.out; rw [List.take_length] at h; exact h)
                  subst hP
                  clear hog3 hbz
                  go_wp2_with fail
                  go_returns
                  exact ⟨_, some og', F1, rfl, HRW2.out, fun k hk => by cases hk; exact HO.out, HS1.out.below HBZ.out, HSW.out.trans (StoStep.of_below HBZ.out)⟩
            · rw [if_pos hfu] at hP
              rw [hfu] at FU1
              subst hP
              clear hfu
              go_wp2_with ((with_reducible refine (FU1.out).mono ?_); clear FU1; rintro e w5 ⟨rfl, m5, d5, rfl⟩)
              go_wp2
              go_returns
              have hb5 : Below wr.heap.size wr (wr.ext m5 d5) := Below.ext_mk (Below.refl _ _) (Nat.le_refl _) _ _
              exact ⟨_, none, F1, rfl, ⟨rfl, .inl ⟨rfl, rfl, rfl⟩⟩, fun g hg => (by cases hg), HS1.out.below hb5, HSW.out.trans (StoStep.of_below hb5)⟩
end
end Go.Proofs.Ytboekafmplomhaa
namespace Go.Proofs.Ytboekafmplomhaa
open Go.RowKit
end Go.Proofs.Ytboekafmplomhaa
