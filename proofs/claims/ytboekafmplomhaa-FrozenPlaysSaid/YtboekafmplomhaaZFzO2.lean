/-
  Package tidy over a store that is not there: nothing moves, nothing is the same.
-/
import Derived.Test.YtboekafmplomhaaZTidy
import Derived.Test.YtboekafmplomhaaZStage
import Derived.Test.YtboekafmplomhaaZQuantC
import Derived.Test.YtboekafmplomhaaZMeansR
import Derived.Test.YtboekafmplomhaaZEach
import Derived.Test.YtboekafmplomhaaZFzP
import Derived.Test.YtboekafmplomhaaZSupB
set_option linter.unusedVariables false
set_option linter.unusedSimpArgs false
namespace Go.Proofs.Ytboekafmplomhaa
open Go.RowKit

end Go.Proofs.Ytboekafmplomhaa
set_option linter.unusedVariables false
set_option linter.unusedSimpArgs false
namespace Go.Proofs.Ytboekafmplomhaa
open Go.RowKit

structure MoveW (t mb it im : Nat) (w : World) (Ft : List Nat) (T : Sto) (J : List (Int × Int)) : Prop where
  sto : StoIs w t Ft T
  wf : Wf T
  sat : Sated T
  map : MapIs ki w mb J
  mF : mb ∉ Ft
  tF : it ∉ Ft
  iF : im ∉ Ft
  tm : it ≠ mb
  ne : im ≠ mb
  zt : it < w.heap.size
  zm : im < w.heap.size
  ct : w.cell? ⟨it, 0, none⟩ = some (.pointer (some ⟨t, 0, none⟩))
  cm : w.cell? ⟨im, 0, none⟩ = some (.map (some mb))
section
variable {t mb it im : Nat} {w w' : World} {Ft Ft' : List Nat} {T T' : Sto} {J J' : List (Int × Int)}
theorem MoveW.step (h : MoveW t mb it im w Ft T J) (st : StoStep w w' (mb :: Ft) (mb :: Ft')) (hS : StoIs w' t Ft' T') (hW : Wf T') (hs : Sated T') (hm : MapIs ki w' mb J') (hn : mb ∉ Ft') : MoveW t mb it im w' Ft' T' J' :=
  have k1 : it ∉ mb :: Ft := by simp only [List.mem_cons, not_or]; exact ⟨h.tm, h.tF⟩
  have k2 : im ∉ mb :: Ft := by simp only [List.mem_cons, not_or]; exact ⟨h.ne, h.iF⟩
  { sto := hS, wf := hW, sat := hs, map := hm, mF := hn
    tF := fun hm => st.keeps h.zt k1 (List.mem_cons_of_mem _ hm), iF := fun hm => st.keeps h.zm k2 (List.mem_cons_of_mem _ hm)
    tm := h.tm, ne := h.ne, zt := Nat.lt_of_lt_of_le h.zt st.size, zm := Nat.lt_of_lt_of_le h.zm st.size
    ct := (cell_of_heap 0 (st.block _ h.zt k1)).trans h.ct, cm := (cell_of_heap 0 (st.block _ h.zm k2)).trans h.cm }
theorem MoveW.below (h : MoveW t mb it im w Ft T J) (hb : Below w.heap.size w w') : MoveW t mb it im w' Ft T J :=
  h.step (StoStep.of_below hb) (h.sto.below hb) h.wf h.sat (MapIs.keep h.map (hb.block _ (MapIs.lt h.map))) h.mF
end
end Go.Proofs.Ytboekafmplomhaa
set_option linter.unusedVariables false
set_option linter.unusedSimpArgs false
namespace Go.Proofs.Ytboekafmplomhaa
open Go.RowKit

theorem Arr.rd {w : World} {g : Nat} {e : TypeId} {xs : List Value} (h : Arr w g e xs) (hl : xs.length ≤ 9223372036854775807) : Rd w 1 (.slice (some ⟨g, 0, none⟩) xs.length xs.length) xs :=
  ⟨_, _, _, rfl, Nat.le_refl _, hl, by simp, fun _ => ⟨g, 0, rfl, h.lt, fun j u hu => by rw [Nat.zero_add, h.cell]; exact hu⟩⟩
/-- What Move tells. -/
structure MoveTo (w : World) (p : Nat) (F : List Nat) (S : Sto) (t : Nat) (Ft : List Nat) (X : Sto × List (Int × Int)) (l : List Int) (w' : World) (s2 : Value) : Prop where
  rd : Rd w' 1 s2 (ints (l.map (fun a => (aget X.2 a).getD 0)))
  st : StoIs w' p F S
  tgt : ∃ Ft', StoIs w' t Ft' X.1 ∧ StoStep w w' Ft Ft'
  wf : Wf X.1
  sat : Sated X.1

end Go.Proofs.Ytboekafmplomhaa
set_option linter.unusedVariables false
set_option linter.unusedSimpArgs false
namespace Go.Proofs.Ytboekafmplomhaa
open Go.RowKit

/-- What a walk has seen, its nodes, and the number that it tells. -/
def ordN (at_ : Int → Nd × Bool) : Nat → List (Int × Int) → List Nd → Int → List (Int × Int) × List Nd × Int
  | 0, K, ns, _ => (K, ns, 0)
  | n + 1, K, ns, a =>
    if (aget K a).isSome = true ∨ (at_ a).2 = false then (K, ns, (aget K a).getD 0) else
    (aput (ordN at_ n (ordN at_ n K ns (at_ a).1.2.1).1 (ordN at_ n K ns (at_ a).1.2.1).2.1 (at_ a).1.2.2).1 a ((ordN at_ n (ordN at_ n K ns (at_ a).1.2.1).1 (ordN at_ n K ns (at_ a).1.2.1).2.1 (at_ a).1.2.2).2.1.length + 2 : Nat),
     (ordN at_ n (ordN at_ n K ns (at_ a).1.2.1).1 (ordN at_ n K ns (at_ a).1.2.1).2.1 (at_ a).1.2.2).2.1 ++ [((at_ a).1.1, (ordN at_ n K ns (at_ a).1.2.1).2.2, (ordN at_ n (ordN at_ n K ns (at_ a).1.2.1).1 (ordN at_ n K ns (at_ a).1.2.1).2.1 (at_ a).1.2.2).2.2)],
     ((ordN at_ n (ordN at_ n K ns (at_ a).1.2.1).1 (ordN at_ n K ns (at_ a).1.2.1).2.1 (at_ a).1.2.2).2.1.length + 2 : Nat))
theorem ordN_len (at_ : Int → Nd × Bool) : ∀ (n : Nat) (K : List (Int × Int)) (ns : List Nd) (a : Int), ns.length ≤ (ordN at_ n K ns a).2.1.length
  | 0, K, ns, a => Nat.le_refl _
  | n + 1, K, ns, a => by
    rw [ordN]
    split
    · exact Nat.le_refl _
    · have h1 := ordN_len at_ n K ns (at_ a).1.2.1
      have h2 := ordN_len at_ n (ordN at_ n K ns (at_ a).1.2.1).1 (ordN at_ n K ns (at_ a).1.2.1).2.1 (at_ a).1.2.2
      simp only [List.length_append, List.length_cons, List.length_nil]
      omega

structure AtSrc (fa : FuncId) (first cap : Array Value) (F : List Nat) (St : World → Prop) (at_ : Int → Nd × Bool) (rk : Int → Nat) (ok : Int → Prop) : Prop where
  keep : ∀ w w', St w → (∀ k ∈ F, w'.heap[k]? = w.heap[k]?) → St w'
  lt : ∀ w, St w → ∀ k ∈ F, k < w.heap.size
  enter : ∀ args w, (callFunc fa args).run Try.prog w = .ok (.enter fa args) w
  call : ∀ w, St w → ∀ a, ok a → Calls Try.prog fa (first ++ #[.int .i64 a] ++ cap) w (Pure (.tuple #[.agg #[.int .i64 (at_ a).1.1, .int .i64 (at_ a).1.2.1, .int .i64 (at_ a).1.2.2], .bool (at_ a).2]) w)
  lo : ∀ a, ok a → (at_ a).2 = true → rk (at_ a).1.2.1 < rk a ∧ ok (at_ a).1.2.1
  hi : ∀ a, ok a → (at_ a).2 = true → rk (at_ a).1.2.2 < rk a ∧ ok (at_ a).1.2.2

structure OrdW (av : Value) (F : List Nat) (St : World → Prop) (tp : Nat) (w : World) (km nb i1 i3 i2 : Nat) (K : List (Int × Int)) (ns : List Nd) (sv : Value) (G : Option Nat) : Prop where
  st : St w
  map : MapIs ki w km K
  blk : Blk w nb 43 [sv]
  row : RowIs w sv G 39 3 ns.length (flat ns)
  gt : ∀ g, G = some g → tp ≤ g
  tw : tp ≤ w.heap.size
  tF : ∀ k ∈ F, k < tp
  tm : km < tp
  tn : nb < tp
  t1 : i1 < tp
  t2 : i2 < tp
  t3 : i3 < tp
  fm : km ∉ F
  fn : nb ∉ F
  ne : km ≠ nb
  m1 : i1 ≠ km
  m2 : i2 ≠ km
  m3 : i3 ≠ km
  n1 : i1 ≠ nb
  n2 : i2 ≠ nb
  n3 : i3 ≠ nb
  c1 : w.cell? ⟨i1, 0, none⟩ = some av
  c2 : w.cell? ⟨i2, 0, none⟩ = some (.map (some km))
  c3 : w.cell? ⟨i3, 0, none⟩ = some (.func (.func 145) #[] #[.pointer (some ⟨i1, 0, none⟩), .pointer (some ⟨i2, 0, none⟩), .pointer (some ⟨i3, 0, none⟩), .pointer (some ⟨nb, 0, none⟩)])
section
variable {av : Value} {fa : FuncId} {first cap : Array Value} {F : List Nat} {St : World → Prop} {at_ : Int → Nd × Bool} {rk : Int → Nat} {ok : Int → Prop} {tp : Nat}
variable {w w' : World} {km nb i1 i2 i3 : Nat} {K K' : List (Int × Int)} {ns ns' : List Nd} {sv sv' : Value} {G G' : Option Nat}
theorem OrdW.notIn (h : OrdW av F St tp w km nb i1 i3 i2 K ns sv G) {k : Nat} (hk : k < tp) (h1 : k ≠ km) (h2 : k ≠ nb) : k ∉ km :: nb :: G.toList := by
  simp only [List.mem_cons, Option.mem_toList, not_or]
  exact ⟨h1, h2, fun e => by have := h.gt k e; omega⟩
theorem OrdW.step (h : OrdW av F St tp w km nb i1 i3 i2 K ns sv G) (hs : AtSrc fa first cap F St at_ rk ok) (st : StoStep w w' (km :: nb :: G.toList) (km :: nb :: G'.toList)) (hm : MapIs ki w' km K') (hb : Blk w' nb 43 [sv']) (hr : RowIs w' sv' G' 39 3 ns'.length (flat ns')) (hg : ∀ g, G' = some g → tp ≤ g) :
    OrdW av F St tp w' km nb i1 i3 i2 K' ns' sv' G' :=
  have hk : ∀ k, k < tp → k ≠ km → k ≠ nb → w'.heap[k]? = w.heap[k]? := fun k h1 h2 h3 => st.block k (Nat.lt_of_lt_of_le h1 h.tw) (h.notIn h1 h2 h3)
  { st := hs.keep w w' h.st (fun k hk' => hk k (h.tF k hk') (fun e => h.fm (e ▸ hk')) (fun e => h.fn (e ▸ hk')))
    map := hm, blk := hb, row := hr, gt := hg, tw := Nat.le_trans h.tw st.size
    tF := h.tF, tm := h.tm, tn := h.tn, t1 := h.t1, t2 := h.t2, t3 := h.t3, fm := h.fm, fn := h.fn, ne := h.ne
    m1 := h.m1, m2 := h.m2, m3 := h.m3, n1 := h.n1, n2 := h.n2, n3 := h.n3
    c1 := (cell_of_heap 0 (hk _ h.t1 h.m1 h.n1)).trans h.c1
    c2 := (cell_of_heap 0 (hk _ h.t2 h.m2 h.n2)).trans h.c2
    c3 := (cell_of_heap 0 (hk _ h.t3 h.m3 h.n3)).trans h.c3 }
theorem OrdW.below (h : OrdW av F St tp w km nb i1 i3 i2 K ns sv G) (hs : AtSrc fa first cap F St at_ rk ok) (hb : Below w.heap.size w w') : OrdW av F St tp w' km nb i1 i3 i2 K ns sv G :=
  h.step hs (StoStep.of_below hb) (MapIs.keep h.map (hb.block _ (MapIs.lt h.map))) (h.blk.below hb) (RowIs.keep h.row (fun g hg => hb.block g (RowIs.lt h.row g hg))) h.gt

/-- One more node at a row's end. -/
theorem node_one {w : World} {sv : Value} {G : Option Nat} {ns : List Nd} (h : RowIs w sv G 39 3 ns.length (flat ns)) (hk : ns.length ≤ 8388608) (n : Nd) :
    ∃ (v' : Value) (w1 : World) (G' : Nat), (Builtin.append_ #[43, 43] 43 #[sv, .slice (some ⟨w.heap.size, 0, none⟩) 1 1]).run Try.prog (w.alloc (.cells #[.int .i64 n.1, .int .i64 n.2.1, .int .i64 n.2.2] 39)) = .ok v' w1 ∧
      RowIs w1 v' (some G') 39 3 (ns ++ [n]).length (flat (ns ++ [n])) ∧ (G = some G' ∨ w.heap.size ≤ G') ∧ StoStep w w1 G.toList [G'] := by
  have lit : (w.alloc (.cells #[.int .i64 n.1, .int .i64 n.2.1, .int .i64 n.2.2] 39)).heap[w.heap.size]? = some (.cells #[.int .i64 n.1, .int .i64 n.2.1, .int .i64 n.2.2] 39 (0, 0)) := World.heap_alloc_last w _
  have lc : ∀ (j : Nat) (u : Value), #[Value.int .i64 n.1, .int .i64 n.2.1, .int .i64 n.2.2][j]? = some u → (w.alloc (.cells #[.int .i64 n.1, .int .i64 n.2.1, .int .i64 n.2.2] 39)).cell? ((⟨w.heap.size, 0, none⟩ : Addr).add j) = some u := fun j u hu => by
    have ha : (⟨w.heap.size, 0, none⟩ : Addr).add j = ⟨w.heap.size, j, none⟩ := by unfold Addr.add; simp; intro e; exact e.symm
    rw [ha]
    simp only [World.cell?]
    rw [lit]
    exact hu
  have row : RowIs (w.alloc (.cells #[.int .i64 n.1, .int .i64 n.2.1, .int .i64 n.2.2] 39)) sv G 39 3 ns.length (flat ns) := RowIs.keep h (fun g' hg => Below.heap_alloc _ _ _ (RowIs.lt h g' hg))
  obtain ⟨v', w1, G', r1, r2, r3, r4⟩ := append_row (P := Try.prog) 43 43 infoB (.agg #[.int .i64 0, .int .i64 0, .int .i64 0]) 24 Try.underlying43 info_is infoB_zero infoB_size infoB_bytes rfl (by omega) row
    ⟨w.heap.size, 0, none⟩ 1 1 [.int .i64 n.1, .int .i64 n.2.1, .int .i64 n.2.2] rfl (fun j u hu => by
      rcases j with _ | _ | _ | j
      · simp at hu; subst hu; exact lc 0 _ rfl
      · simp at hu; subst hu; exact lc 1 _ rfl
      · simp at hu; subst hu; exact lc 2 _ rfl
      · simp at hu) (by simp [Value.oneCell']) (by omega) (by unfold maxLen; omega) (by omega)
  have e : flat (ns ++ [n]) = flat ns ++ [.int .i64 n.1, .int .i64 n.2.1, .int .i64 n.2.2] := by rw [flat_append]; rfl
  have hlt := RowIs.lt r2 G' rfl
  refine ⟨v', w1, G', r1, ?_, ?_, r3.os, r3.tape, r3.output, by have := r3.size; simp at this; omega, fun k hk hn => ?_, fun k hk => ?_⟩
  · rw [e, List.length_append]; exact r2
  · rcases r4 with e | ⟨e, _⟩
    · exact .inl e
    · simp at e; exact .inr (by omega)
  · exact (r3.block k (by simp; omega) (fun e => hn (by subst e; simp))).trans (Below.heap_alloc _ _ _ hk)
  · simp only [List.mem_singleton] at hk
    subst hk
    rcases r4 with e | ⟨e, _⟩
    · exact .inl (by rw [e]; simp)
    · simp at e; exact .inr ⟨by omega, hlt⟩

set_option maxHeartbeats 8000000 in
theorem ord1_any (hs : AtSrc fa first cap F St at_ rk ok) (hav : av = .func (.func fa) first cap) : ∀ (n : Nat) (w : World) (K : List (Int × Int)) (ns : List Nd) (sv : Value) (G : Option Nat) (a : Int), OrdW av F St tp w km nb i1 i3 i2 K ns sv G → ok a → rk a < n → (ordN at_ n K ns a).2.1.length ≤ 8388608 →
    Calls Try.prog 145 #[.int .i64 a, .pointer (some ⟨i1, 0, none⟩), .pointer (some ⟨i2, 0, none⟩), .pointer (some ⟨i3, 0, none⟩), .pointer (some ⟨nb, 0, none⟩)] w
      (fun e w' => e = .returned (.int .i64 (ordN at_ n K ns a).2.2) ∧ ∃ sv' G', OrdW av F St tp w' km nb i1 i3 i2 (ordN at_ n K ns a).1 (ordN at_ n K ns a).2.1 sv' G' ∧ StoStep w w' (km :: nb :: G.toList) (km :: nb :: G'.toList)) := by
  intro n
  induction n with
  | zero => intro w K ns sv G a _ _ hn; omega
  | succ n ih =>
    intro w K ns sv G a h hok hn hlen
    have A := hid (hs.call w h.st a hok)
    have H := hid h
    have c1 := h.c1
    rw [hav] at c1
    have z1 : i1 < w.heap.size := Nat.lt_of_lt_of_le h.t1 h.tw
    have ent := hs.enter
    by_cases hno : (aget K a).isSome = true ∨ (at_ a).2 = false
    · have hR : ordN at_ (n + 1) K ns a = (K, ns, (aget K a).getD 0) := by rw [ordN, if_pos hno]
      rw [hR]
      clear hR h ih hlen hn hok
      obtain ⟨kk, hkk⟩ : ∃ kk, (aget K a).getD 0 = kk := ⟨_, rfl⟩
      rw [hkk]
      generalize (at_ a).1.1 = x1 at *
      generalize (at_ a).1.2.1 = x2 at *
      generalize (at_ a).1.2.2 = x3 at *
      generalize (at_ a).2 = is at *
      go_enter Try.func145, Try.ntmps145
      go_upto_region 1 with (fail)
      refine wp_region_doc (fun F' hF => ?_)
      have HF := hid hF
      clear hF
      iterate 2 (refine doc_val rfl (by first | (go_simp; done) | (go_simp; exact ⟨rfl, rfl⟩) | (go_simp; with_reducible rfl)) ?_; simp only [Act.put, List.setIfInBounds_toArray, List.set_cons_zero, List.set_cons_succ])
      refine doc_call rfl (by first | (go_simp; done) | (go_simp; exact ⟨rfl, rfl⟩) | (go_simp; with_reducible rfl)) ((A.out).mono ?_)
      rintro e w1 ⟨rfl, m1, d1, rfl⟩
      refine ⟨_, rfl, ?_⟩
      simp only [Act.put, List.setIfInBounds_toArray, List.set_cons_zero, List.set_cons_succ]
      iterate 4 (refine doc_val rfl (by first | (go_simp; done) | (go_simp; exact ⟨rfl, rfl⟩) | (go_simp; with_reducible rfl)) ?_; simp only [Act.put, List.setIfInBounds_toArray, List.set_cons_zero, List.set_cons_succ])
      refine doc_skip rfl (store_row_op (xs := [.int .i64 0, .int .i64 0, .int .i64 0]) (ys := [.int .i64 x1, .int .i64 x2, .int .i64 x3]) _ _ _ _ _ _ _ _ _ (branchy_size _ _ _) rfl rfl rfl rfl (by have h := Blk.new (w.ext m1 d1) 39 [.int .i64 0, .int .i64 0, .int .i64 0]; rw [World.size_ext] at h; exact h)) ?_
      simp only [Act.put, List.setIfInBounds_toArray, List.set_cons_zero, List.set_cons_succ]
      refine doc_val rfl (by first | (go_simp; done) | (go_simp; exact ⟨rfl, rfl⟩) | (go_simp; with_reducible rfl)) ?_
      simp only [Act.put, List.setIfInBounds_toArray, List.set_cons_zero, List.set_cons_succ]
      refine doc_end (HF.out _ _ ?_)
      clear HF F'
      go_upto_region 2 with (fail)
      refine wp_gen (fun U hU => ?_)
      have hbU : Below w.heap.size w U := by
        rw [hU]; exact Below.setRow (Below.alloc (Below.ext_mk (Below.refl _ _) (Nat.le_refl _) _ _) (by first | (simp; done) | (simp; omega)) _) (by omega) _
      have bU : Blk U (w.heap.size + m1.size) 39 [.int .i64 x1, .int .i64 x2, .int .i64 x3] := by
        rw [hU]
        have h := Blk.new (w.ext m1 d1) 39 [.int .i64 0, .int .i64 0, .int .i64 0]
        rw [World.size_ext] at h
        exact h.row _
      have hB : w.heap.size ≤ w.heap.size + m1.size := by omega
      generalize w.heap.size + m1.size = Bx at *
      clear hU
      have H1 := H.out.below hs hbU
      have c2 := H1.c2
      have z2 : i2 < U.heap.size := Nat.lt_of_lt_of_le H1.t2 H1.tw
      have hlook := fun m d => lookup_run (w := U.ext m d) key_int Try.underlying115 (zero_int _) (MapIs.ext H1.map m d) a true
      simp only [if_true] at hlook
      rw [hkk] at hlook
      clear hkk
      generalize (aget K a).isSome = was at *
      have HU := hid hbU
      clear hbU bU c1 z1
      refine wp_region_seq (fun F hF => ?_)
      have HF := hid hF; clear hF
      repeat (first
        | (apply text_skip; (focus rfl); simp only [Act.put, List.setIfInBounds_toArray, List.set_cons_zero, List.set_cons_succ])
        | (apply text_val; (focus rfl); (focus (intro _ _; go_simp; with_reducible rfl)); simp only [Act.put, List.setIfInBounds_toArray, List.set_cons_zero, List.set_cons_succ])
        | (apply text_if; (focus (first | exact wanted_t rfl rfl | exact wanted_f rfl rfl | exact wanted_gt rfl rfl | exact wanted_gf rfl rfl)); (focus (intro hc _ _; (try simp only [Bool.and_eq_true, Bool.not_eq_true', Bool.true_and] at hc); go_simp; with_reducible rfl)); simp only [Act.put, List.setIfInBounds_toArray, List.set_cons_zero, List.set_cons_succ]))
      refine text_nil (HF.out _ (fun mx dx => ?_))
      clear HF F
      go_upto_region 3 with (fail)
      have hb : Below w.heap.size w (U.ext mx dx) := Below.ext_mk HU.out HU.out.size _ _
      have HB := hid hb
      clear hb hlook c2 z2 H1 HU
      rcases hno with rfl | rfl
      · go_wp2
        go_returns
        exact ⟨rfl, sv, G, H.out.below hs (by have := HB.out; (repeat' (first | (with_reducible exact this) | (with_reducible exact Below.refl _ _) | (with_reducible refine Below.ext_mk ?_ ?_ _ _) | (with_reducible refine Below.alloc ?_ ?_ _) | (with_reducible refine Below.drew ?_) | (with_reducible refine Below.setCell ?_ ?_ _) | go_size))), StoStep.of_below (by have := HB.out; (repeat' (first | (with_reducible exact this) | (with_reducible exact Below.refl _ _) | (with_reducible refine Below.ext_mk ?_ ?_ _ _) | (with_reducible refine Below.alloc ?_ ?_ _) | (with_reducible refine Below.drew ?_) | (with_reducible refine Below.setCell ?_ ?_ _) | go_size)))⟩
      · cases was
        · go_wp2
          go_returns
          exact ⟨rfl, sv, G, H.out.below hs (by have := HB.out; (repeat' (first | (with_reducible exact this) | (with_reducible exact Below.refl _ _) | (with_reducible refine Below.ext_mk ?_ ?_ _ _) | (with_reducible refine Below.alloc ?_ ?_ _) | (with_reducible refine Below.drew ?_) | (with_reducible refine Below.setCell ?_ ?_ _) | go_size))), StoStep.of_below (by have := HB.out; (repeat' (first | (with_reducible exact this) | (with_reducible exact Below.refl _ _) | (with_reducible refine Below.ext_mk ?_ ?_ _ _) | (with_reducible refine Below.alloc ?_ ?_ _) | (with_reducible refine Below.drew ?_) | (with_reducible refine Below.setCell ?_ ?_ _) | go_size)))⟩
        · go_wp2
          go_returns
          exact ⟨rfl, sv, G, H.out.below hs (by have := HB.out; (repeat' (first | (with_reducible exact this) | (with_reducible exact Below.refl _ _) | (with_reducible refine Below.ext_mk ?_ ?_ _ _) | (with_reducible refine Below.alloc ?_ ?_ _) | (with_reducible refine Below.drew ?_) | (with_reducible refine Below.setCell ?_ ?_ _) | go_size))), StoStep.of_below (by have := HB.out; (repeat' (first | (with_reducible exact this) | (with_reducible exact Below.refl _ _) | (with_reducible refine Below.ext_mk ?_ ?_ _ _) | (with_reducible refine Below.alloc ?_ ?_ _) | (with_reducible refine Below.drew ?_) | (with_reducible refine Below.setCell ?_ ?_ _) | go_size)))⟩
    · have hw : (aget K a).isSome = false := by cases h : (aget K a).isSome <;> simp_all
      have hi : (at_ a).2 = true := by cases h : (at_ a).2 <;> simp_all
      have hR : ordN at_ (n + 1) K ns a =
          (aput (ordN at_ n (ordN at_ n K ns (at_ a).1.2.1).1 (ordN at_ n K ns (at_ a).1.2.1).2.1 (at_ a).1.2.2).1 a (((ordN at_ n (ordN at_ n K ns (at_ a).1.2.1).1 (ordN at_ n K ns (at_ a).1.2.1).2.1 (at_ a).1.2.2).2.1.length + 2 : Nat) : Int),
           (ordN at_ n (ordN at_ n K ns (at_ a).1.2.1).1 (ordN at_ n K ns (at_ a).1.2.1).2.1 (at_ a).1.2.2).2.1 ++ [((at_ a).1.1, (ordN at_ n K ns (at_ a).1.2.1).2.2, (ordN at_ n (ordN at_ n K ns (at_ a).1.2.1).1 (ordN at_ n K ns (at_ a).1.2.1).2.1 (at_ a).1.2.2).2.2)],
           (((ordN at_ n (ordN at_ n K ns (at_ a).1.2.1).1 (ordN at_ n K ns (at_ a).1.2.1).2.1 (at_ a).1.2.2).2.1.length + 2 : Nat) : Int)) := by rw [ordN, if_neg hno]
      have lt1 : rk (at_ a).1.2.1 < n := by have := (hs.lo a hok hi).1; omega
      have ok1 := (hs.lo a hok hi).2
      have ok2 := (hs.hi a hok hi).2
      have lt2 : rk (at_ a).1.2.2 < n := by have := (hs.hi a hok hi).1; omega
      rw [hR] at hlen ⊢
      simp only [List.length_append, List.length_cons, List.length_nil] at hlen
      rw [hi] at A
      have I1 := fun W h => ih W K ns sv G (at_ a).1.2.1 h ok1 lt1 (by have := ordN_len at_ n (ordN at_ n K ns (at_ a).1.2.1).1 (ordN at_ n K ns (at_ a).1.2.1).2.1 (at_ a).1.2.2; omega)
      have I2 := fun W sv G h => ih W (ordN at_ n K ns (at_ a).1.2.1).1 (ordN at_ n K ns (at_ a).1.2.1).2.1 sv G (at_ a).1.2.2 h ok2 lt2 (by omega)
      clear hno hi h hn hR ih lt1 lt2 hok
      obtain ⟨R1, hR1⟩ : ∃ R, ordN at_ n K ns (at_ a).1.2.1 = R := ⟨_, rfl⟩
      rw [hR1] at I1 I2 hlen ⊢
      obtain ⟨R2, hR2⟩ : ∃ R, ordN at_ n R1.1 R1.2.1 (at_ a).1.2.2 = R := ⟨_, rfl⟩
      rw [hR2] at I2 hlen ⊢
      clear hR1 hR2
      obtain ⟨K1, ns1, r1⟩ := R1
      obtain ⟨K2, ns2, r2⟩ := R2
      simp only at I1 I2 hlen ⊢
      generalize (at_ a).1.1 = x1 at *
      generalize (at_ a).1.2.1 = x2 at *
      generalize (at_ a).1.2.2 = x3 at *
      go_enter Try.func145, Try.ntmps145
      go_upto_region 1 with (fail)
      refine wp_region_doc (fun F' hF => ?_)
      have HF := hid hF
      clear hF
      iterate 2 (refine doc_val rfl (by first | (go_simp; done) | (go_simp; exact ⟨rfl, rfl⟩) | (go_simp; with_reducible rfl)) ?_; simp only [Act.put, List.setIfInBounds_toArray, List.set_cons_zero, List.set_cons_succ])
      refine doc_call rfl (by first | (go_simp; done) | (go_simp; exact ⟨rfl, rfl⟩) | (go_simp; with_reducible rfl)) ((A.out).mono ?_)
      rintro e w1 ⟨rfl, m1, d1, rfl⟩
      refine ⟨_, rfl, ?_⟩
      simp only [Act.put, List.setIfInBounds_toArray, List.set_cons_zero, List.set_cons_succ]
      iterate 4 (refine doc_val rfl (by first | (go_simp; done) | (go_simp; exact ⟨rfl, rfl⟩) | (go_simp; with_reducible rfl)) ?_; simp only [Act.put, List.setIfInBounds_toArray, List.set_cons_zero, List.set_cons_succ])
      refine doc_skip rfl (store_row_op (xs := [.int .i64 0, .int .i64 0, .int .i64 0]) (ys := [.int .i64 x1, .int .i64 x2, .int .i64 x3]) _ _ _ _ _ _ _ _ _ (branchy_size _ _ _) rfl rfl rfl rfl (by have h := Blk.new (w.ext m1 d1) 39 [.int .i64 0, .int .i64 0, .int .i64 0]; rw [World.size_ext] at h; exact h)) ?_
      simp only [Act.put, List.setIfInBounds_toArray, List.set_cons_zero, List.set_cons_succ]
      refine doc_val rfl (by first | (go_simp; done) | (go_simp; exact ⟨rfl, rfl⟩) | (go_simp; with_reducible rfl)) ?_
      simp only [Act.put, List.setIfInBounds_toArray, List.set_cons_zero, List.set_cons_succ]
      refine doc_end (HF.out _ _ ?_)
      clear HF F'
      go_upto_region 2 with (fail)
      refine wp_gen (fun U hU => ?_)
      have hbU : Below w.heap.size w U := by
        rw [hU]; exact Below.setRow (Below.alloc (Below.ext_mk (Below.refl _ _) (Nat.le_refl _) _ _) (by first | (simp; done) | (simp; omega)) _) (by omega) _
      have bU : Blk U (w.heap.size + m1.size) 39 [.int .i64 x1, .int .i64 x2, .int .i64 x3] := by
        rw [hU]
        have h := Blk.new (w.ext m1 d1) 39 [.int .i64 0, .int .i64 0, .int .i64 0]
        rw [World.size_ext] at h
        exact h.row _
      have hB : w.heap.size ≤ w.heap.size + m1.size := by omega
      generalize w.heap.size + m1.size = Bx at *
      clear hU
      have H1 := H.out.below hs hbU
      have c2 := H1.c2
      have z2 : i2 < U.heap.size := Nat.lt_of_lt_of_le H1.t2 H1.tw
      have hlook := fun m d => lookup_run (w := U.ext m d) key_int Try.underlying115 (zero_int _) (MapIs.ext H1.map m d) a true
      simp only [if_true, hw] at hlook
      generalize (aget K a).getD 0 = kk at *
      have HU := hid hbU
      have HBU := hid bU
      clear hbU bU c1 z1 hw
      refine wp_region_seq (fun F hF => ?_)
      have HF := hid hF; clear hF
      repeat (first
        | (apply text_skip; (focus rfl); simp only [Act.put, List.setIfInBounds_toArray, List.set_cons_zero, List.set_cons_succ])
        | (apply text_val; (focus rfl); (focus (intro _ _; go_simp; with_reducible rfl)); simp only [Act.put, List.setIfInBounds_toArray, List.set_cons_zero, List.set_cons_succ])
        | (apply text_if; (focus (first | exact wanted_t rfl rfl | exact wanted_f rfl rfl | exact wanted_gt rfl rfl | exact wanted_gf rfl rfl)); (focus (intro hc _ _; (try simp only [Bool.and_eq_true, Bool.not_eq_true', Bool.true_and] at hc); go_simp; with_reducible rfl)); simp only [Act.put, List.setIfInBounds_toArray, List.set_cons_zero, List.set_cons_succ]))
      refine text_nil (HF.out _ (fun mx dx => ?_))
      clear HF F
      clear hlook c2 z2
      go_upto_region 5 with (fail)
      refine wp_gen (fun Z hZ => ?_)
      have hbZ : Below U.heap.size U Z := by rw [hZ]; (repeat' (first | (with_reducible exact Below.refl _ _) | (with_reducible refine Below.ext_mk ?_ ?_ _ _) | (with_reducible refine Below.alloc ?_ ?_ _) | (with_reducible refine Below.drew ?_) | (with_reducible refine Below.setCell ?_ ?_ _) | go_size))
      have bZ := HBU.out.below hbZ
      have H2 := H1.below hs hbZ
      have hst0 := hid (StoStep.of_below (F := km :: nb :: G.toList) (HU.out.trans (hbZ.mono HU.out.size)))
      have hBx : Bx ∉ km :: nb :: G.toList := by
        simp only [List.mem_cons, Option.mem_toList, not_or]
        exact ⟨fun e => by have := H.out.tm; have := H.out.tw; omega, fun e => by have := H.out.tn; have := H.out.tw; omega, fun e => by have := RowIs.lt H.out.row _ e; omega⟩
      have J1 := I1 _ H2
      have c3 := H2.c3
      have z3 : i3 < Z.heap.size := Nat.lt_of_lt_of_le H2.t3 H2.tw
      have e1 := bZ.cell 1
      simp only [List.getElem?_cons_zero, List.getElem?_cons_succ] at e1
      have zB := bZ.lt
      have HBZ := hid bZ
      clear hZ hbZ H1 H2 bZ I1
      go_upto_region 6 with ((with_reducible refine J1.mono ?_); rintro e w1 ⟨rfl, sv1, G1, H4, st4⟩)
      have b4 := HBZ.out.keep (st4.block Bx zB hBx)
      have hB4 := st4.keeps zB hBx
      have J2 := I2 _ _ _ H4
      have g3 := H4.c3
      have gz3 : i3 < w1.heap.size := Nat.lt_of_lt_of_le H4.t3 H4.tw
      have g2 := b4.cell 2
      simp only [List.getElem?_cons_zero, List.getElem?_cons_succ] at g2
      have gB := b4.lt
      have HB4 := hid b4
      have hst4 := hid (hst0.out.trans st4)
      clear J1 c3 z3 e1 zB b4 st4 H4 I2
      go_upto_region 7 with ((with_reducible refine J2.mono ?_); rintro e w2 ⟨rfl, sv2, G2, H5, st5⟩)
      have b5 := HB4.out.keep (st5.block Bx gB hB4)
      have e0 := b5.cell 0
      simp only [List.getElem?_cons_zero] at e0
      have z5 := b5.lt
      obtain ⟨sa2, sc2, rfl, _⟩ := RowIs.form H5.row
      have cn := H5.blk.cell 0
      simp only [List.getElem?_cons_zero] at cn
      have zn := H5.blk.lt
      obtain ⟨v', w3, G', q1, q2, q3, q4⟩ := node_one H5.row (by omega) (x1, r1, r2)
      obtain ⟨sa3, sc3, rfl, _⟩ := RowIs.form q2
      obtain ⟨L, hL⟩ : ∃ L, L = (ns2 ++ [(x1, r1, r2)]).length := ⟨_, rfl⟩
      rw [← hL] at q1 q2
      have HLL := hid hL
      clear hL
      have hst5 := hid (hst4.out.trans st5)
      have H5H := hid H5
      have hnbG : nb ∉ G2.toList := fun hm => by
        have h1 := H5.gt nb (by simpa using hm)
        have h2 := H5.tn
        omega
      have hkmG : km ∉ G2.toList := fun hm => by
        have h1 := H5.gt km (by simpa using hm)
        have h2 := H5.tm
        omega
      have b3 : Blk w3 nb 43 [.slice sa2 ns2.length sc2] := H5.blk.keep (q4.block nb zn hnbG)
      have fz3 := b3.free 0
      have cz3 := b3.cell 0
      simp only [List.getElem?_cons_zero] at cz3
      have zz3 := b3.lt
      have Q1 := hid q1
      have Q2 := hid (And.intro q2 (And.intro q3 q4))
      have HB3 := hid b3
      clear J2 g3 gz3 g2 gB b5 st5 H5 q1 q2 q3 q4 b3 hB4
      refine wp_region_doc (fun F' hF => ?_)
      have HF := hid hF
      clear hF
      iterate 7 (refine doc_val rfl (by first | (go_simp; done) | (go_simp; exact ⟨rfl, rfl⟩) | (go_simp; with_reducible rfl)) ?_; simp only [Act.put, List.setIfInBounds_toArray, List.set_cons_zero, List.set_cons_succ])
      refine doc_val rfl (run_append_op _ _ _ _ _ _ _ _ _ Q1.out) ?_
      simp only [Act.put, List.setIfInBounds_toArray, List.set_cons_zero, List.set_cons_succ]
      refine doc_skip rfl (by first | (go_simp; done) | (go_simp; exact ⟨rfl, rfl⟩) | (go_simp; with_reducible rfl)) ?_
      simp only [Act.put, List.setIfInBounds_toArray, List.set_cons_zero, List.set_cons_succ]
      refine doc_end (HF.out _ _ ?_)
      clear HF F' Q1 e0 z5 cn zn
      obtain ⟨q2, q3, q4⟩ := Q2.out
      have s1 : StoStep w2 w3 (km :: nb :: G2.toList) (km :: nb :: [G']) := by
        refine ⟨q4.os, q4.tape, q4.output, q4.size, fun k h1 h2 => q4.block k h1 (fun hm => h2 (by simp only [List.mem_cons]; exact .inr (.inr hm))), fun k hk => ?_⟩
        rcases List.mem_cons.1 hk with rfl | hk
        · exact .inl (by simp)
        rcases List.mem_cons.1 hk with rfl | hk
        · exact .inl (by simp)
        · exact (q4.fresh k hk).imp (fun h => by simp only [List.mem_cons]; exact .inr (.inr h)) id
      have s2 : StoStep w3 (w3.setCell ⟨nb, 0, none⟩ (.slice sa3 L sc3)) (km :: nb :: [G']) (km :: nb :: [G']) := StoStep.set (by simp) 0 _
      have hG'n : G' ≠ nb := fun e => by
        rcases q3 with h | h
        · exact hnbG (by rw [h, e]; simp)
        · have := H5H.out.tn; have := H5H.out.tw; omega
      have H6 := hid (H5H.out.step hs (s1.trans s2) (MapIs.keep H5H.out.map ((Below.heap_setCell _ _ _ _ H5H.out.ne).trans (q4.block km (Nat.lt_of_lt_of_le H5H.out.tm H5H.out.tw) hkmG))) (HB3.out.set_ 0 _) (by rw [← HLL.out]; exact RowIs.keep q2 (fun g hg => by cases hg; exact Below.heap_setCell _ _ _ _ hG'n)) (fun g hg => by
        cases hg
        rcases q3 with h | h
        · exact H5H.out.gt _ h
        · have := H5H.out.tw; omega))
      have hst6 := hid (hst5.out.trans (s1.trans s2))
      clear s1 s2 q2 q3 q4 Q2 HB3 fz3 cz3 zz3
      generalize w3.setCell ⟨nb, 0, none⟩ (.slice sa3 L sc3) = X at *
      have hL := HLL.out
      have hL2 : L = ns2.length + 1 := by rw [hL]; simp
      obtain ⟨L1, hL1⟩ : ∃ L1, L1 = L + 1 := ⟨_, rfl⟩
      have wL : IntKind.i64.wrap ((L : Int) + 1) = (L1 : Int) := by rw [IntWalk.i64_in _ (by omega)]; omega
      have HL2 := hid (And.intro hL (And.intro hL2 hL1))
      have c2 := H6.out.c2
      have z2 : i2 < X.heap.size := Nat.lt_of_lt_of_le H6.out.t2 H6.out.tw
      have cn := H6.out.blk.cell 0
      simp only [List.getElem?_cons_zero] at cn
      have zn := H6.out.blk.lt
      clear hL hL2 hL1 hlen
      go_upto_region 8 with (fail)
      refine wp_gen (fun Y hY => ?_)
      have hbY : Below X.heap.size X Y := by rw [hY]; (repeat' (first | (with_reducible exact Below.refl _ _) | (with_reducible refine Below.ext_mk ?_ ?_ _ _) | (with_reducible refine Below.alloc ?_ ?_ _) | (with_reducible refine Below.drew ?_) | (with_reducible refine Below.setCell ?_ ?_ _) | go_size))
      have H7 := H6.out.below hs hbY
      obtain ⟨o, u1, u2⟩ := update_run (t := 115) key_int Try.underlying115 H7.map a (L1 : Int)
      have c2 := H7.c2
      have z2 : i2 < Y.heap.size := Nat.lt_of_lt_of_le H7.t2 H7.tw
      have cn := H7.blk.cell 0
      simp only [List.getElem?_cons_zero] at cn
      have zn := H7.blk.lt
      have sp : StoStep Y (Y.putObj km o) (km :: nb :: [G']) (km :: nb :: [G']) := StoStep.put (by simp) o
      have hG'm : G' ≠ km := fun e => by have := H7.gt G' rfl; have := H7.tm; omega
      have H8 := hid (H7.step hs sp u2 (H7.blk.keep (World.heap_putObj_ne _ _ (fun e => H7.ne e.symm))) (RowIs.keep H7.row (fun g hg => by cases hg; exact World.heap_putObj_ne _ _ hG'm)) H7.gt)
      have hst8 := hid ((hst6.out.trans (StoStep.of_below hbY)).trans sp)
      clear hY hbY H7 u2 sp hG'm H6 hst6 hst5 hst4 hst0 H5H hG'n hnbG hkmG
      refine wp_region_doc (fun F' hF => ?_)
      have HF := hid hF
      clear hF
      iterate 5 (refine doc_val rfl (by first | (go_simp; done) | (go_simp; exact ⟨rfl, rfl⟩) | (go_simp; with_reducible rfl)) ?_; simp only [Act.put, List.setIfInBounds_toArray, List.set_cons_zero, List.set_cons_succ])
      refine doc_skip rfl (by first | (go_simp; done) | (go_simp; exact ⟨rfl, rfl⟩) | (go_simp; with_reducible rfl)) ?_
      simp only [Act.put, List.setIfInBounds_toArray, List.set_cons_zero, List.set_cons_succ]
      refine doc_end (HF.out _ _ ?_)
      clear HF F' u1 c2 z2 cn zn
      generalize Y.putObj km o = V at *
      have c2 := H8.out.c2
      have z2 : i2 < V.heap.size := Nat.lt_of_lt_of_le H8.out.t2 H8.out.tw
      have hlook := lookup_run (w := V) key_int Try.underlying115 (zero_int _) H8.out.map a false
      rw [aget_aput, if_pos rfl] at hlook
      simp only [Bool.false_eq_true, if_false, Option.getD_some] at hlook
      go_wp2_with fail
      go_returns
      have e1 : L1 = ns2.length + 2 := by have := HL2.out; omega
      rw [e1] at H8 ⊢
      have H9 := H8.out
      exact ⟨rfl, _, _, H9, hst8.out⟩
end
end Go.Proofs.Ytboekafmplomhaa
set_option linter.unusedVariables false
set_option linter.unusedSimpArgs false
namespace Go.Proofs.Ytboekafmplomhaa
open Go.RowKit

def ordL (at_ : Int → Nd × Bool) (N : Nat) : List (Int × Int) → List Nd → List Int → List Int → List Nd × List Int
  | K, ns, rs, [] => (ns, rs)
  | K, ns, rs, a :: l => ordL at_ N (ordN at_ N K ns a).1 (ordN at_ N K ns a).2.1 (rs ++ [(ordN at_ N K ns a).2.2]) l
theorem ordL_len (at_ : Int → Nd × Bool) (N : Nat) : ∀ (l : List Int) (K : List (Int × Int)) (ns : List Nd) (rs : List Int), ns.length ≤ (ordL at_ N K ns rs l).1.length ∧ (ordL at_ N K ns rs l).2.length = rs.length + l.length
  | [], K, ns, rs => ⟨Nat.le_refl _, by simp [ordL]⟩
  | a :: l, K, ns, rs => by
    have h := ordL_len at_ N l (ordN at_ N K ns a).1 (ordN at_ N K ns a).2.1 (rs ++ [(ordN at_ N K ns a).2.2])
    have h1 := ordN_len at_ N K ns a
    rw [ordL]
    simp only [List.length_append, List.length_cons, List.length_nil] at h ⊢
    omega
theorem Blk.set_same {w : World} {g : Nat} {e : TypeId} {v : Value} (h : Blk w g e [v]) : w.setCell ⟨g, 0, none⟩ v = w := by
  unfold Blk at h
  simp only [World.setCell]
  congr 1
  apply Array.ext_getElem?
  intro i
  rw [Array.getElem?_modify]
  by_cases e : g = i
  · subst e
    rw [if_pos rfl, h]
    rfl
  · rw [if_neg e]
/-- One more number at a row's end. -/
theorem int_one {w : World} {sv : Value} {G : Option Nat} {l : List Int} (h : RowIs w sv G 3 1 l.length (ints l)) (hk : l.length ≤ 8388608) (x : Int) :
    ∃ (v' : Value) (w1 : World) (G' : Nat), (Builtin.append_ #[28, 28] 28 #[sv, .slice (some ⟨w.heap.size, 0, none⟩) 1 1]).run Try.prog (w.alloc (.cells #[.int .i64 x] 3)) = .ok v' w1 ∧
      RowIs w1 v' (some G') 3 1 (l ++ [x]).length (ints (l ++ [x])) ∧ (G = some G' ∨ w.heap.size ≤ G') ∧ StoStep w w1 G.toList [G'] := by
  have lit : (w.alloc (.cells #[.int .i64 x] 3)).heap[w.heap.size]? = some (.cells #[.int .i64 x] 3 (0, 0)) := World.heap_alloc_last w _
  have row : RowIs (w.alloc (.cells #[.int .i64 x] 3)) sv G 3 1 l.length (ints l) := RowIs.keep h (fun g' hg => Below.heap_alloc _ _ _ (RowIs.lt h g' hg))
  obtain ⟨v', w1, G', r1, r2, r3, r4⟩ := append_row (P := Try.prog) 28 28 infoInt (.int .i64 0) 8 Try.underlying28 infoInt_is infoInt_zero infoInt_size infoInt_bytes rfl (by omega) row
    ⟨w.heap.size, 0, none⟩ 1 1 [.int .i64 x] rfl (fun j u hu => by
      rcases j with _ | j
      · simp at hu; subst hu
        show (w.alloc (.cells #[.int .i64 x] 3)).cell? ⟨w.heap.size, 0, none⟩ = _
        simp only [World.cell?]
        rw [lit]; rfl
      · simp at hu) (by simp [Value.oneCell']) (by omega) (by unfold maxLen; omega) (by omega)
  have e : ints (l ++ [x]) = ints l ++ [.int .i64 x] := by simp [ints]
  have hlt := RowIs.lt r2 G' rfl
  refine ⟨v', w1, G', r1, ?_, ?_, r3.os, r3.tape, r3.output, by have := r3.size; simp at this; omega, fun k hk hn => ?_, fun k hk => ?_⟩
  · rw [e, List.length_append]; exact r2
  · rcases r4 with e | ⟨e, _⟩
    · exact .inl e
    · simp at e; exact .inr (by omega)
  · exact (r3.block k (by simp; omega) (fun e => hn (by subst e; simp))).trans (Below.heap_alloc _ _ _ hk)
  · simp only [List.mem_singleton] at hk
    subst hk
    rcases r4 with e | ⟨e, _⟩
    · exact .inl (by rw [e]; simp)
    · simp at e; exact .inr ⟨by omega, hlt⟩
theorem OrdW.away {av : Value} {fa : FuncId} {first cap : Array Value} {F : List Nat} {St : World → Prop} {at_ : Int → Nd × Bool} {rk : Int → Nat} {ok : Int → Prop} {tp : Nat} {w w' : World} {km nb i1 i2 i3 : Nat} {K : List (Int × Int)} {ns : List Nd} {sv : Value} {G : Option Nat}
    (h : OrdW av F St tp w km nb i1 i3 i2 K ns sv G) (hs : AtSrc fa first cap F St at_ rk ok) {A A' : List Nat} (st : StoStep w w' A A') (hA : ∀ k ∈ A, tp ≤ k) (hG : ∀ g, G = some g → g ∉ A) : OrdW av F St tp w' km nb i1 i3 i2 K ns sv G :=
  have hk : ∀ k, k < tp → w'.heap[k]? = w.heap[k]? := fun k h1 => st.block k (Nat.lt_of_lt_of_le h1 h.tw) (fun hm => by have := hA k hm; omega)
  { st := hs.keep w w' h.st (fun k hk' => hk k (h.tF k hk'))
    map := MapIs.keep h.map (hk _ h.tm), blk := h.blk.keep (hk _ h.tn), row := RowIs.keep h.row (fun g hg => st.block g (RowIs.lt h.row g hg) (hG g hg)), gt := h.gt, tw := Nat.le_trans h.tw st.size
    tF := h.tF, tm := h.tm, tn := h.tn, t1 := h.t1, t2 := h.t2, t3 := h.t3, fm := h.fm, fn := h.fn, ne := h.ne
    m1 := h.m1, m2 := h.m2, m3 := h.m3, n1 := h.n1, n2 := h.n2, n3 := h.n3
    c1 := (cell_of_heap 0 (hk _ h.t1)).trans h.c1
    c2 := (cell_of_heap 0 (hk _ h.t2)).trans h.c2
    c3 := (cell_of_heap 0 (hk _ h.t3)).trans h.c3 }
section
variable {av : Value} {fa : FuncId} {first cap : Array Value} {F : List Nat} {St : World → Prop} {at_ : Int → Nd × Bool} {rk : Int → Nat} {ok : Int → Prop}
set_option maxRecDepth 100000 in
set_option maxHeartbeats 16000000 in
theorem order_any (hs : AtSrc fa first cap F St at_ rk ok) (hav : av = .func (.func fa) first cap) {w : World} (hSt : St w) {sv : Value} {l : List Int} (hl : Rd w 1 sv (ints l)) (hlen : l.length ≤ 1000) (N : Nat) (hN : ∀ a ∈ l, rk a < N ∧ ok a)
    (hbnd : (ordL at_ N [(1, 1)] [] [] l).1.length ≤ 8388608) :
    Calls Try.prog 125 #[sv, av] w
      (fun e w' => ∃ s1 s2, e = .returned (.tuple #[s1, s2]) ∧ Rd w' 3 s1 (flat (ordL at_ N [(1, 1)] [] [] l).1) ∧ Rd w' 1 s2 (ints (ordL at_ N [(1, 1)] [] [] l).2) ∧ Below w.heap.size w w') := by
  have hmf : ∀ (fn : Fn) (first cap : Array Value) (w : World), (Instr.makeFunc fn first cap).run Try.prog w = .ok (.func fn first cap) w := fun _ _ _ _ => rfl
  have hmm := @run_makeMap Try.prog
  obtain ⟨la, lc, rfl, hlc, hlm⟩ := hl.len
  have HL := hid hl
  have HN := hid hN
  have HS := hid hSt
  have hF0 := hs.lt _ hSt
  have HBN := hid hbnd
  clear hl hN hSt hbnd
  go_enter Try.func125, Try.ntmps125
  go_upto_region 1 with (fail)
  refine wp_gen (fun U hU => ?_)
  have hbU : Below w.heap.size w U := by rw [hU]; (repeat' (first | (with_reducible exact Below.refl _ _) | (with_reducible refine Below.ext_mk ?_ ?_ _ _) | (with_reducible refine Below.alloc ?_ ?_ _) | (with_reducible refine Below.drew ?_) | (with_reducible refine Below.setCell ?_ ?_ _) | go_size))
  have c1U : U.cell? ⟨w.heap.size, 0, none⟩ = some av := by rw [hU]; go_simp
  have bnU : Blk U (w.heap.size + 1) 43 [.slice none 0 0] := by
    rw [hU]
    have h := World.heap_alloc_last (w.alloc (.cells #[.func (.func fa) first cap] 41)) (.cells #[.slice none 0 0] 43)
    rw [World.size_alloc] at h
    exact h
  have zU : w.heap.size + 1 < U.heap.size := by rw [hU]; simp
  clear hU
  have m0 : MapIs ki (U.alloc (.map #[] 0)) U.heap.size [] := ⟨#[], 0, World.heap_alloc_last U _, rfl⟩
  obtain ⟨o, u1, u2⟩ := update_run (t := 115) key_int Try.underlying115 m0 1 1
  have HU2 := hid u2
  clear u2 m0
  refine wp_region_doc (fun F' hF => ?_)
  have HF := hid hF
  clear hF
  refine doc_val rfl (by first | (go_simp; done) | (go_simp; exact ⟨rfl, rfl⟩) | (go_simp; with_reducible rfl)) ?_
  simp only [Act.put, List.setIfInBounds_toArray, List.set_cons_zero, List.set_cons_succ]
  refine doc_skip rfl (by first | (go_simp; done) | (go_simp; exact ⟨rfl, rfl⟩) | (go_simp; with_reducible rfl)) ?_
  simp only [Act.put, List.setIfInBounds_toArray, List.set_cons_zero, List.set_cons_succ]
  iterate 2 (refine doc_val rfl (by first | (go_simp; done) | (go_simp; exact ⟨rfl, rfl⟩) | (go_simp; with_reducible rfl)) ?_; simp only [Act.put, List.setIfInBounds_toArray, List.set_cons_zero, List.set_cons_succ])
  refine doc_skip rfl (by first | (go_simp; done) | (go_simp; exact ⟨rfl, rfl⟩) | (go_simp; with_reducible rfl)) ?_
  simp only [Act.put, List.setIfInBounds_toArray, List.set_cons_zero, List.set_cons_succ]
  refine doc_end (HF.out _ _ ?_)
  clear HF F' u1
  go_upto_region 4 with (fail)
  refine wp_gen (fun V hV => ?_)
  have m1 : MapIs ki ((U.alloc (.map #[] 0)).putObj U.heap.size o) U.heap.size (aput [] 1 1) := HU2.out
  have zp : ((U.alloc (.map #[] 0)).putObj U.heap.size o).heap.size = U.heap.size + 1 := by simp [World.putObj]
  have hbP : Below U.heap.size U ((U.alloc (.map #[] 0)).putObj U.heap.size o) := by
    refine (Below.alloc (Below.refl _ _) (Nat.le_refl _) _).trans ((StoStep.put (F := [U.heap.size]) (by simp) o).below (fun k hk => by simp at hk; omega) (by simp))
  obtain ⟨Pw, hPw⟩ : ∃ P, (U.alloc (.map #[] 0)).putObj U.heap.size o = P := ⟨_, rfl⟩
  rw [hPw] at m1 zp hbP hV
  have hbV : Below U.heap.size U V := by rw [hV]; exact (hbP.alloc (by omega) _).alloc (by simp; omega) _
  have kM : MapIs ki V U.heap.size [(1, 1)] := by
    have q : MapIs ki V U.heap.size (aput [] 1 1) := by rw [hV]; exact MapIs.keep m1 ((Below.heap_alloc _ _ _ (by simp; omega)).trans (Below.heap_alloc _ _ _ (by omega)))
    exact q
  have k2 : V.cell? ⟨U.heap.size + 1, 0, none⟩ = some (.map (some U.heap.size)) := by
    rw [hV]
    have h := World.heap_alloc_last Pw (.cells #[.map (some U.heap.size)] 115)
    rw [zp] at h
    simp only [World.cell?]
    rw [Below.heap_alloc _ _ _ (by simp; omega), h]
    rfl
  have k3 : V.cell? ⟨U.heap.size + 1 + 1, 0, none⟩ = some (.func (.func 145) #[] #[.pointer (some ⟨w.heap.size, 0, none⟩), .pointer (some ⟨U.heap.size + 1, 0, none⟩), .pointer (some ⟨U.heap.size + 1 + 1, 0, none⟩), .pointer (some ⟨w.heap.size + 1, 0, none⟩)]) := by
    rw [hV]
    have h := World.heap_alloc_last (Pw.alloc (.cells #[.map (some U.heap.size)] 115)) (.cells #[.func (.func 145) #[] #[.pointer (some ⟨w.heap.size, 0, none⟩), .pointer (some ⟨U.heap.size + 1, 0, none⟩), .pointer (some ⟨U.heap.size + 1 + 1, 0, none⟩), .pointer (some ⟨w.heap.size + 1, 0, none⟩)]] 51)
    rw [World.size_alloc, zp] at h
    simp only [World.cell?]
    rw [h]
    rfl
  have zV : V.heap.size = U.heap.size + 1 + 1 + 1 := by rw [hV]; simp [zp]
  have hbwV : Below w.heap.size w V := hbU.trans (hbV.mono hbU.size)
  have hsz := hbU.size
  have hE : OrdW av F St V.heap.size V U.heap.size (w.heap.size + 1) w.heap.size (U.heap.size + 1 + 1) (U.heap.size + 1) [(1, 1)] [] (.slice none 0 0) none :=
    { st := hs.keep _ _ HS.out (fun k hk => hbwV.block k (hF0 k hk)), map := kM, blk := bnU.below hbV, row := ⟨rfl, .inl ⟨rfl, rfl, rfl⟩⟩
      gt := fun g hg => by cases hg
      tw := Nat.le_refl _, tF := fun k hk => by have := hF0 k hk; omega, tm := by omega, tn := by omega, t1 := by omega, t2 := by omega, t3 := by omega
      fm := fun h => by have := hF0 _ h; omega, fn := fun h => by have := hF0 _ h; omega, ne := by omega
      m1 := by omega, m2 := by omega, m3 := by omega, n1 := by omega, n2 := by omega, n3 := by omega
      c1 := (hbV.cell (p := ⟨w.heap.size, 0, none⟩) (show w.heap.size < U.heap.size by omega)).trans c1U, c2 := k2, c3 := k3 }
  have HE := hid hE
  have HBV := hid (And.intro hbwV (show w.heap.size ≤ U.heap.size from hsz))
  have htp : w.heap.size ≤ V.heap.size := hbwV.size
  clear hV m1 zp hbP hPw hbV kM k2 k3 hE hbwV hbU c1U bnU zU HU2 hmm hmf hF0 HS
  obtain ⟨i1, hi1⟩ : ∃ i, i = w.heap.size := ⟨_, rfl⟩
  obtain ⟨nb, hnb⟩ : ∃ i, i = i1 + 1 := ⟨_, rfl⟩
  obtain ⟨km, hkm⟩ : ∃ i, i = U.heap.size := ⟨_, rfl⟩
  obtain ⟨i2, hi2⟩ : ∃ i, i = km + 1 := ⟨_, rfl⟩
  obtain ⟨i3, hi3⟩ : ∃ i, i = i2 + 1 := ⟨_, rfl⟩
  obtain ⟨tp, htp0⟩ : ∃ i, i = V.heap.size := ⟨_, rfl⟩
  rw [← hi1, ← hnb, ← hkm, ← hi2, ← hi3] at HE ⊢
  rw [← htp0] at HE htp
  have HI := hid (And.intro hi1 (And.intro hnb (And.intro hkm hsz)))
  have HTP := hid htp
  clear hi1 hnb hkm hi2 hi3 htp0 hsz htp
  go_wp2_with fail
  go_loopw [5, 15] (fun ov iv wr => ∃ (j : Nat) (K : List (Int × Int)) (ns : List Nd) (rs : List Int) (sn : Value) (G Go : Option Nat), j ≤ l.length ∧ iv = .int .i64 j ∧ OrdW av F St tp wr km nb i1 i3 i2 K ns sn G ∧
      RowIs wr ov Go 3 1 rs.length (ints rs) ∧ (∀ g, Go = some g → tp ≤ g ∧ G ≠ some g) ∧ rs.length = j ∧ Below w.heap.size w wr ∧ ordL at_ N K ns rs (l.drop j) = ordL at_ N [(1, 1)] [] [] l) (fun _ iv _ => l.length - (intOf iv).toNat)
  case atStart => exact ⟨0, [(1, 1)], [], [], .slice none 0 0, none, none, by omega, rfl, HE.out, ⟨rfl, .inl ⟨rfl, rfl, rfl⟩⟩, (fun g hg => by cases hg), rfl, HBV.out.1, rfl⟩
  case round =>
    obtain ⟨j, K, ns, rs, sn, G, Go, hj, rfl, hW, hrow, hGo, hrl, hb, heq⟩ := hrel
    have HW := hid hW
    have HROW := hid hrow
    have HGO := hid hGo
    have HRL := hid hrl
    have HB := hid hb
    have HEQ := hid heq
    clear hW hrow hGo hrl hb heq
    by_cases hlt : j < l.length
    · have hj1 : (j : Int) < (l.length : Int) := by omega
      have L1 := HL.out.below HB.out
      obtain ⟨b, off, rfl, hb1, c⟩ := Rd.intAt L1 hlt
      obtain ⟨v, hv⟩ : ∃ v, v = l[j] := ⟨_, rfl⟩
      have rkv : rk v < N ∧ ok v := HN.out v (by rw [hv]; exact List.getElem_mem _)
      rw [← hv] at c
      clear L1
      have ev : (l.drop j) = v :: l.drop (j + 1) := by rw [hv]; exact List.drop_eq_getElem_cons hlt
      have hlen2 : (ordN at_ N K ns v).2.1.length ≤ 8388608 := by
        have h1 := HEQ.out
        rw [ev, ordL] at h1
        have h2 := (ordL_len at_ N (l.drop (j + 1)) (ordN at_ N K ns v).1 (ordN at_ N K ns v).2.1 (rs ++ [(ordN at_ N K ns v).2.2])).1
        rw [h1] at h2
        have := HBN.out
        omega
      clear hv
      have HEV := hid ev
      clear ev
      have c3 := HW.out.c3
      have z3 : i3 < wr.heap.size := Nat.lt_of_lt_of_le HW.out.t3 HW.out.tw
      have C := hid (ord1_any hs hav N wr K ns sn G v HW.out rkv.2 rkv.1 hlen2)
      obtain ⟨so, sc, rfl, _⟩ := RowIs.form HROW.out
      obtain ⟨R, hR⟩ : ∃ R, ordN at_ N K ns v = R := ⟨_, rfl⟩
      have HR := hid hR
      rw [hR] at C
      obtain ⟨K1, ns1, r1⟩ := R
      simp only at C
      clear rkv hlen2 hR
      go_upto_region 7 with (fail)
      refine wp_region_doc (fun F' hF => ?_)
      have HF := hid hF
      clear hF
      iterate 3 (refine doc_val rfl (by first | (go_simp; done) | (go_simp; exact ⟨rfl, rfl⟩) | (go_simp; with_reducible rfl)) ?_; simp only [Act.put, List.setIfInBounds_toArray, List.set_cons_zero, List.set_cons_succ])
      refine doc_call rfl (by first | (go_simp; done) | (go_simp; exact ⟨rfl, rfl⟩) | (go_simp; with_reducible rfl)) ((C.out).mono ?_)
      rintro _ w2 ⟨rfl, sn1, G1, H4, st4⟩
      refine ⟨_, rfl, ?_⟩
      simp only [Act.put, List.setIfInBounds_toArray, List.set_cons_zero, List.set_cons_succ]
      have hnot : ∀ g, Go = some g → g ∉ km :: nb :: G.toList := fun g hg hm => by
        obtain ⟨h1, h2⟩ := HGO.out g hg
        have h3 := HW.out.tm
        have h4 := HW.out.tn
        simp only [List.mem_cons, Option.mem_toList] at hm
        rcases hm with e | e | e
        · omega
        · omega
        · exact h2 e
      have row2 : RowIs w2 (.slice so rs.length sc) Go 3 1 rs.length (ints rs) := RowIs.keep HROW.out (fun g hg => st4.block g (RowIs.lt HROW.out g hg) (hnot g hg))
      have hG1 : ∀ g, Go = some g → G1 ≠ some g := fun g hg e => st4.keeps (RowIs.lt HROW.out g hg) (hnot g hg) (by rw [e]; simp)
      obtain ⟨v', w3, Go', q1, q2, q3, q4⟩ := int_one row2 (by have := HRL.out; omega) r1
      have H5 := hid (H4.away hs q4 (fun k hk => by simp at hk; exact (HGO.out k hk).1) (fun g hg hm => by simp at hm; exact hG1 g hm hg))
      have hGo' : ∀ g, some Go' = some g → tp ≤ g ∧ G1 ≠ some g := fun g hg => by
        cases hg
        rcases q3 with e | e
        · exact ⟨(HGO.out _ e).1, hG1 _ e⟩
        · refine ⟨?_, fun h => ?_⟩
          · have := H4.tw; omega
          · have := RowIs.lt H4.row _ h; omega
      have hb2 : Below w.heap.size w w2 := HB.out.trans (st4.below (fun k hk => by
        have h1 := HI.out
        have h2 := HTP.out
        simp only [List.mem_cons, Option.mem_toList] at hk
        rcases hk with e | e | e
        · omega
        · omega
        · have := HW.out.gt k e; omega) HB.out.size)
      have hb3 : Below w.heap.size w w3 := hb2.trans (q4.below (fun k hk => by
        simp at hk
        have := (HGO.out k hk).1
        have := HTP.out
        omega) hb2.size)
      have Q1 := hid q1
      have Q2 := hid q2
      have HB3 := hid hb3
      have HGO2 := hid hGo'
      clear q1 q2 q3 q4 row2 hb2 hb3 hGo' hG1 hnot H4 st4 C c3 z3
      refine doc_val rfl (by first | (go_simp; done) | (go_simp; exact ⟨rfl, rfl⟩) | (go_simp; with_reducible rfl)) ?_
      simp only [Act.put, List.setIfInBounds_toArray, List.set_cons_zero, List.set_cons_succ]
      refine doc_val rfl (run_append_op _ _ _ _ _ _ _ _ _ Q1.out) ?_
      simp only [Act.put, List.setIfInBounds_toArray, List.set_cons_zero, List.set_cons_succ]
      refine doc_val rfl (by first | (go_simp; done) | (go_simp; exact ⟨rfl, rfl⟩) | (go_simp; with_reducible rfl)) ?_
      simp only [Act.put, List.setIfInBounds_toArray, List.set_cons_zero, List.set_cons_succ]
      refine doc_end (HF.out _ _ ?_)
      clear HF F' Q1
      go_wp2_with fail
      go_roundw
      case rel =>
        refine ⟨j + 1, K1, ns1, rs ++ [r1], sn1, G1, some Go', by omega, by go_num, H5.out, Q2.out, HGO2.out, by have := HRL.out; simp; omega, HB3.out, ?_⟩
        have h1 := HEQ.out
        rw [HEV.out, ordL, HR.out] at h1
        exact h1
      case measure => simp [intOf]; omega
    · obtain rfl : j = l.length := by omega
      have HX := hid (show ordL at_ N [(1, 1)] [] [] l = (ns, rs) by have := HEQ.out; rw [List.drop_length, ordL] at this; exact this.symm)
      have cc := HW.out.blk.cell 0
      have ff := HW.out.blk.free 0
      have zz := HW.out.blk.lt
      have e0 := Blk.set_same HW.out.blk
      simp only [List.getElem?_cons_zero] at cc
      obtain ⟨so, sc, rfl, _⟩ := RowIs.form HROW.out
      obtain ⟨sa, sac, rfl, _⟩ := RowIs.form HW.out.row
      go_wp2_with fail
      refine bodyPost_ret (v := .tuple #[.slice sa ns.length sac, .slice so rs.length sc]) (by simp [results, Try.results125, go_sem, cc]) rfl ?_
      refine ⟨_, _, rfl, ?_, ?_, HB.out⟩
      · rw [HX.out]; exact RowIs.rd HW.out.row
      · rw [HX.out]; exact RowIs.rd HROW.out
end
end Go.Proofs.Ytboekafmplomhaa
