/-
  Package frozen: canonical.
-/
import Derived.Test.YtboekafmplomhaaZFzAll
import Derived.Test.YtboekafmplomhaaZFzMap
import Derived.Test.YtboekafmplomhaaZFzRn
set_option linter.unusedVariables false
set_option linter.unusedSimpArgs false
namespace Go.Proofs.Ytboekafmplomhaa
open Go.RowKit

/-- The reader, read by the closure of canonical. -/
structure RdC (q1 R : Nat) (G1 : Option Nat) (ns : List Nd) (w : World) : Prop where
  c1 : w.cell? ⟨q1, 0, none⟩ = some (.pointer (some ⟨R, 0, none⟩))
  z1 : q1 < w.heap.size
  row : ∃ x0 x1 nv x3, Blk w R 150 [x0, x1, nv, x3] ∧ RowIs w nv G1 39 3 ns.length (flat ns)
section
variable {q1 R : Nat} {G1 : Option Nat} {ns : List Nd} {w w' : World}
theorem RdC.keep (h : RdC q1 R G1 ns w) (hk : ∀ k ∈ q1 :: R :: G1.toList, w'.heap[k]? = w.heap[k]?) : RdC q1 R G1 ns w' := by
  obtain ⟨x0, x1, nv, x3, hb, hr⟩ := h.row
  have h1 := hk q1 (by simp)
  refine ⟨(cell_of_heap 0 h1).trans h.c1, ?_, x0, x1, nv, x3, hb.keep (hk R (by simp)), RowIs.keep hr (fun g hg => hk g (by simp [hg]))⟩
  have e : w'.heap[q1]? ≠ none := by rw [h1]; simp [h.z1]
  exact Nat.lt_of_not_le (fun hle => e (Array.getElem?_eq_none hle))
theorem RdC.lt (h : RdC q1 R G1 ns w) : ∀ k ∈ q1 :: R :: G1.toList, k < w.heap.size := by
  obtain ⟨x0, x1, nv, x3, hb, hr⟩ := h.row
  intro k hk
  simp only [List.mem_cons, Option.mem_toList] at hk
  rcases hk with rfl | rfl | hk
  · exact h.z1
  · exact hb.lt
  · exact RowIs.lt hr k hk
set_option maxHeartbeats 4000000 in
theorem can1_any (h : RdC q1 R G1 ns w) {a : Int} (ha : okR ns a) (hn : ns.length ≤ 8388608) :
    Calls Try.prog 149 #[.int .i64 a, .pointer (some ⟨q1, 0, none⟩)] w (Pure (.tuple #[.agg #[.int .i64 (atR ns a).1.1, .int .i64 (atR ns a).1.2.1, .int .i64 (atR ns a).1.2.2], .bool (atR ns a).2]) w) := by
  obtain ⟨x0, x1, nv, x3, hb, hr⟩ := h.row
  have c1 := h.c1
  have z1 := h.z1
  have c2 := hb.cell 2
  have z := hb.lt
  simp only [List.getElem?_cons_zero, List.getElem?_cons_succ] at c2
  by_cases h2 : a < 2
  · have e : atR ns a = ((0, 0, 0), false) := by unfold atR; rw [if_pos h2]
    rw [e]
    clear e h hb hr c2 z c1 z1
    go_enter Try.func149, Try.ntmps149
    go_wp2
    refine bodyPost_ret (v := .tuple #[.agg #[.int .i64 0, .int .i64 0, .int .i64 0], .bool false]) (by simp [results, Try.results149, go_sem]) rfl ?_
    exact Pure.of rfl (by (repeat' (first | (with_reducible exact Below.refl _ _) | (with_reducible refine Below.ext_mk ?_ ?_ _ _) | (with_reducible refine Below.alloc ?_ ?_ _) | (with_reducible refine Below.drew ?_) | (with_reducible refine Below.setCell ?_ ?_ _) | go_size)))
  · obtain ⟨i, rfl⟩ : ∃ i : Nat, a = (i : Int) + 2 := ⟨(a - 2).toNat, by unfold okR at ha; omega⟩
    have hi : i < ns.length := by unfold okR at ha; omega
    have hx : ns[i]? = some ns[i] := List.getElem?_eq_getElem hi
    have e : atR ns ((i : Int) + 2) = (ns[i], true) := by
      unfold atR
      rw [if_neg h2, show ((i : Int) + 2 - 2).toNat = i by omega, hx]
      rfl
    rw [e]
    have hrd := RowIs.rd hr
    obtain ⟨sa, sc, rfl, _⟩ := RowIs.form hr
    obtain ⟨b', off', rfl, hb1, g0, g1, g2⟩ := Rd.nodeAt hrd hx
    generalize ns[i] = x at *
    have ws : IntKind.i64.wrap (i : Int) = (i : Int) := IntWalk.i64_in _ (by omega)
    have hil : (i : Int) < (ns.length : Int) := by omega
    have hi0 : (0 : Int) ≤ (i : Int) := by omega
    have HI := hid (And.intro hi ha)
    clear h hrd e hx hi ha hb hr
    go_enter Try.func149, Try.ntmps149
    go_wp2
    refine bodyPost_ret (v := .tuple #[.agg #[.int .i64 x.1, .int .i64 x.2.1, .int .i64 x.2.2], .bool true]) (by simp [results, Try.results149, go_sem]) rfl ?_
    exact Pure.of rfl (by (repeat' (first | (with_reducible exact Below.refl _ _) | (with_reducible refine Below.ext_mk ?_ ?_ _ _) | (with_reducible refine Below.alloc ?_ ?_ _) | (with_reducible refine Below.drew ?_) | (with_reducible refine Below.setCell ?_ ?_ _) | go_size)))
theorem src_can (hN : NsOk ns) (hn : ns.length ≤ 8388608) (q1 R : Nat) (G1 : Option Nat) : AtSrc 149 #[] #[.pointer (some ⟨q1, 0, none⟩)] (q1 :: R :: G1.toList) (RdC q1 R G1 ns) (atR ns) (fun a => a.toNat) (okR ns) where
  keep w w' h hk := h.keep hk
  lt w h := h.lt
  enter args w := by simp [go_sem]
  call w h a ha := can1_any h ha hn
  lo a ho h := atR_lo hN a ho h
  hi a ho h := atR_hi hN a ho h
theorem ordR_inv {rs : List Int} (hN : NsOk ns) (hr : ∀ r ∈ rs, okR ns r) :
    ∃ K, OrdInv (atR ns) (okR ns) K (ordR ns rs).1 ∧ (∀ a ∈ rs, Kn (atR ns) K a) ∧ (ordR ns rs).2 = rs.map (numK K) := by
  obtain ⟨h1, _, h3, h4⟩ := ordL_inv (rk := fun a => a.toNat) (atR_lo hN) (atR_hi hN) (ns.length + 2) rs [(1, 1)] [] [] (fun a ha => ⟨hr a ha, by have := hr a ha; unfold okR at this; omega⟩) (OrdInv.start _ _)
  refine ⟨_, h1, h3, ?_⟩
  unfold ordR
  rw [h4, List.nil_append]
theorem ordR_len {rs : List Int} (hN : NsOk ns) (hr : ∀ r ∈ rs, okR ns r) : (ordR ns rs).1.length ≤ ns.length := by
  obtain ⟨K, h, _, _⟩ := ordR_inv hN hr
  generalize (ordR ns rs).1 = ms at *
  have key : ∀ i : Nat, i < ms.length → ∃ k : Nat, k < ns.length ∧ aget K ((k : Int) + 2) = some ((i : Int) + 2) := fun i hi => by
    obtain ⟨a, ha⟩ := h.all i hi
    rcases h.num a _ ha with ⟨_, e⟩ | ⟨_, ho, ht, _⟩
    · omega
    · obtain ⟨k, n, rfl, hn, _⟩ := atR_yes ho ht
      exact ⟨k, (List.getElem?_eq_some_iff.1 hn).1, ha⟩
  refine pigeon ns.length ms.length (fun i => if hi : i < ms.length then (key i hi).choose else 0) (fun i hi => ?_) (fun i j hi hj e => ?_)
  · simp only [hi, dite_true]
    exact (key i hi).choose_spec.1
  · simp only [hi, hj, dite_true] at e
    have h1 := (key i hi).choose_spec.2
    have h2 := (key j hj).choose_spec.2
    rw [e] at h1
    rw [h1] at h2
    injection h2 with h2
    omega
theorem aget_not {ls : List Nd} {x : Nd} (h : x ∉ ls) : aget (ls.map (fun a => (a, (1 : Int)))) x = none := by rw [← aidx_aget x _ 0, aidx_none x ls 0 h]; rfl
theorem aget_in {ls : List Nd} {x : Nd} (h : x ∈ ls) : aget (ls.map (fun a => (a, (1 : Int)))) x = some 1 := by
  obtain ⟨j, _, e⟩ := aidx_some x ls 0 h
  rw [← aidx_aget x _ 0, e]; rfl
theorem not_nodup {ls : List Nd} {j : Nat} (hj : j < ls.length) (h : ls[j] ∈ ls.take j) : ¬ ls.Nodup := fun hn => by
  obtain ⟨i, hi, e⟩ := List.getElem_of_mem h
  have h1 : i < j := by simp at hi; omega
  rw [List.getElem_take] at e
  have := (List.getElem_inj (h₀ := by omega) (h₁ := hj) hn).1 e
  omega
theorem guard_node : Try.prog.eqGuardType Try.prog.depth 39 = false := by kernel_rfl
theorem neq_node_op (a : Act) (dst : Option Tmp) (t : TypeId) (x y : Operand) (pos : String) (after : Array Edge) (guard : Option (Nat × Bool)) (o : TypeId) {n m : Nd} (hx : a.eval x = kv n) (hy : a.eval y = kv m) (w : World) :
    (execOp a.eval { dst, op := .binOp .neq 39 x y o, type := t, pos, after, guard }).run Try.prog w = .ok (.value (.bool (!decide (n = m)))) w := by
  have h1 : (eqGuard .neq 39 x y (kv n) (kv m)).run Try.prog w = .ok () w := by
    unfold eqGuard
    have hp : (program).run Try.prog w = .ok Try.prog w := rfl
    simp [go_sem, hp, guard_node]
  have h2 : (binOp .neq 39 (kv n) (kv m)).run Try.prog w = .ok (.bool (!decide (n = m))) w := by
    have h := key_node.eq n m w
    simp [binOp, go_sem, h]
  unfold execOp
  simp only [hx, hy, Sem.run_bind, Sem.run_pure, Result.andThen_ok, h1, h2]
set_option maxRecDepth 100000 in
set_option maxHeartbeats 16000000 in
theorem canonical_any {B b off n c j : Nat} {l : List Nat} {rs : List Int} {nv rv : Value} {G2 : Option Nat} (h : Rdr B w R b off n c l j false ns rs nv rv G1 G2) (hN : NsOk ns) (hr : ∀ r ∈ rs, okR ns r) (hn : ns.length ≤ 8388608) (hrl : rs.length ≤ 64) :
    Calls Try.prog 128 #[.pointer (some ⟨R, 0, none⟩)] w (fun e w' => e = .returned (.bool (canV ns rs)) ∧ Below w.heap.size w w') := by
  have hmm := @run_makeMap Try.prog
  have hmf : ∀ (fn : Fn) (first cap : Array Value) (w : World), (Instr.makeFunc fn first cap).run Try.prog w = .ok (.func fn first cap) w := fun _ _ _ _ => rfl
  obtain ⟨sa, sc, rfl, _⟩ := RowIs.form h.nrow
  obtain ⟨ra, rc, rfl, _⟩ := RowIs.form h.rrow
  have H := hid h
  obtain ⟨cv, hcv0⟩ : ∃ cv, cv = canV ns rs := ⟨_, rfl⟩
  rw [← hcv0]
  have HCV := hid hcv0
  clear hcv0
  go_enter Try.func128, Try.ntmps128
  go_upto_region 2 with (fail)
  refine wp_gen (fun V hV => ?_)
  have hbV : Below w.heap.size w V := by rw [hV]; (repeat' (first | (with_reducible exact Below.refl _ _) | (with_reducible refine Below.ext_mk ?_ ?_ _ _) | (with_reducible refine Below.alloc ?_ ?_ _) | (with_reducible refine Below.drew ?_) | (with_reducible refine Below.setCell ?_ ?_ _) | go_size))
  have hw1 : w.heap.size + 1 < V.heap.size := by rw [hV]; simp
  have k1 : V.cell? ⟨w.heap.size, 0, none⟩ = some (.pointer (some ⟨R, 0, none⟩)) := by rw [hV]; go_simp
  have kM : ByIs kv V (w.heap.size + 1) ([] : List Nd) := by
    rw [hV]
    have h := World.heap_alloc_last (w.alloc (.cells #[.pointer (some ⟨R, 0, none⟩)] 146)) (.map #[] 0)
    rw [World.size_alloc] at h
    exact h
  obtain ⟨q1, hq1⟩ : ∃ q, q = w.heap.size := ⟨_, rfl⟩
  obtain ⟨mb, hmb⟩ : ∃ q, q = w.heap.size + 1 := ⟨_, rfl⟩
  rw [← hq1] at k1
  rw [← hmb] at kM hw1
  have RC : RdC q1 R G1 ns V := ⟨k1, by omega, _, _, _, _, h.blk.below hbV, RowIs.keep h.nrow (fun g hg => hbV.block g (RowIs.lt h.nrow g hg))⟩
  have RR : RowIs V (.slice ra rs.length rc) G2 3 1 rs.length (ints rs) := RowIs.keep h.rrow (fun g hg => hbV.block g (RowIs.lt h.rrow g hg))
  have hF : ∀ k, k < w.heap.size → k ≠ mb := fun k hk => by omega
  have AT := hid (fun (W : World) (st : StoStep V W [mb] [mb]) => (show RdC q1 R G1 ns W ∧ RowIs W (.slice sa ns.length sc) G1 39 3 ns.length (flat ns) ∧ RowIs W (.slice ra rs.length rc) G2 3 1 rs.length (ints rs) ∧ W.cell? ⟨R, 2, none⟩ = some (.slice sa ns.length sc) ∧ W.cell? ⟨R, 3, none⟩ = some (.slice ra rs.length rc) ∧ R < W.heap.size from by
    have hne : ∀ k, k ∈ q1 :: R :: G1.toList → k ≠ mb := fun k hk => by
      simp only [List.mem_cons, Option.mem_toList] at hk
      rcases hk with rfl | rfl | hk
      · omega
      · have := h.blk.lt; omega
      · have := RowIs.lt h.nrow k hk; omega
    have kR : W.heap[R]? = V.heap[R]? := st.block R (Nat.lt_of_lt_of_le h.blk.lt hbV.size) (by simp; exact hne R (by simp))
    have bR := (h.blk.below hbV).keep kR
    refine ⟨RC.keep (fun k hk => st.block k (RC.lt k hk) (by simp; exact hne k hk)), RowIs.keep (RowIs.keep h.nrow (fun g hg => hbV.block g (RowIs.lt h.nrow g hg))) (fun g hg => st.block g (Nat.lt_of_lt_of_le (RowIs.lt h.nrow g hg) hbV.size) (by simp; exact hne g (by simp [hg]))),
      RowIs.keep RR (fun g hg => st.block g (RowIs.lt RR g hg) (by simp; have := RowIs.lt h.rrow g hg; omega)), by simpa using bR.cell 2, by simpa using bR.cell 3, bR.lt⟩))
  have RC := hid RC
  have KM := hid kM
  have HB := hid (And.intro hbV (And.intro hq1 (And.intro hmb hw1)))
  have d2 := (h.blk.below hbV).cell 2
  have dz := (h.blk.below hbV).lt
  have zq : q1 < V.heap.size := by omega
  simp only [List.getElem?_cons_zero, List.getElem?_cons_succ] at d2
  rw [← hmb, ← hq1]
  clear hV kM RR hF h hbV hw1 hq1 hmb hmm
  go_wp2_with fail
  go_loopw [16] (fun iv wr => ∃ j : Nat, j ≤ ns.length ∧ iv = .int .i64 j ∧ ByIs kv wr mb (ns.take j) ∧ (ns.take j).Nodup ∧ StoStep V wr [mb] [mb]) (fun iv _ => ns.length - (intOf iv).toNat)
  case atStart => exact ⟨0, by omega, rfl, KM.out, by simp, StoStep.refl _ _⟩
  case round =>
    obtain ⟨j, hj, rfl, hB, hND, hst⟩ := hrel
    have HST := hid hst
    have HND := hid hND
    obtain ⟨A1, A2, A3, A4, A5, A6⟩ := AT.out wr hst
    have HBY := hid hB
    clear hB hst hND d2 dz zq k1
    by_cases hlt : j < ns.length
    · have hj1 : (j : Int) < (ns.length : Int) := by omega
      have hx := List.getElem?_eq_getElem hlt
      obtain ⟨b', off', rfl, hb1, g0, g1, g2⟩ := Rd.nodeAt (RowIs.rd A2) hx
      have TK : ns.take (j + 1) = ns.take j ++ [ns[j]] := by rw [List.take_add_one, hx]; rfl
      have NN := hid (fun h => not_nodup (ls := ns) hlt h)
      generalize ns[j] = x at *
      have TK := hid TK
      clear hx A1 A2 A3 A4 A5 A6
      go_upto_region 5 with (fail)
      refine wp_gen (fun X hX => ?_)
      have hbX : Below wr.heap.size wr X := by rw [hX]; (repeat' (first | (with_reducible exact Below.refl _ _) | (with_reducible refine Below.ext_mk ?_ ?_ _ _) | (with_reducible refine Below.alloc ?_ ?_ _) | (with_reducible refine Below.drew ?_) | (with_reducible refine Below.setCell ?_ ?_ _) | go_size))
      have bX : Blk X wr.heap.size 39 [.int .i64 x.1, .int .i64 x.2.1, .int .i64 x.2.2] := by rw [hX]; exact World.heap_alloc_last wr _
      have hby : ByIs kv X.drew mb (ns.take j) := HBY.out.keep ((Below.drew hbX).block mb (Array.getElem?_eq_some_iff.1 HBY.out).1)
      have hBm : wr.heap.size ≠ mb := fun e => by have := (Array.getElem?_eq_some_iff.1 HBY.out).1; omega
      obtain ⟨Bx, hBx⟩ : ∃ b, b = wr.heap.size := ⟨_, rfl⟩
      rw [← hBx] at bX hBm ⊢
      have bXd := bX.below (Below.drew (Below.refl _ X))
      have hst1 := hid ((HST.out.trans (StoStep.of_below hbX)).trans (StoStep.of_below (F := [mb]) (Below.drew (Below.refl X.heap.size X))))
      clear hX hbX g0 g1 g2 hb1 hBx
      by_cases hin : x ∈ ns.take j
      · have NN2 := hid (NN.out hin)
        obtain ⟨o1, o2, st, e1, e2, e3, e4⟩ := entry_old key_node Try.underlying44 hby hin
        have l0 := fun ok => lookup_run (w := X.drew) key_node Try.underlying44 (zero_int _) hby.map x ok
        have l1 := fun ok => lookup_run (w := X.drew.putObj mb o1) key_node Try.underlying44 (zero_int _) e2 x ok
        have l2 := fun ok => lookup_run (w := X.drew.putObj mb o2) key_node Try.underlying44 (zero_int _) e4 x ok
        rw [aget_in hin] at l0 l1
        rw [aget_aput, if_pos rfl] at l2
        have l0 := l0 false
        have l1 := l1 false
        have l2 := l2 false
        simp only [Bool.false_eq_true, if_false, Option.getD_some] at l0 l1 l2
        have bX2 : Blk (X.drew.putObj mb o2) Bx 39 [.int .i64 x.1, .int .i64 x.2.1, .int .i64 x.2.2] := bXd.keep (World.heap_putObj_ne _ _ hBm)
        have L0 := hid l0
        have L1 := hid l1
        have E1 := hid e1
        have E3 := hid e3
        have BXD := hid bXd
        have hz2 := hst1.out.trans (StoStep.put (w := X.drew) (F := [mb]) (b := mb) (by simp) o2)
        have HZ2 := hid hz2
        clear l0 l1 e1 e2 e3 e4 bX bXd hz2 hst1
        refine wp_region_stage [4, 6] (fun i W => (i = 0 → W = X.drew) ∧ (i = 1 → W = X.drew.putObj mb o1) ∧ (i = 2 → W = X.drew.putObj mb o2)) (by kernel_rfl) (by kernel_rfl) (by kernel_rfl) (by kernel_rfl) ⟨fun _ => rfl, fun h => by omega, fun h => by omega⟩ (fun F' hF' => ?_)
        have HF := hid hF'
        clear hF'
        refine sg_any rfl rfl (fun _ => by go_simp; with_reducible rfl) ?_
        simp only [Act.put, List.setIfInBounds_toArray, List.set_cons_zero, List.set_cons_succ]
        refine sg_read 0 0 rfl (by decide +kernel) (by decide +kernel) rfl (fun ii w' l' u hR => by
          rw [hR.1 (by omega)]
          exact load_struct_op _ _ _ _ _ _ _ _ Try.underlying39 (branchy_size _ _ _) rfl BXD.out) ?_
        simp only [Act.put, List.setIfInBounds_toArray, List.set_cons_zero, List.set_cons_succ]
        refine sg_read 0 1 rfl (by decide +kernel) (by decide +kernel) rfl (fun ii w' l' u hR => by
          rcases (show ii = 0 ∨ ii = 1 by omega) with rfl | rfl
          · rw [hR.1 rfl]; clear hR; have h := L0.out; first | (go_simp; done) | (go_simp; with_reducible rfl)
          · rw [hR.2.1 rfl]; clear hR; have h := L1.out; first | (go_simp; done) | (go_simp; with_reducible rfl)) ?_
        simp only [Act.put, List.setIfInBounds_toArray, List.set_cons_zero, List.set_cons_succ]
        refine sg_any rfl rfl (fun _ => by go_simp; with_reducible rfl) ?_
        simp only [Act.put, List.setIfInBounds_toArray, List.set_cons_zero, List.set_cons_succ]
        refine sg_turn 0 (v := .tuple #[.int .i64 1, .int .i64 st]) rfl rfl (fun W hR => ⟨X.drew.putObj mb o1, by rw [hR.1 rfl]; clear hR; have h := E1.out; go_simp, fun h => by omega, fun _ => rfl, fun h => by omega⟩) ?_
        simp only [Act.put, List.setIfInBounds_toArray, List.set_cons_zero, List.set_cons_succ]
        refine sg_any rfl rfl (fun _ => by go_simp; with_reducible rfl) ?_
        simp only [Act.put, List.setIfInBounds_toArray, List.set_cons_zero, List.set_cons_succ]
        refine sg_do 1 rfl rfl (fun W hR => ⟨X.drew.putObj mb o2, by rw [hR.2.1 rfl]; clear hR; have h := E3.out; have w1 : IntKind.i64.wrap 1 = 1 := (by decide); have w2 : IntKind.i64.wrap 2 = 2 := (by decide); go_simp, fun h => by omega, fun h => by omega, fun _ => rfl⟩) ?_
        simp only [Act.put, List.setIfInBounds_toArray, List.set_cons_zero, List.set_cons_succ]
        refine sg_end (HF.out _ (fun w3 hR => ?_))
        obtain rfl := hR.2.2 rfl
        clear hR HF F' L0 L1 E1 E3 BXD
        generalize X.drew.putObj mb o2 = Y at *
        go_upto_region 6 with (fail)
        refine wp_region_doc (fun F' hF => ?_)
        have HF := hid hF
        clear hF
        refine doc_val rfl (by first | (go_simp; done) | (go_simp; exact ⟨rfl, rfl⟩) | (go_simp; with_reducible rfl)) ?_
        simp only [Act.put, List.setIfInBounds_toArray, List.set_cons_zero, List.set_cons_succ]
        refine doc_val rfl (load_struct_op _ _ _ _ _ _ _ _ Try.underlying39 (branchy_size _ _ _) rfl bX2) ?_
        simp only [Act.put, List.setIfInBounds_toArray, List.set_cons_zero, List.set_cons_succ]
        iterate 2 (refine doc_val rfl (by first | (go_simp; done) | (go_simp; exact ⟨rfl, rfl⟩) | (go_simp; with_reducible rfl)) ?_; simp only [Act.put, List.setIfInBounds_toArray, List.set_cons_zero, List.set_cons_succ])
        refine doc_end (HF.out _ _ ?_)
        clear HF F' l2
        have hcv : canV ns rs = false := by unfold canV; rw [decide_eq_false NN2.out]; rfl
        have HCF := hid hcv
        clear hcv
        have hbY : Below w.heap.size w Y := HB.out.1.trans (HZ2.out.below (fun k hk => by simp at hk; have := HB.out.2.2.1; omega) HB.out.1.size)
        have HBY2 := hid hbY
        clear hbY
        go_wp2
        go_returns
        exact ⟨by rw [HCV.out, HCF.out]; rfl, HBY2.out⟩
      · obtain ⟨o1, o2, e1, e2, e3, e4⟩ := entry_new key_node Try.underlying44 zero_int hby hin
        have l0 := fun ok => lookup_run (w := X.drew) key_node Try.underlying44 (zero_int _) hby.map x ok
        have l1 := fun ok => lookup_run (w := X.drew.putObj mb o1) key_node Try.underlying44 (zero_int _) e2 x ok
        have l2 := fun ok => lookup_run (w := X.drew.putObj mb o2) key_node Try.underlying44 (zero_int _) e4.map x ok
        rw [aget_not hin] at l0
        rw [aget_aput, if_pos rfl] at l1
        rw [aget_in (by simp)] at l2
        have l0 := l0 false
        have l1 := l1 false
        have l2 := l2 false
        simp only [Bool.false_eq_true, if_false, Option.getD_some, Option.getD_none] at l0 l1 l2
        have hln : (ns.take j).length = j := by simp; omega
        rw [hln] at e1 e3
        have bX2 : Blk (X.drew.putObj mb o2) Bx 39 [.int .i64 x.1, .int .i64 x.2.1, .int .i64 x.2.2] := bXd.keep (World.heap_putObj_ne _ _ hBm)
        have L0 := hid l0
        have L1 := hid l1
        have E1 := hid e1
        have E3 := hid e3
        have E4 := hid e4
        have BXD := hid bXd
        have hz2 := hst1.out.trans (StoStep.put (w := X.drew) (F := [mb]) (b := mb) (by simp) o2)
        have HZ2 := hid hz2
        have HND2 := hid (show (ns.take (j + 1)).Nodup by
          rw [TK.out]
          exact List.nodup_append.2 ⟨HND.out, by simp, fun a ha b hb => by simp at hb; subst hb; exact fun e => hin (e ▸ ha)⟩)
        clear l0 l1 e1 e2 e3 e4 bX bXd hz2 hst1 hln hin hby
        refine wp_region_stage [4, 6] (fun i W => (i = 0 → W = X.drew) ∧ (i = 1 → W = X.drew.putObj mb o1) ∧ (i = 2 → W = X.drew.putObj mb o2)) (by kernel_rfl) (by kernel_rfl) (by kernel_rfl) (by kernel_rfl) ⟨fun _ => rfl, fun h => by omega, fun h => by omega⟩ (fun F' hF' => ?_)
        have HF := hid hF'
        clear hF'
        refine sg_any rfl rfl (fun _ => by go_simp; with_reducible rfl) ?_
        simp only [Act.put, List.setIfInBounds_toArray, List.set_cons_zero, List.set_cons_succ]
        refine sg_read 0 0 rfl (by decide +kernel) (by decide +kernel) rfl (fun ii w' l' u hR => by
          rw [hR.1 (by omega)]
          exact load_struct_op _ _ _ _ _ _ _ _ Try.underlying39 (branchy_size _ _ _) rfl BXD.out) ?_
        simp only [Act.put, List.setIfInBounds_toArray, List.set_cons_zero, List.set_cons_succ]
        refine sg_read 0 1 rfl (by decide +kernel) (by decide +kernel) rfl (fun ii w' l' u hR => by
          rcases (show ii = 0 ∨ ii = 1 by omega) with rfl | rfl
          · rw [hR.1 rfl]; clear hR; have h := L0.out; first | (go_simp; done) | (go_simp; with_reducible rfl)
          · rw [hR.2.1 rfl]; clear hR; have h := L1.out; first | (go_simp; done) | (go_simp; with_reducible rfl)) ?_
        simp only [Act.put, List.setIfInBounds_toArray, List.set_cons_zero, List.set_cons_succ]
        refine sg_any rfl rfl (fun _ => by go_simp; with_reducible rfl) ?_
        simp only [Act.put, List.setIfInBounds_toArray, List.set_cons_zero, List.set_cons_succ]
        refine sg_turn 0 (v := .tuple #[.int .i64 0, .int .i64 j]) rfl rfl (fun W hR => ⟨X.drew.putObj mb o1, by rw [hR.1 rfl]; clear hR; have h := E1.out; go_simp, fun h => by omega, fun _ => rfl, fun h => by omega⟩) ?_
        simp only [Act.put, List.setIfInBounds_toArray, List.set_cons_zero, List.set_cons_succ]
        refine sg_any rfl rfl (fun _ => by go_simp; with_reducible rfl) ?_
        simp only [Act.put, List.setIfInBounds_toArray, List.set_cons_zero, List.set_cons_succ]
        refine sg_do 1 rfl rfl (fun W hR => ⟨X.drew.putObj mb o2, by rw [hR.2.1 rfl]; clear hR; have h := E3.out; have w1 : IntKind.i64.wrap 1 = 1 := (by decide); have w2 : IntKind.i64.wrap 2 = 2 := (by decide); go_simp, fun h => by omega, fun h => by omega, fun _ => rfl⟩) ?_
        simp only [Act.put, List.setIfInBounds_toArray, List.set_cons_zero, List.set_cons_succ]
        refine sg_end (HF.out _ (fun w3 hR => ?_))
        obtain rfl := hR.2.2 rfl
        clear hR HF F' L0 L1 E1 E3 BXD
        generalize X.drew.putObj mb o2 = Y at *
        go_upto_region 6 with (fail)
        refine wp_region_doc (fun F' hF => ?_)
        have HF := hid hF
        clear hF
        refine doc_val rfl (by first | (go_simp; done) | (go_simp; exact ⟨rfl, rfl⟩) | (go_simp; with_reducible rfl)) ?_
        simp only [Act.put, List.setIfInBounds_toArray, List.set_cons_zero, List.set_cons_succ]
        refine doc_val rfl (load_struct_op _ _ _ _ _ _ _ _ Try.underlying39 (branchy_size _ _ _) rfl bX2) ?_
        simp only [Act.put, List.setIfInBounds_toArray, List.set_cons_zero, List.set_cons_succ]
        iterate 2 (refine doc_val rfl (by first | (go_simp; done) | (go_simp; exact ⟨rfl, rfl⟩) | (go_simp; with_reducible rfl)) ?_; simp only [Act.put, List.setIfInBounds_toArray, List.set_cons_zero, List.set_cons_succ])
        refine doc_end (HF.out _ _ ?_)
        clear HF F' l2
        have HYS := hid (show ByIs kv Y mb (ns.take (j + 1)) by rw [TK.out]; exact E4.out)
        go_wp2_with fail
        go_roundw
        case rel =>
          refine ⟨j + 1, by omega, by go_num, ?_, HND2.out, ?_⟩
          · refine HYS.out.keep ?_
            first | rfl | exact (Below.drew (Below.refl _ _)).block _ (Array.getElem?_eq_some_iff.1 HYS.out).1
          · exact HZ2.out
        case measure => simp [intOf]; omega
    · obtain rfl : j = ns.length := by omega
      have hnd : ns.Nodup := by have := HND.out; rwa [List.take_length] at this
      have hln := ordR_len hN hr
      have OR := hid (order_any (src_can hN hn q1 R G1) (av := .func (.func 149) #[] #[.pointer (some ⟨q1, 0, none⟩)]) rfl A1 (RowIs.rd A3) (by omega) (ns.length + 2) (fun a ha => ⟨by have := hr a ha; unfold okR at this; omega, hr a ha⟩) (by
        unfold ordR at hln
        omega))
      have HOV := hid (show canV ns rs = decide ((ordL (atR ns) (ns.length + 2) [(1, 1)] [] [] rs).1 = ns) by unfold canV ordR; rw [decide_eq_true hnd, Bool.true_and])
      have hln : (ordL (atR ns) (ns.length + 2) [(1, 1)] [] [] rs).1.length ≤ ns.length := hln
      generalize ordL (atR ns) (ns.length + 2) [(1, 1)] [] [] rs = O at *
      obtain ⟨ms, ks⟩ := O
      simp only at OR HOV hln
      have A1 := hid A1
      have A2 := hid A2
      have hbw := HB.out.1.trans (HST.out.below (fun k hk => by simp at hk; have := HB.out.2.2.1; omega) HB.out.1.size)
      have HBW := hid hbw
      have zq := A1.out.z1
      have k1 := A1.out.c1
      clear A3 hbw hnd RC KM HBY HND
      go_upto_region 9 with (fail)
      refine wp_region_doc (fun F' hF => ?_)
      have HF := hid hF
      clear hF
      iterate 5 (refine doc_val rfl (by first | (go_simp; done) | (go_simp; exact ⟨rfl, rfl⟩) | (go_simp; with_reducible rfl)) ?_; simp only [Act.put, List.setIfInBounds_toArray, List.set_cons_zero, List.set_cons_succ])
      refine doc_call rfl (by first | (go_simp; done) | (go_simp; exact ⟨rfl, rfl⟩) | (go_simp; with_reducible rfl)) ((OR.out).mono ?_)
      rintro _ W2 ⟨s1, s2, rfl, r1, r2, r3⟩
      refine ⟨_, rfl, ?_⟩
      simp only [Act.put, List.setIfInBounds_toArray, List.set_cons_zero, List.set_cons_succ]
      iterate 5 (refine doc_val rfl (by first | (go_simp; done) | (go_simp; exact ⟨rfl, rfl⟩) | (go_simp; with_reducible rfl)) ?_; simp only [Act.put, List.setIfInBounds_toArray, List.set_cons_zero, List.set_cons_succ])
      refine doc_end (HF.out _ _ ?_)
      clear HF F' OR
      obtain ⟨ma, mc, rfl, _, hmm⟩ := Rd.lenN r1
      have R1 := hid r1
      have N2 := hid (RowIs.keep A2.out (fun g hg => r3.block g (RowIs.lt A2.out g hg)))
      have HBW2 := hid (HBW.out.trans (r3.mono HBW.out.size))
      have d2 := (cell_of_heap 2 (r3.block R A6)).trans A4
      have dz : R < W2.heap.size := Nat.lt_of_lt_of_le A6 r3.size
      have zq2 : q1 < W2.heap.size := Nat.lt_of_lt_of_le zq r3.size
      have k2 := (r3.cell (p := ⟨q1, 0, none⟩) zq).trans k1
      clear r1 r2 r3 A4 A5 A6 zq k1 A1 A2 HBW HST hmm
      by_cases hll : ms.length = ns.length
      · have hl1 : ((ms.length : Int) != (ns.length : Int)) = false := by rw [hll]; simp
        go_wp2_with fail
        go_loopw [50] (fun iv wr => ∃ j : Nat, j ≤ ms.length ∧ iv = .int .i64 j ∧ Below W2.heap.size W2 wr ∧ ms.take j = ns.take j) (fun iv _ => ms.length - (intOf iv).toNat)
        case atStart => exact ⟨0, by omega, rfl, Below.refl _ _, by simp⟩
        case round =>
          obtain ⟨j, hj, rfl, hb, htk⟩ := hrel
          have HB2 := hid hb
          have HTK := hid htk
          have c1 := (hb.cell (p := ⟨q1, 0, none⟩) zq2).trans k2
          have c2 := (hb.cell (p := ⟨R, 2, none⟩) dz).trans d2
          have z1 := Nat.lt_of_lt_of_le zq2 hb.size
          have z2 := Nat.lt_of_lt_of_le dz hb.size
          clear hb htk
          by_cases hlt : j < ms.length
          · have hj1 : (j : Int) < (ms.length : Int) := by omega
            have hx := List.getElem?_eq_getElem hlt
            have hlt2 : j < ns.length := by omega
            have hj2 : (j : Int) < (ns.length : Int) := by omega
            have hy := List.getElem?_eq_getElem hlt2
            obtain ⟨b1, off1, rfl, hb1, g0, g1, g2⟩ := Rd.nodeAt (R1.out.below HB2.out) hx
            obtain ⟨b2, off2, rfl, hb2, e0, e1, e2⟩ := Rd.nodeAt (RowIs.rd (RowIs.keep N2.out (fun g hg => HB2.out.block g (RowIs.lt N2.out g hg)))) hy
            have T1 : ms.take (j + 1) = ms.take j ++ [ms[j]] := by rw [List.take_add_one, hx]; rfl
            have T2 : ns.take (j + 1) = ns.take j ++ [ns[j]] := by rw [List.take_add_one, hy]; rfl
            have NE : ms[j] ≠ ns[j] → ms ≠ ns := fun h e => h (by subst e; rfl)
            generalize ms[j] = x at *
            generalize ns[j] = y at *
            have T1 := hid T1
            have T2 := hid T2
            have NE := hid NE
            have KQ := fun w => key_node.eq x y w
            clear hx hy
            go_upto_region 15 with (fail)
            refine wp_gen (fun X hX => ?_)
            have hbX : Below wr.heap.size wr X := by rw [hX]; (repeat' (first | (with_reducible exact Below.refl _ _) | (with_reducible refine Below.ext_mk ?_ ?_ _ _) | (with_reducible refine Below.alloc ?_ ?_ _) | (with_reducible refine Below.drew ?_) | (with_reducible refine Below.setCell ?_ ?_ _) | go_size))
            have bX : Blk X wr.heap.size 39 [.int .i64 x.1, .int .i64 x.2.1, .int .i64 x.2.2] := by rw [hX]; exact World.heap_alloc_last wr _
            have c1 := (hbX.cell (p := ⟨q1, 0, none⟩) z1).trans c1
            have c2 := (hbX.cell (p := ⟨R, 2, none⟩) z2).trans c2
            have z1 := Nat.lt_of_lt_of_le z1 hbX.size
            have z2 := Nat.lt_of_lt_of_le z2 hbX.size
            have e0 := (hbX.cell (p := ⟨b2, off2 + j * 3, none⟩) hb2).trans e0
            have e1 := (hbX.cell (p := ⟨b2, off2 + j * 3 + 1, none⟩) hb2).trans e1
            have e2 := (hbX.cell (p := ⟨b2, off2 + j * 3 + 2, none⟩) hb2).trans e2
            have hb2 := Nat.lt_of_lt_of_le hb2 hbX.size
            have HB3 := hid (HB2.out.trans (hbX.mono HB2.out.size))
            clear hX g0 g1 g2
            obtain ⟨Bx, hBx⟩ : ∃ b, b = wr.heap.size := ⟨_, rfl⟩
            rw [← hBx] at bX ⊢
            clear hBx hbX
            obtain ⟨bb, hbb⟩ : ∃ bb, bb = (!decide (x = y)) := ⟨_, rfl⟩
            have NQ := fun (a : Act) (dst : Option Tmp) (t : TypeId) (o1 o2 : Operand) (pos : String) (after : Array Edge) (guard : Option (Nat × Bool)) (o : TypeId) (hx : a.eval o1 = kv x) (hy : a.eval o2 = kv y) (w : World) => neq_node_op a dst t o1 o2 pos after guard o hx hy w
            rw [← hbb] at NQ
            have HBB := hid hbb
            clear KQ hbb
            refine wp_region_ext (by kernel_rfl) (by kernel_rfl) (fun F hF => ?_)
            have HF := hid hF; clear hF
            repeat (first
              | (apply text_skip; (focus rfl); simp only [Act.put, List.setIfInBounds_toArray, List.set_cons_zero, List.set_cons_succ])
              | (apply text_val; (focus rfl); (focus (intro _ _; exact load_struct_op _ _ _ _ _ _ _ _ Try.underlying39 (branchy_size _ _ _) rfl (bX.ext _ _))); simp only [Act.put, List.setIfInBounds_toArray, List.set_cons_zero, List.set_cons_succ])
              | (apply text_val; (focus rfl); (focus (intro _ _; exact NQ _ _ _ _ _ _ _ _ _ rfl rfl _)); simp only [Act.put, List.setIfInBounds_toArray, List.set_cons_zero, List.set_cons_succ])
              | (apply text_if; (focus (first | exact wanted_t rfl rfl | exact wanted_f rfl rfl | exact wanted_gt rfl rfl | exact wanted_gf rfl rfl)); (focus (intro hc _ _; exact load_struct_op _ _ _ _ _ _ _ _ Try.underlying39 (branchy_size _ _ _) rfl (bX.ext _ _))); simp only [Act.put, List.setIfInBounds_toArray, List.set_cons_zero, List.set_cons_succ])
              | (apply text_if; (focus (first | exact wanted_t rfl rfl | exact wanted_f rfl rfl | exact wanted_gt rfl rfl | exact wanted_gf rfl rfl)); (focus (intro hc _ _; exact NQ _ _ _ _ _ _ _ _ _ rfl rfl _)); simp only [Act.put, List.setIfInBounds_toArray, List.set_cons_zero, List.set_cons_succ])
              | (apply text_val; (focus rfl); (focus (intro _ _; go_simp; with_reducible rfl)); simp only [Act.put, List.setIfInBounds_toArray, List.set_cons_zero, List.set_cons_succ])
              | (apply text_if; (focus (first | exact wanted_t rfl rfl | exact wanted_f rfl rfl | exact wanted_gt rfl rfl | exact wanted_gf rfl rfl)); (focus (intro hc _ _; (try simp only [Bool.and_eq_true, Bool.not_eq_true', Bool.true_and] at hc); go_simp; with_reducible rfl)); simp only [Act.put, List.setIfInBounds_toArray, List.set_cons_zero, List.set_cons_succ]))
            refine text_nil (HF.out _ (fun mx dx => ?_))
            clear HF F
            clear NQ
            have hb4 : Below W2.heap.size W2 (X.ext mx dx) := Below.ext_mk HB3.out HB3.out.size _ _
            have HB4 := hid hb4
            clear hb4
            cases bb
            · have hxy : x = y := by
                have := HBB.out
                by_cases h : x = y
                · exact h
                · rw [decide_eq_false h] at this; cases this
              go_wp2_with fail
              go_roundw
              case rel => exact ⟨j + 1, by omega, by go_num, HB4.out, by rw [T1.out, T2.out, HTK.out, hxy]⟩
              case measure => simp [intOf]; omega
            · have hxy : x ≠ y := by
                have := HBB.out
                intro h
                rw [decide_eq_true h] at this; cases this
              have HCF := hid (show cv = false by rw [HCV.out, HOV.out]; exact decide_eq_false (NE.out hxy))
              clear hxy
              go_wp2
              go_returns
              exact ⟨by rw [HCF.out]; rfl, HBW2.out.trans (HB4.out.mono HBW2.out.size)⟩
          · obtain rfl : j = ms.length := by omega
            have hE : ms = ns := by
              have h := HTK.out
              rw [List.take_length, hll, List.take_length] at h
              exact h
            have HCF := hid (show cv = true by rw [HCV.out, HOV.out]; exact decide_eq_true hE)
            clear hE
            go_wp2
            go_returns
            exact ⟨by rw [HCF.out]; rfl, HBW2.out.trans (HB2.out.mono HBW2.out.size)⟩
      · have hl1 : ((ms.length : Int) != (ns.length : Int)) = true := by simp; omega
        have hcf : cv = false := by rw [HCV.out, HOV.out]; exact decide_eq_false (fun e => hll (by rw [e]))
        have HCF := hid hcf
        clear hcf
        go_wp2
        go_returns
        exact ⟨by rw [HCF.out]; rfl, HBW2.out⟩
end
end Go.Proofs.Ytboekafmplomhaa
