/-
  HeaderPlays: what the walk needs in plain Lean.
-/
import Derived.Test.YtkblldmpdihamaaZPdCW
import Derived.Test.YtkblldmpdihamaaZPdEW
import Derived.Test.YtkblldmpdihamaaZPdNW
set_option linter.unusedVariables false
set_option linter.unusedSimpArgs false
namespace Go.Proofs.Ytkblldmpdihamaa
open Go.RowKit

theorem hBits_snd {hs : List (SL × List Int)} {va : List Bool} {fs fs' : NumRows} (h : fs.map (fun x => x.2) = fs'.map (fun x => x.2)) (e : Int) : hBits hs va fs e = hBits hs va fs' e := by
  have hl : fs.length = fs'.length := by have := congrArg List.length h; simpa using this
  have hg : (fs.getD e.toNat (slNil, [])).2 = (fs'.getD e.toNat (slNil, [])).2 := by
    have h1 := congrArg (fun l => l[e.toNat]?) h
    simp only [List.getElem?_map] at h1
    rw [List.getD_eq_getElem?_getD, List.getD_eq_getElem?_getD]
    cases q : fs[e.toNat]? with
    | none => rw [q] at h1; cases q' : fs'[e.toNat]? with
      | none => rfl
      | some y => rw [q'] at h1; cases h1
    | some x => rw [q] at h1; cases q' : fs'[e.toNat]? with
      | none => rw [q'] at h1; cases h1
      | some y => rw [q'] at h1; simpa using h1
  unfold hBits
  rw [hl, hg]
theorem emT_snd {hs : List (SL × List Int)} {va : List Bool} {fs fs' : NumRows} {es : List Int} (h : fs.map (fun x => x.2) = fs'.map (fun x => x.2)) (m : Nat) : emT hs va fs es m = emT hs va fs' es m :=
  emT_congr m (fun i _ => hBits_snd h _)
theorem allR_snd : ∀ (fs fs' : NumRows) (hs : List (SL × List Int)) (va : List Bool), fs.map (fun x => x.2) = fs'.map (fun x => x.2) → allR fs hs va = allR fs' hs va
  | [], [], _, _, _ => rfl
  | [], _ :: _, _, _, h => by simp at h
  | _ :: _, [], _, _, h => by simp at h
  | f :: fs, f' :: fs', [], va, h => by simp [allR]
  | f :: fs, f' :: fs', x :: hs, [], h => by simp [allR]
  | f :: fs, f' :: fs', x :: hs, v :: va, h => by
    simp only [List.map_cons, List.cons.injEq] at h
    rw [allR, allR, allR_snd fs fs' hs va h.2, h.1]
theorem rFitsV_snd {hs : List (SL × List Int)} {ms : List Int} {va : List Bool} {fs fs' : NumRows} {mt : List (BitVec 128)} (h : fs.map (fun x => x.2) = fs'.map (fun x => x.2)) : rFitsV hs ms va fs mt = rFitsV hs ms va fs' mt := by
  have hl : fs.length = fs'.length := by have := congrArg List.length h; simpa using this
  unfold rFitsV
  rw [hl, allR_snd fs fs' hs va h]
/-- A packet that came. -/
def PD.new (hs : List (SL × List Int)) (l : List Nat) : PD := ⟨l, List.replicate hs.length false, zeroRows (hs.map fun x => x.2.length), false⟩
theorem PD.new_ok {hs : List (SL × List Int)} {l : List Nat} (hl : l.length ≤ 400) (hb : ∀ x ∈ l, x < 256) : (PD.new hs l).Ok hs :=
  ⟨by simp [PD.new], by simp [PD.new, zeroRows, Function.comp_def], hl, hb⟩
theorem PD.new_zo (hs : List (SL × List Int)) (l : List Nat) : (PD.new hs l).Zo := fun i ns _ h2 n hn => by
  simp only [PD.new, zeroRows, List.getElem?_map] at h2
  cases q : hs[i]? with
  | none => rw [q] at h2; cases h2
  | some x =>
    rw [q] at h2
    simp at h2
    rw [← h2] at hn
    exact List.eq_of_mem_replicate hn
end Go.Proofs.Ytkblldmpdihamaa
set_option linter.unusedVariables false
set_option linter.unusedSimpArgs false
namespace Go.Proofs.Ytkblldmpdihamaa
open Go.RowKit

theorem great19_any (s t : SL) (w : World) : Calls Try.prog 18 #[s.v, t.v] w (Pure (.bool (decide (400 < (s.n : Int)) || decide (30 < (t.n : Int)))) w) := by
  obtain ⟨sa, sn, sc⟩ := s
  obtain ⟨ta, tn, tc⟩ := t
  by_cases h1 : 400 < (sn : Int) <;> by_cases h2 : 30 < (tn : Int)
  all_goals
    go_enter Try.func18, Try.ntmps18
    go_upto_region 1 with (fail)
    refine wp_region_seq (fun F hF => ?_)
    have HF := hid hF; clear hF
    repeat (first
      | (apply text_skip; (focus rfl); simp only [Act.put, List.setIfInBounds_toArray, List.set_cons_zero, List.set_cons_succ])
      | (apply text_val; (focus rfl); (focus (intro _ _; go_simp; with_reducible rfl)); simp only [Act.put, List.setIfInBounds_toArray, List.set_cons_zero, List.set_cons_succ])
      | (apply text_if; (focus (first | exact wanted_t rfl rfl | exact wanted_f rfl rfl | exact wanted_gt rfl rfl | exact wanted_gf rfl rfl)); (focus (intro hc _ _; (try simp only [Bool.and_eq_true, Bool.not_eq_true', Bool.true_and] at hc); go_simp; with_reducible rfl)); simp only [Act.put, List.setIfInBounds_toArray, List.set_cons_zero, List.set_cons_succ]))
    refine text_nil (HF.out _ (fun mx dx => ?_))
    clear HF F
    go_wp2_with fail
    go_returns
    exact Pure.of (by simp [h1, h2]) (by (repeat' (first | (with_reducible exact Below.refl _ _) | (with_reducible refine Below.ext_mk ?_ ?_ _ _) | (with_reducible refine Below.alloc ?_ ?_ _) | (with_reducible refine Below.drew ?_) | (with_reducible refine Below.setCell ?_ ?_ _) | go_size)))
end Go.Proofs.Ytkblldmpdihamaa
set_option linter.unusedVariables false
set_option linter.unusedSimpArgs false
namespace Go.Proofs.Ytkblldmpdihamaa
open Go.RowKit

theorem PktIs.of_new2 {wA w2 X : World} {port : Int} {l ws : List Nat} {mn b : Nat} {k : PK} {M : List Nat} (N : NewOut wA port l ws mn (.returned k.v) w2) (t : Turn w2 X M) (hM : ∀ q ∈ M, q < wA.heap.size ∨ w2.heap.size ≤ q) (hs : wA.heap.size ≤ w2.heap.size)
    (hb : b < wA.heap.size ∨ w2.heap.size ≤ b) (bk : Blk X b 39 k.cs) (hbytes : ∀ x ∈ l, x < 256) (few : ws.length ≤ 1000000 ∧ (∀ n ∈ ws, n ≤ 1000000) ∧ l.length ≤ 100000 ∧ mn ≤ 1000000) :
    ∃ (vb : Nat) (gs : List Nat), PktIs X b vb gs k l (List.replicate ws.length false) (zeroRows ws) (List.replicate mn 0#128) ∧ k.port = port ∧ k.dropped = false ∧ k.sent = false ∧ k.egress = 0 ∧ k.access = false ∧ (∀ q ∈ vb :: gs, wA.heap.size ≤ q ∧ q < w2.heap.size) ∧
      Fresh wA.heap.size k.rest ∧ Lt w2 k.rest ∧ Fresh wA.heap.size k.fields ∧ Lt w2 k.fields ∧ Fresh wA.heap.size k.metas ∧ Lt w2 k.metas := by
  obtain ⟨r, fv, vb, mb, G, gs, he, nB, nR, nF, nV, nM, nVM, nRV, nVg, nGV, nRg, nbV, nbM, nL, nRow, nEach, nNd, nG, nMg, nLt⟩ := N
  have hk : k = PK.mk port r ⟨some ⟨vb, 0, none⟩, ws.length, ws.length⟩ fv ⟨some ⟨mb, 0, none⟩, mn, mn⟩ false false 0 false := by
    obtain ⟨kp, ⟨ra, rn, rc⟩, ⟨va, vn, vc⟩, ⟨fa, fn, fc⟩, ⟨ma, mm, mc⟩, dr, se, eg, ac⟩ := k
    obtain ⟨ra', rn', rc'⟩ := r
    obtain ⟨fa', fn', fc'⟩ := fv
    injection he with he
    simp at he
    simp [he]
  subst hk
  have hz : (zeroRows ws).length = ws.length := by simp [zeroRows]
  have gz : ∀ g ∈ gs, wA.heap.size ≤ g ∧ g < w2.heap.size := fun g hg => by
    obtain ⟨i, hi⟩ := List.getElem?_of_mem hg
    exact ⟨(nEach i g hi).1, (nEach i g hi).2.lt⟩
  have vz := nbV.lt
  have mz := nbM.lt
  have out : ∀ q, wA.heap.size ≤ q → q < w2.heap.size → q ∉ M := fun q h1 h2 hm => by rcases hM q hm with h | h <;> omega
  have bne : ∀ q, wA.heap.size ≤ q → q < w2.heap.size → q ≠ b := fun q h1 h2 e => by rcases hb with h | h <;> omega
  obtain ⟨fR, _, fA⟩ := RowIs.rdS nRow
  have lF : Fresh wA.heap.size fv := fun q off e => (nG q (fA q off e)).1
  have lL : Lt w2 fv := fun q off e => RowIs.lt nRow q (fA q off e)
  have aw : ∀ {s : SL}, Fresh wA.heap.size s → Lt w2 s → Away s M := fun h1 h2 q off e hm => out q (h1 q off e) (h2 q off e) hm
  refine ⟨vb, gs, ⟨bk, t.rd nR (aw nF nLt), hbytes, by rw [List.length_replicate], t.blk nbV (out _ nV vz), by rw [← rowsOf_fsOf ws gs nL]; exact t.rd fR (aw lF lL), by rw [hz]; exact nL, ?_, ?_, ?_, ?_, ?_, ?_, ?_⟩, rfl, rfl, rfl, rfl, rfl, ?_, nF, nLt, lF, lL, ?_, ?_⟩
  · intro i g ns hg hn
    have h0 := nEach i g hg
    have h := t.blk h0.2 (out _ h0.1 h0.2.lt)
    have hw : i < ws.length := by have := (List.getElem?_eq_some_iff.1 hg).1; omega
    have e : ns = List.replicate (ws.getD i 0) 0#128 := by
      simp [zeroRows, hw] at hn
      rw [← hn]; simp [hw]
    rw [e]; exact h
  · exact Blk.rdS (t.blk nbM (out _ nM mz)) (by rw [nums_length]; simp) few.2.2.2
  · simp only [List.nodup_cons, List.mem_cons, not_or]
    exact ⟨⟨fun e => bne vb nV vz e.symm, fun hm => bne b (gz b hm).1 (gz b hm).2 rfl⟩, nVg, nNd⟩
  · refine ⟨by rw [List.length_replicate]; exact few.1, by rw [hz]; exact few.1, fun ns hn => ?_, few.2.2.1⟩
    unfold zeroRows at hn
    rw [List.mem_map] at hn
    obtain ⟨n, hn, rfl⟩ := hn
    rw [List.length_replicate]; exact few.2.1 n hn
  · intro q off e hm
    simp only [List.mem_cons] at hm
    rcases hm with hm | hm | hm
    · exact bne q (nF q off e) (nLt q off e) hm
    · exact nRV q off e (by simp [hm])
    · exact nRg q off e hm
  · intro q off e hm
    have hG := fA q off e
    simp only [List.mem_cons] at hm
    rcases hm with hm | hm | hm
    · exact bne q (lF q off e) (lL q off e) hm
    · exact nGV (by rw [hG, hm])
    · exact (nG q hG).2 hm
  · intro q off e hm
    have e' : q = mb := by
      have : (⟨mb, 0, none⟩ : Addr) = ⟨q, off, none⟩ := Option.some.inj e
      injection this with e1; exact e1.symm
    subst e'
    simp only [List.mem_cons] at hm
    rcases hm with hm | hm | hm
    · exact bne q nM mz hm
    · exact nVM hm.symm
    · exact nMg hm
  · intro q hq
    simp only [List.mem_cons] at hq
    rcases hq with rfl | hq
    · exact ⟨nV, vz⟩
    · exact gz q hq
  · intro q off e
    have : (⟨mb, 0, none⟩ : Addr) = ⟨q, off, none⟩ := Option.some.inj e
    injection this with e1; omega
  · intro q off e
    have : (⟨mb, 0, none⟩ : Addr) = ⟨q, off, none⟩ := Option.some.inj e
    injection this with e1; omega
end Go.Proofs.Ytkblldmpdihamaa
