/-
  The program's Valid of a packet (package header).
-/
import Derived.Test.YtkblldmpdihamaaZPdH
import Derived.Lib.SliceRun
set_option linter.unusedVariables false
set_option linter.unusedSimpArgs false
namespace Go.Proofs.Ytkblldmpdihamaa
open Go.RowKit

def putAll (xs : List Value) : Nat → List Value → List Value
  | _, [] => xs
  | o, v :: r => putAll (xs.set o v) (o + 1) r
theorem putAll_eq : ∀ (vs : List Value) (xs : List Value) (o : Nat), o + vs.length = xs.length → putAll xs o vs = xs.take o ++ vs
  | [], xs, o, h => by simp at h; simp [putAll, h]
  | v :: r, xs, o, h => by
    simp only [List.length_cons] at h
    rw [putAll, putAll_eq r (xs.set o v) (o + 1) (by simp; omega)]
    have ho : o < xs.length := by omega
    rw [List.take_succ_eq_append_getElem (by simp; omega), List.take_set, List.getElem_set_self]
    rw [List.set_eq_of_length_le (by simp; omega), List.append_assoc]; rfl
theorem putAll_all (xs vs : List Value) (h : vs.length = xs.length) : putAll xs 0 vs = vs := by
  rw [putAll_eq vs xs 0 (by omega)]; simp
theorem blk_setCells (g : Nat) (e : TypeId) : ∀ (vs : List Value) (o : Nat) (w : World) (xs : List Value), Blk w g e xs → Blk (w.setCells g o vs) g e (putAll xs o vs) ∧ Turn w (w.setCells g o vs) [g]
  | [], _, w, xs, h => ⟨h, Turn.refl _ _⟩
  | v :: r, o, w, xs, h => by
    obtain ⟨h1, h2⟩ := blk_setCells g e r (o + 1) _ _ (h.set_ o v)
    exact ⟨h1, (Turn.set_ g o v (by simp)).trans h2⟩
theorem num_info2 : (Try.prog.info? 45).map (fun i => (i.zero, i.size)) = some (some (.agg #[.int .u64 0, .int .u64 0]), 2) := by kernel_rfl
/-- A row of numbers is cleared. -/
theorem clear_nums (w : World) (ty : TypeId) (g c : Nat) (ns : List (BitVec 128)) (B : Blk w g 45 (nums ns)) :
    ∃ w', (Builtin.clear_ #[37] ty #[.slice (some ⟨g, 0, none⟩) ns.length c]).run Try.prog w = .ok (.tuple #[]) w' ∧ Blk w' g 45 (nums (List.replicate ns.length 0#128)) ∧ Turn w w' [g] := by
  rcases Nat.eq_zero_or_pos ns.length with h0 | h0
  · have hn : ns = [] := List.length_eq_zero_iff.1 h0
    subst hn
    refine ⟨w, ?_, B, Turn.refl _ _⟩
    simp [Builtin.clear_, run_underlying Try.underlying37]
  · have hz := (zero_of_info (P := Try.prog) num_info2).1
    have hzc : (Builtin.zeroCells (Value.agg #[.int .u64 0, .int .u64 0]).cells ns.length).toList = List.replicate (ns.length * 2) (.int .u64 0) := by
      rw [show (Value.agg #[.int .u64 0, .int .u64 0]).cells = #[Value.int .u64 0, .int .u64 0] from rfl]
      simp [Builtin.zeroCells]
      apply List.ext_getElem
      · simp
      · intro i h1 h2
        have : i % 2 = 0 ∨ i % 2 = 1 := by omega
        rcases this with e | e <;> simp [e]
    have hst := run_storeCells_cells (P := Try.prog) g 0 (List.replicate (ns.length * 2) (.int .u64 0)) 0 w (by
      intro j hj
      rw [Nat.add_zero, Nat.zero_add, B.cell]
      simp at hj ⊢
      rw [nums_length]; omega) (by intro j hj; exact B.free _) (by intro v hv'; rw [List.eq_of_mem_replicate hv']; rfl)
    simp only [Nat.add_zero] at hst
    obtain ⟨b1, b2⟩ := blk_setCells g 45 (List.replicate (ns.length * 2) (.int .u64 0)) 0 w (nums ns) B
    rw [putAll_all _ _ (by rw [nums_length]; simp)] at b1
    refine ⟨_, ?_, by rw [nums_zero]; exact b1, b2⟩
    obtain ⟨m, hm⟩ : ∃ m, ns.length = m + 1 := ⟨ns.length - 1, by omega⟩
    rw [hm] at hzc hst ⊢
    simp [Builtin.clear_, run_underlying Try.underlying37, hz, hzc, hst]

theorem run_clear_op {w w1 : World} (a : Act) (dst : Option Tmp) (x : Operand) (t : TypeId) (pos : String) (after : Array Edge) (guard : Option (Nat × Bool)) (h : (Builtin.clear_ #[37] t #[a.eval x]).run Try.prog w = .ok (.tuple #[]) w1) :
    (execOp a.eval { dst, op := .call { callee := .builtin .clear, args := #[x], argTypes := #[37] }, type := t, pos, after, guard }).run Try.prog w = .ok (.value (.tuple #[])) w1 := by
  simp [execOp, resolve, invoke, builtin, h, Result.andThen]
section
variable {w : World} {b vb : Nat} {gs : List Nat} {port : Int} {mt : List (BitVec 128)} {S : PD} {hs : List (SL × List Int)} {k : PK} {p : PG}
set_option maxRecDepth 100000 in
theorem hvalid_any {M : List Nat} (P : Prg w M b vb gs port mt S) (O : S.Ok hs) (h : Int) (on : Bool) :
    Calls Try.prog 24 #[.pointer (some ⟨b, 0, none⟩), .int .i64 h, .bool on] w
      (fun e w' => e = .returned (.tuple #[]) ∧ Turn w w' (b :: vb :: gs) ∧ Prg w' M b vb gs port mt (S.on h on)) := by
  obtain ⟨k, P, AW, SC⟩ := P
  have hHB := P.hasB h
  have same : ∀ {e : Ending} {w' : World}, Pure (.tuple #[]) w e w' → e = .returned (.tuple #[]) ∧ Turn w w' (b :: vb :: gs) ∧ Prg w' M b vb gs port mt S := fun hp => by
    obtain ⟨rfl, m, d, rfl⟩ := hp
    have hb : Below w.heap.size w (w.ext m d) := Below.ext_mk (Below.refl _ _) (Nat.le_refl _) _ _
    exact ⟨rfl, Turn.of_below hb, k, P.below hb, AW, SC⟩
  have hlv : S.nss.length = S.va.length := by rw [O.nl, O.va]
  by_cases hh : 0 ≤ h ∧ h < (S.va.length : Int)
  · obtain ⟨h0, h1⟩ := hh
    obtain ⟨i, rfl⟩ : ∃ i : Nat, h = (i : Int) := ⟨h.toNat, by omega⟩
    have hi : i < S.nss.length := by omega
    obtain ⟨ns, hn⟩ : ∃ ns, S.nss[i]? = some ns := ⟨S.nss[i], List.getElem?_eq_getElem hi⟩
    obtain ⟨v, hv⟩ : ∃ v, S.va[i]? = some v := ⟨S.va[i]'(by omega), List.getElem?_eq_getElem (by omega)⟩
    obtain ⟨g, rb, ro, fc, hg, hkf, zr, cr⟩ := P.rowAt hn
    have hbt : hasB k (i : Int) = true := by
      rw [hHB]
      have q2 : (i : Int) < (S.nss.length : Int) := by omega
      simp [h1, q2]
    have HA := hid (fun V (hb : Below w.heap.size w V) => by have := has_any (P.blk.below hb) (i : Int); rw [hbt] at this; exact this)
    have hvb := P.vblk.cell i
    rw [show (bools S.va)[i]? = some (.bool v) by simp [bools, hv]] at hvb
    have fvb := P.vblk.free i
    have c2 := P.blk.cell 2
    have c3 := P.blk.cell 3
    have zb := P.blk.lt
    have zv := P.vblk.lt
    simp only [List.getElem?_cons_zero, List.getElem?_cons_succ] at c2 c3
    rw [P.valid] at c2
    rw [hkf] at c3
    simp only [SL.v_mk] at c2 c3
    have k1 : (i : Int) < (S.va.length : Int) := h1
    have k2 : (i : Int) < (S.nss.length : Int) := by omega
    have PP := hid P
    by_cases hvo : v = on
    · have eg : S.on (i : Int) on = S := by
        unfold PD.on
        rw [if_neg (fun q => q.2.2 (by rw [Int.toNat_natCast, List.getD_eq_getElem?_getD, hv, hvo]; rfl))]
      rw [eg]
      refine Calls.mono ?_ (fun e w' hp => same hp)
      subst hvo
      clear AW hkf SC hn hv eg hHB hbt same hg P O hlv fvb
      cases v
      all_goals
        go_enter Try.func24, Try.ntmps24
        go_upto_region 0 with (fail)
        refine wp_region_seq (fun F hF => ?_)
        have HF := hid hF; clear hF
        repeat (first
          | (apply text_skip; (focus rfl); simp only [Act.put, List.setIfInBounds_toArray, List.set_cons_zero, List.set_cons_succ])
          | (apply text_val; (focus rfl); (focus (intro _ _; go_simp; with_reducible rfl)); simp only [Act.put, List.setIfInBounds_toArray, List.set_cons_zero, List.set_cons_succ])
          | (apply text_call; (focus rfl); (focus (intro _ _; go_simp; exact ⟨rfl, rfl⟩)); (focus (intro _ _; with_reducible (exact HA.out _ (by (repeat' (first | (with_reducible exact Below.refl _ _) | (with_reducible refine Below.ext_mk ?_ ?_ _ _) | (with_reducible refine Below.alloc ?_ ?_ _) | (with_reducible refine Below.drew ?_) | (with_reducible refine Below.setCell ?_ ?_ _) | go_size)))))); simp only [Act.put, List.setIfInBounds_toArray, List.set_cons_zero, List.set_cons_succ])
          | (apply text_if; (focus (first | exact wanted_t rfl rfl | exact wanted_f rfl rfl | exact wanted_gt rfl rfl | exact wanted_gf rfl rfl)); (focus (intro hc _ _; (try simp only [Bool.and_eq_true, Bool.not_eq_true', Bool.true_and] at hc); go_simp; with_reducible rfl)); simp only [Act.put, List.setIfInBounds_toArray, List.set_cons_zero, List.set_cons_succ])
          | (apply text_if_call; (focus (first | exact wanted_t rfl rfl | exact wanted_f rfl rfl | exact wanted_gt rfl rfl | exact wanted_gf rfl rfl)); (focus (intro hc _ _; (try simp only [Bool.and_eq_true, Bool.not_eq_true', Bool.true_and] at hc); go_simp; exact ⟨rfl, rfl⟩)); (focus (intro hc _ _; with_reducible (exact HA.out _ (by (repeat' (first | (with_reducible exact Below.refl _ _) | (with_reducible refine Below.ext_mk ?_ ?_ _ _) | (with_reducible refine Below.alloc ?_ ?_ _) | (with_reducible refine Below.drew ?_) | (with_reducible refine Below.setCell ?_ ?_ _) | go_size)))))); simp only [Act.put, List.setIfInBounds_toArray, List.set_cons_zero, List.set_cons_succ]))
        refine text_nil (HF.out _ (fun mx dx => ?_))
        clear HF F
        go_wp2_with fail
        go_returns
        exact Pure.of rfl (by (repeat' (first | (with_reducible exact Below.refl _ _) | (with_reducible refine Below.ext_mk ?_ ?_ _ _) | (with_reducible refine Below.alloc ?_ ?_ _) | (with_reducible refine Below.drew ?_) | (with_reducible refine Below.setCell ?_ ?_ _) | go_size)))
    · have hvo' : v = !on := by cases v <;> cases on <;> simp_all
      have eg : S.on (i : Int) on = { S with va := S.va.set i on, nss := S.nss.set i (List.replicate ns.length 0#128) } := by
        unfold PD.on
        rw [if_pos ⟨h0, h1, by rw [Int.toNat_natCast, List.getD_eq_getElem?_getD, hv]; exact hvo⟩, Int.toNat_natCast, List.getD_eq_getElem?_getD, hn]
        rfl
      have EG := hid eg
      have HG := hid (And.intro hg (And.intro hn (And.intro hi (And.intro AW SC))))
      subst hvo'
      have hkf2 := hid hkf
      clear AW hkf SC hn hv eg hHB hbt same P O hlv hvo
      cases on
      · go_enter Try.func24, Try.ntmps24
        go_upto_region 0 with (fail)
        refine wp_region_seq (fun F hF => ?_)
        have HF := hid hF; clear hF
        repeat (first
          | (apply text_skip; (focus rfl); simp only [Act.put, List.setIfInBounds_toArray, List.set_cons_zero, List.set_cons_succ])
          | (apply text_val; (focus rfl); (focus (intro _ _; go_simp; with_reducible rfl)); simp only [Act.put, List.setIfInBounds_toArray, List.set_cons_zero, List.set_cons_succ])
          | (apply text_call; (focus rfl); (focus (intro _ _; go_simp; exact ⟨rfl, rfl⟩)); (focus (intro _ _; with_reducible (exact HA.out _ (by (repeat' (first | (with_reducible exact Below.refl _ _) | (with_reducible refine Below.ext_mk ?_ ?_ _ _) | (with_reducible refine Below.alloc ?_ ?_ _) | (with_reducible refine Below.drew ?_) | (with_reducible refine Below.setCell ?_ ?_ _) | go_size)))))); simp only [Act.put, List.setIfInBounds_toArray, List.set_cons_zero, List.set_cons_succ])
          | (apply text_if; (focus (first | exact wanted_t rfl rfl | exact wanted_f rfl rfl | exact wanted_gt rfl rfl | exact wanted_gf rfl rfl)); (focus (intro hc _ _; (try simp only [Bool.and_eq_true, Bool.not_eq_true', Bool.true_and] at hc); go_simp; with_reducible rfl)); simp only [Act.put, List.setIfInBounds_toArray, List.set_cons_zero, List.set_cons_succ])
          | (apply text_if_call; (focus (first | exact wanted_t rfl rfl | exact wanted_f rfl rfl | exact wanted_gt rfl rfl | exact wanted_gf rfl rfl)); (focus (intro hc _ _; (try simp only [Bool.and_eq_true, Bool.not_eq_true', Bool.true_and] at hc); go_simp; exact ⟨rfl, rfl⟩)); (focus (intro hc _ _; with_reducible (exact HA.out _ (by (repeat' (first | (with_reducible exact Below.refl _ _) | (with_reducible refine Below.ext_mk ?_ ?_ _ _) | (with_reducible refine Below.alloc ?_ ?_ _) | (with_reducible refine Below.drew ?_) | (with_reducible refine Below.setCell ?_ ?_ _) | go_size)))))); simp only [Act.put, List.setIfInBounds_toArray, List.set_cons_zero, List.set_cons_succ]))
        refine text_nil (HF.out _ (fun mx dx => ?_))
        clear HF F
        go_upto_region 2 with (fail)
        refine wp_gen (fun U hU => ?_)
        have tU : Turn w U [vb] := by rw [hU]; exact (Turn.set_ vb i _ (by simp)).trans (Turn.of_below (Below.ext_mk (Below.refl _ _) (Nat.le_refl _) _ _))
        have bV := (PP.out.vblk.set_ i (.bool false)).ext mx dx
        rw [← hU] at bV
        clear hU
        obtain ⟨hg, hn, hi, AW, SC⟩ := HG.out
        have hgm := PP.out.mem hg
        have hbv := PP.out.bvb
        have nrb : rb ∉ [vb] := fun hm => by
          have ha := PP.out.aRow rb ro (by rw [hkf2.out])
          simp at hm ha
          exact ha.2.1 hm
        have c3U := tU.cell zb (by simp; exact hbv) c3
        have crU := tU.cell zr nrb cr
        have hUs := tU.size
        have zbU : b < U.heap.size := by omega
        have zrU : rb < U.heap.size := by omega
        have bg := tU.blk (PP.out.each i g ns hg hn) (by simp; exact hgm.2.2)
        obtain ⟨W, r1, b1, t1⟩ := clear_nums U 0 g ns.length ns bg
        have R1 := hid r1
        have t1v := hid t1
        have HB := hid (And.intro bV (And.intro b1 (And.intro (tU.weak (by simp) : Turn w U [vb, g]) (t1.weak (by simp) : Turn U W [vb, g]))))
        clear hg hn hi AW SC hgm hbv nrb tU bg r1 b1 t1 bV
        refine wp_region_doc (fun F' hF => ?_)
        have HF := hid hF
        clear hF
        iterate 7 (refine doc_val rfl (by first | (go_simp; done) | (go_simp; exact ⟨rfl, rfl⟩) | (go_simp; with_reducible rfl)) ?_; simp only [Act.put, List.setIfInBounds_toArray, List.set_cons_zero, List.set_cons_succ])
        refine doc_val rfl (run_clear_op _ _ _ _ _ _ _ R1.out) ?_
        simp only [Act.put, List.setIfInBounds_toArray, List.set_cons_zero, List.set_cons_succ]
        refine doc_end (HF.out _ _ ?_)
        clear HF F'
        go_wp2
        go_returns
        obtain ⟨hg, hn, hi, AW, SC⟩ := HG.out
        obtain ⟨bV, b1, t0, t1⟩ := HB.out
        have tW := t0.trans t1
        have hgm := PP.out.mem hg
        refine ⟨rfl, tW.weak (fun q hq => by simp at hq; rcases hq with rfl | rfl; simp; simp [List.mem_of_getElem? hg]), ?_⟩
        rw [EG.out]
        refine ⟨k, PP.out.turn tW (fun q hq => by simp at hq; rcases hq with rfl | rfl; simp; simp [List.mem_of_getElem? hg]) ⟨rfl, rfl, rfl, rfl⟩ (tW.blk PP.out.blk (by simp; exact ⟨PP.out.bvb, fun e => hgm.2.1 e.symm⟩)) (by simp) ?_ (set_lengths hn (by simp)) (fun i' g' ns' hg' hn' => ?_), AW, SC⟩
        · have h1 : bools (S.va.set i false) = (bools S.va).set i (.bool false) := by unfold bools; rw [List.map_set]
          rw [h1]
          exact (t1v.out).blk bV (by simp; exact fun e => hgm.2.2 e.symm)
        · rw [List.getElem?_set] at hn'
          by_cases e : i = i'
          · subst e
            rw [if_pos rfl, if_pos hi] at hn'
            cases hn'
            rw [hg] at hg'
            cases hg'
            exact b1
          · rw [if_neg e] at hn'
            have hgm' := PP.out.mem hg'
            exact tW.blk (PP.out.each i' g' ns' hg' hn') (by simp; exact ⟨hgm'.2.2, fun q => e (PP.out.inj hg (q ▸ hg'))⟩)
      · go_enter Try.func24, Try.ntmps24
        go_upto_region 0 with (fail)
        refine wp_region_seq (fun F hF => ?_)
        have HF := hid hF; clear hF
        repeat (first
          | (apply text_skip; (focus rfl); simp only [Act.put, List.setIfInBounds_toArray, List.set_cons_zero, List.set_cons_succ])
          | (apply text_val; (focus rfl); (focus (intro _ _; go_simp; with_reducible rfl)); simp only [Act.put, List.setIfInBounds_toArray, List.set_cons_zero, List.set_cons_succ])
          | (apply text_call; (focus rfl); (focus (intro _ _; go_simp; exact ⟨rfl, rfl⟩)); (focus (intro _ _; with_reducible (exact HA.out _ (by (repeat' (first | (with_reducible exact Below.refl _ _) | (with_reducible refine Below.ext_mk ?_ ?_ _ _) | (with_reducible refine Below.alloc ?_ ?_ _) | (with_reducible refine Below.drew ?_) | (with_reducible refine Below.setCell ?_ ?_ _) | go_size)))))); simp only [Act.put, List.setIfInBounds_toArray, List.set_cons_zero, List.set_cons_succ])
          | (apply text_if; (focus (first | exact wanted_t rfl rfl | exact wanted_f rfl rfl | exact wanted_gt rfl rfl | exact wanted_gf rfl rfl)); (focus (intro hc _ _; (try simp only [Bool.and_eq_true, Bool.not_eq_true', Bool.true_and] at hc); go_simp; with_reducible rfl)); simp only [Act.put, List.setIfInBounds_toArray, List.set_cons_zero, List.set_cons_succ])
          | (apply text_if_call; (focus (first | exact wanted_t rfl rfl | exact wanted_f rfl rfl | exact wanted_gt rfl rfl | exact wanted_gf rfl rfl)); (focus (intro hc _ _; (try simp only [Bool.and_eq_true, Bool.not_eq_true', Bool.true_and] at hc); go_simp; exact ⟨rfl, rfl⟩)); (focus (intro hc _ _; with_reducible (exact HA.out _ (by (repeat' (first | (with_reducible exact Below.refl _ _) | (with_reducible refine Below.ext_mk ?_ ?_ _ _) | (with_reducible refine Below.alloc ?_ ?_ _) | (with_reducible refine Below.drew ?_) | (with_reducible refine Below.setCell ?_ ?_ _) | go_size)))))); simp only [Act.put, List.setIfInBounds_toArray, List.set_cons_zero, List.set_cons_succ]))
        refine text_nil (HF.out _ (fun mx dx => ?_))
        clear HF F
        go_upto_region 2 with (fail)
        refine wp_gen (fun U hU => ?_)
        have tU : Turn w U [vb] := by rw [hU]; exact (Turn.set_ vb i _ (by simp)).trans (Turn.of_below (Below.ext_mk (Below.refl _ _) (Nat.le_refl _) _ _))
        have bV := (PP.out.vblk.set_ i (.bool true)).ext mx dx
        rw [← hU] at bV
        clear hU
        obtain ⟨hg, hn, hi, AW, SC⟩ := HG.out
        have hgm := PP.out.mem hg
        have hbv := PP.out.bvb
        have nrb : rb ∉ [vb] := fun hm => by
          have ha := PP.out.aRow rb ro (by rw [hkf2.out])
          simp at hm ha
          exact ha.2.1 hm
        have c3U := tU.cell zb (by simp; exact hbv) c3
        have crU := tU.cell zr nrb cr
        have hUs := tU.size
        have zbU : b < U.heap.size := by omega
        have zrU : rb < U.heap.size := by omega
        have bg := tU.blk (PP.out.each i g ns hg hn) (by simp; exact hgm.2.2)
        obtain ⟨W, r1, b1, t1⟩ := clear_nums U 0 g ns.length ns bg
        have R1 := hid r1
        have t1v := hid t1
        have HB := hid (And.intro bV (And.intro b1 (And.intro (tU.weak (by simp) : Turn w U [vb, g]) (t1.weak (by simp) : Turn U W [vb, g]))))
        clear hg hn hi AW SC hgm hbv nrb tU bg r1 b1 t1 bV
        refine wp_region_doc (fun F' hF => ?_)
        have HF := hid hF
        clear hF
        iterate 7 (refine doc_val rfl (by first | (go_simp; done) | (go_simp; exact ⟨rfl, rfl⟩) | (go_simp; with_reducible rfl)) ?_; simp only [Act.put, List.setIfInBounds_toArray, List.set_cons_zero, List.set_cons_succ])
        refine doc_val rfl (run_clear_op _ _ _ _ _ _ _ R1.out) ?_
        simp only [Act.put, List.setIfInBounds_toArray, List.set_cons_zero, List.set_cons_succ]
        refine doc_end (HF.out _ _ ?_)
        clear HF F'
        go_wp2
        go_returns
        obtain ⟨hg, hn, hi, AW, SC⟩ := HG.out
        obtain ⟨bV, b1, t0, t1⟩ := HB.out
        have tW := t0.trans t1
        have hgm := PP.out.mem hg
        refine ⟨rfl, tW.weak (fun q hq => by simp at hq; rcases hq with rfl | rfl; simp; simp [List.mem_of_getElem? hg]), ?_⟩
        rw [EG.out]
        refine ⟨k, PP.out.turn tW (fun q hq => by simp at hq; rcases hq with rfl | rfl; simp; simp [List.mem_of_getElem? hg]) ⟨rfl, rfl, rfl, rfl⟩ (tW.blk PP.out.blk (by simp; exact ⟨PP.out.bvb, fun e => hgm.2.1 e.symm⟩)) (by simp) ?_ (set_lengths hn (by simp)) (fun i' g' ns' hg' hn' => ?_), AW, SC⟩
        · have h1 : bools (S.va.set i true) = (bools S.va).set i (.bool true) := by unfold bools; rw [List.map_set]
          rw [h1]
          exact (t1v.out).blk bV (by simp; exact fun e => hgm.2.2 e.symm)
        · rw [List.getElem?_set] at hn'
          by_cases e : i = i'
          · subst e
            rw [if_pos rfl, if_pos hi] at hn'
            cases hn'
            rw [hg] at hg'
            cases hg'
            exact b1
          · rw [if_neg e] at hn'
            have hgm' := PP.out.mem hg'
            exact tW.blk (PP.out.each i' g' ns' hg' hn') (by simp; exact ⟨hgm'.2.2, fun q => e (PP.out.inj hg (q ▸ hg'))⟩)
  · have hbf : hasB k h = false := by
      rw [hHB]
      by_cases q0 : 0 ≤ h
      · have q1 : ¬ h < (S.va.length : Int) := fun q => hh ⟨q0, q⟩
        simp [q1]
      · simp [q0]
    have eg : S.on h on = S := by unfold PD.on; rw [if_neg (fun q => hh ⟨q.1, q.2.1⟩)]
    rw [eg]
    exact (valid_no h on (fun W hb => by have := has_any (P.blk.below hb) h; rw [hbf] at this; exact this) rfl).mono fun e w' hp => same hp
end
end Go.Proofs.Ytkblldmpdihamaa
