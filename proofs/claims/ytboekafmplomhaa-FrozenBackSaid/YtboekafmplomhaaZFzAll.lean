/-
  Package frozen: the reader's top and all.
-/
import Derived.Test.YtboekafmplomhaaZFzAllP
set_option linter.unusedVariables false
set_option linter.unusedSimpArgs false
namespace Go.Proofs.Ytboekafmplomhaa
open Go.RowKit

theorem RowIs.neE {w : World} {sv sv' : Value} {g g' : Nat} {e e' : TypeId} {s s' n n' : Nat} {xs xs' : List Value} (h : RowIs w sv (some g) e s n xs) (h' : RowIs w sv' (some g') e' s' n' xs') (he : e ≠ e') : g ≠ g' := by
  obtain ⟨_, ⟨_, _, q⟩ | ⟨k, cap, cur, _, q, r, _⟩⟩ := h
  · cases q
  · obtain ⟨_, ⟨_, _, q'⟩ | ⟨k', cap', cur', _, q', r', _⟩⟩ := h'
    · cases q'
    · cases q
      cases q'
      intro e
      subst e
      rw [r] at r'
      injection r' with r'
      injection r' with _ r2 _
      exact he r2
/-- The reader in memory. -/
structure Rdr (B : Nat) (w : World) (R b off n c : Nat) (l : List Nat) (j : Nat) (bad : Bool) (ns : List Nd) (rs : List Int) (nv rv : Value) (G1 G2 : Option Nat) : Prop where
  cur : CurS w b off n c l
  blk : Blk w R 150 [curV b off n c j, .bool bad, nv, rv]
  nrow : RowIs w nv G1 39 3 ns.length (flat ns)
  rrow : RowIs w rv G2 3 1 rs.length (ints rs)
  hj : j ≤ n
  bB : b < B
  RB : B ≤ R
  g1 : ∀ g, G1 = some g → B ≤ g ∧ g ≠ R
  g2 : ∀ g, G2 = some g → B ≤ g ∧ g ≠ R
section
variable {B : Nat} {w w' : World} {R b off n c j j' : Nat} {l : List Nat} {bad bad' : Bool} {ns : List Nd} {rs : List Int} {nv rv : Value} {G1 G2 : Option Nat}
theorem Rdr.bR (h : Rdr B w R b off n c l j bad ns rs nv rv G1 G2) : b ≠ R := by have := h.bB; have := h.RB; omega
theorem Rdr.below (h : Rdr B w R b off n c l j bad ns rs nv rv G1 G2) (hb : Below w.heap.size w w') : Rdr B w' R b off n c l j bad ns rs nv rv G1 G2 :=
  { h with
    cur := h.cur.keep (hb.block _ h.cur.lt) (Nat.lt_of_lt_of_le h.cur.lt hb.size)
    blk := h.blk.below hb
    nrow := RowIs.keep h.nrow (fun g hg => hb.block g (RowIs.lt h.nrow g hg))
    rrow := RowIs.keep h.rrow (fun g hg => hb.block g (RowIs.lt h.rrow g hg)) }
theorem Rdr.move (h : Rdr B w R b off n c l j bad ns rs nv rv G1 G2) (hj : j' ≤ n) : Rdr B (w.setRow R (curV b off n c j' :: .bool bad' :: [nv, rv]).toArray) R b off n c l j' bad' ns rs nv rv G1 G2 :=
  { h with
    cur := h.cur.keep (heap_setRow_ne _ (fun q => h.bR q.symm)) (by simpa [World.setRow] using h.cur.lt)
    blk := h.blk.row _
    nrow := RowIs.keep h.nrow (fun g hg => heap_setRow_ne _ (fun q => (h.g1 g hg).2 q.symm))
    rrow := RowIs.keep h.rrow (fun g hg => heap_setRow_ne _ (fun q => (h.g2 g hg).2 q.symm))
    hj := hj }
theorem Rdr.far (h : Rdr B w R b off n c l j bad ns rs nv rv G1 G2) {Bx : Nat} (hR : Bx ≠ R) (hb : Bx ≠ b) (h1 : ∀ g, G1 = some g → g ≠ Bx) (h2 : ∀ g, G2 = some g → g ≠ Bx) (i : Nat) (v : Value) : Rdr B (w.setCell ⟨Bx, i, none⟩ v) R b off n c l j bad ns rs nv rv G1 G2 :=
  { h with
    cur := h.cur.keep (Below.heap_setCell _ _ _ _ (fun e => hb e.symm)) (by simpa using h.cur.lt)
    blk := h.blk.far hR i v
    nrow := RowIs.keep h.nrow (fun g hg => Below.heap_setCell _ _ _ _ (h1 g hg))
    rrow := RowIs.keep h.rrow (fun g hg => Below.heap_setCell _ _ _ _ (h2 g hg)) }
theorem Rdr.gg (h : Rdr B w R b off n c l j bad ns rs nv rv G1 G2) : ∀ g g', G1 = some g → G2 = some g' → g ≠ g' := fun g g' h1 h2 => by
  have r1 := h.nrow
  have r2 := h.rrow
  rw [h1] at r1
  rw [h2] at r2
  exact RowIs.neE r1 r2 (by decide)
theorem Rdr.node (h : Rdr B w R b off n c l j bad ns rs nv rv G1 G2) {w1 : World} {v' : Value} {G' : Nat} {ms : List Nd} (r : RowIs w1 v' (some G') 39 3 ms.length (flat ms)) (hg : G1 = some G' ∨ w.heap.size ≤ G')
    (st : StoStep w w1 G1.toList [G']) (hB : B ≤ w.heap.size) : Rdr B (w1.setCell ⟨R, 2, none⟩ v') R b off n c l j bad ms rs v' rv (some G') G2 ∧ Below B w (w1.setCell ⟨R, 2, none⟩ v') := by
  have hz := h.blk.lt
  have kb : w1.heap[b]? = w.heap[b]? := st.block b h.cur.lt (fun hm => by have := h.g1 b (by simpa using hm); have := h.bB; omega)
  have kR : w1.heap[R]? = w.heap[R]? := st.block R hz (fun hm => (h.g1 R (by simpa using hm)).2 rfl)
  have hG : B ≤ G' ∧ G' ≠ R := by
    rcases hg with e | e
    · exact h.g1 _ e
    · omega
  have bl := (h.blk.keep kR).set_ 2 v'
  refine ⟨{ cur := (h.cur.keep kb (Nat.lt_of_lt_of_le h.cur.lt st.size)).keep (Below.heap_setCell _ _ _ _ h.bR) (by simpa using Nat.lt_of_lt_of_le h.cur.lt st.size)
            blk := bl, nrow := RowIs.keep r (fun g hg => by cases hg; exact Below.heap_setCell _ _ _ _ hG.2)
            rrow := RowIs.keep h.rrow (fun g hg2 => by
              have hn : g ∉ G1.toList := fun hm => h.gg g g (by simpa using hm) hg2 rfl
              have hlt := RowIs.lt h.rrow g hg2
              exact (Below.heap_setCell _ _ _ _ (h.g2 g hg2).2).trans (st.block g hlt hn))
            hj := h.hj, bB := h.bB, RB := h.RB, g1 := fun g hg => by cases hg; exact hG, g2 := h.g2 }, ?_⟩
  exact (st.below (fun k hk => (h.g1 k (by simpa using hk)).1) hB).setCell (p := ⟨R, 2, none⟩) h.RB v'
theorem Rdr.root (h : Rdr B w R b off n c l j bad ns rs nv rv G1 G2) {w1 : World} {v' : Value} {G' : Nat} {ms : List Int} (r : RowIs w1 v' (some G') 3 1 ms.length (ints ms)) (hg : G2 = some G' ∨ w.heap.size ≤ G')
    (st : StoStep w w1 G2.toList [G']) (hB : B ≤ w.heap.size) : Rdr B (w1.setCell ⟨R, 3, none⟩ v') R b off n c l j bad ns ms nv v' G1 (some G') ∧ Below B w (w1.setCell ⟨R, 3, none⟩ v') := by
  have hz := h.blk.lt
  have kb : w1.heap[b]? = w.heap[b]? := st.block b h.cur.lt (fun hm => by have := h.g2 b (by simpa using hm); have := h.bB; omega)
  have kR : w1.heap[R]? = w.heap[R]? := st.block R hz (fun hm => (h.g2 R (by simpa using hm)).2 rfl)
  have hG : B ≤ G' ∧ G' ≠ R := by
    rcases hg with e | e
    · exact h.g2 _ e
    · omega
  have bl := (h.blk.keep kR).set_ 3 v'
  refine ⟨{ cur := (h.cur.keep kb (Nat.lt_of_lt_of_le h.cur.lt st.size)).keep (Below.heap_setCell _ _ _ _ h.bR) (by simpa using Nat.lt_of_lt_of_le h.cur.lt st.size)
            blk := bl, rrow := RowIs.keep r (fun g hg => by cases hg; exact Below.heap_setCell _ _ _ _ hG.2)
            nrow := RowIs.keep h.nrow (fun g hg2 => by
              have hn : g ∉ G2.toList := fun hm => h.gg g g hg2 (by simpa using hm) rfl
              have hlt := RowIs.lt h.nrow g hg2
              exact (Below.heap_setCell _ _ _ _ (h.g1 g hg2).2).trans (st.block g hlt hn))
            hj := h.hj, bB := h.bB, RB := h.RB, g2 := fun g hg => by cases hg; exact hG, g1 := h.g1 }, ?_⟩
  exact (st.below (fun k hk => (h.g2 k (by simpa using hk)).1) hB).setCell (p := ⟨R, 3, none⟩) h.RB v'
theorem topR_int (ns : List Nd) (a : Nat) (h : ∀ x ∈ ns, 0 ≤ x.1 ∧ x.1 < 64) : 0 ≤ topR ns a ∧ topR ns a ≤ 64 := by
  unfold topR
  split
  · omega
  · cases e : ns[a - 2]? with
    | none => simp
    | some x =>
      have := h x (List.mem_of_getElem? e)
      simp only [Option.getD_some]
      omega
set_option maxHeartbeats 4000000 in
theorem top_at (h : Rdr B w R b off n c l j bad ns rs nv rv G1 G2) {a : Nat} (ha : a < ns.length + 2) (hn : ns.length ≤ 8388608) :
    Calls Try.prog 148 #[.pointer (some ⟨R, 0, none⟩), .int .i64 a] w (Pure (.int .i64 (topR ns a)) w) := by
  have c2 := h.blk.cell 2
  have z := h.blk.lt
  simp only [List.getElem?_cons_zero, List.getElem?_cons_succ] at c2
  by_cases h2 : a < 2
  · have e : topR ns a = 64 := by unfold topR; rw [if_pos h2]
    rw [e]
    have h2' : (a : Int) < 2 := by omega
    clear e h
    go_enter Try.func148, Try.ntmps148
    go_wp2
    go_returns
    exact Pure.of rfl (by (repeat' (first | (with_reducible exact Below.refl _ _) | (with_reducible refine Below.ext_mk ?_ ?_ _ _) | (with_reducible refine Below.alloc ?_ ?_ _) | (with_reducible refine Below.drew ?_) | (with_reducible refine Below.setCell ?_ ?_ _) | go_size)))
  · have hx : ns[a - 2]? = some ns[a - 2] := List.getElem?_eq_getElem (by omega)
    have e : topR ns a = ns[a - 2].1 := by unfold topR; rw [if_neg h2, hx]; rfl
    rw [e]
    have hrd := RowIs.rd h.nrow
    obtain ⟨sa, sc, rfl, _⟩ := RowIs.form h.nrow
    obtain ⟨b', off', rfl, hb1, g0, _, _⟩ := Rd.nodeAt hrd hx
    generalize ns[a - 2] = x at *
    obtain ⟨i, hi⟩ : ∃ i, i = a - 2 := ⟨_, rfl⟩
    rw [← hi] at g0
    have h2' : ¬ (a : Int) < 2 := by omega
    have ws : IntKind.i64.wrap ((a : Int) - 2) = (i : Int) := by rw [IntWalk.i64_in _ (by omega)]; omega
    have hil : (i : Int) < (ns.length : Int) := by omega
    have HI := hid (And.intro hi ha)
    clear h hrd e hx hi ha
    go_enter Try.func148, Try.ntmps148
    go_wp2
    go_returns
    exact Pure.of rfl (by (repeat' (first | (with_reducible exact Below.refl _ _) | (with_reducible refine Below.ext_mk ?_ ?_ _ _) | (with_reducible refine Below.alloc ?_ ?_ _) | (with_reducible refine Below.drew ?_) | (with_reducible refine Below.setCell ?_ ?_ _) | go_size)))
def AllPost (B : Nat) (w : World) (R b off n c : Nat) (l : List Nat) (e : Ending) (w' : World) : Prop := Below B w w' ∧
  ((e = .returned (.bool false) ∧ parseV l = none) ∨ (∃ ns rs nv rv G1 G2 j, e = .returned (.bool true) ∧ parseV l = some (ns, rs) ∧ Rdr B w' R b off n c l j false ns rs nv rv G1 G2 ∧ ns.length ≤ 8388608 ∧ rs.length ≤ 64))
theorem AllPost.no (hb : Below B w w') (h : parseV l = none) : AllPost B w R b off n c l (.returned (.bool false)) w' := ⟨hb, .inl ⟨rfl, h⟩⟩
theorem AllPost.yes (hb : Below B w w') (h : parseV l = some (ns, rs)) (hr : Rdr B w' R b off n c l j false ns rs nv rv G1 G2) (h1 : ns.length ≤ 8388608) (h2 : rs.length ≤ 64) : AllPost B w R b off n c l (.returned (.bool true)) w' :=
  ⟨hb, .inr ⟨ns, rs, nv, rv, G1, G2, j, rfl, h, hr, h1, h2⟩⟩
set_option maxRecDepth 100000 in
set_option maxHeartbeats 16000000 in
theorem all_any (h : Rdr B w R b off n c l 0 false [] [] (.slice none 0 0) (.slice none 0 0) none none) (hB : B ≤ w.heap.size) :
    Calls Try.prog 127 #[.pointer (some ⟨R, 0, none⟩)] w (AllPost B w R b off n c l) := by
  have hln := h.cur.len
  have C0 := hid (number_at h.cur h.blk h.hj h.bR 8388608 (by omega))
  have M0 := hid (h.move (bad' := (numT l 8388608 0 false).2.2) (by have := numT_le l 8388608 false (j := 0) (by omega); omega : (numT l 8388608 0 false).2.1 ≤ n))
  have R0 := hid (numT_rel l 8388608 0 (by omega))
  have H := hid h
  have hmx := h.cur.max
  have hRB := h.RB
  generalize numT l 8388608 0 false = t0 at *
  obtain ⟨m0, j0, b0⟩ := t0
  simp only at C0 M0 R0
  obtain ⟨W0, hW0⟩ : ∃ W, W = w.setRow R (curV b off n c j0 :: .bool b0 :: [.slice none 0 0, .slice none 0 0]).toArray := ⟨_, rfl⟩
  rw [← hW0] at C0 M0
  have B0 := hid (show Below B w W0 by rw [hW0]; exact Below.setRow (Below.refl _ _) h.RB _)
  clear h hW0
  go_enter Try.func127, Try.ntmps127
  go_upto_region 1 with (fail)
  refine wp_region_doc (fun F' hF => ?_)
  have HF := hid hF
  clear hF
  iterate 3 (refine doc_val rfl (by first | (go_simp; done) | (go_simp; exact ⟨rfl, rfl⟩) | (go_simp; with_reducible rfl)) ?_; simp only [Act.put, List.setIfInBounds_toArray, List.set_cons_zero, List.set_cons_succ])
  refine doc_call rfl (by first | (go_simp; done) | (go_simp; exact ⟨rfl, rfl⟩) | (go_simp; with_reducible rfl)) ((C0.out).mono ?_)
  rintro _ _ ⟨rfl, rfl⟩
  refine ⟨_, rfl, ?_⟩
  simp only [Act.put, List.setIfInBounds_toArray, List.set_cons_zero, List.set_cons_succ]
  refine doc_val rfl (by first | (go_simp; done) | (go_simp; exact ⟨rfl, rfl⟩) | (go_simp; with_reducible rfl)) ?_
  simp only [Act.put, List.setIfInBounds_toArray, List.set_cons_zero, List.set_cons_succ]
  refine doc_end (HF.out _ _ ?_)
  clear HF F' C0
  go_wp2_with fail
  go_loopw [3] (fun mv wr => ∃ (m j : Nat) (bad : Bool) (ns : List Nd) (nv : Value) (G1 : Option Nat), mv = .int .i64 m ∧ Rdr B wr R b off n c l j bad ns [] nv (.slice none 0 0) G1 none ∧ Below B w wr ∧ ns.length + m ≤ 8388608 ∧
      (bad = false → parse1 m ns (l.drop j) = parseV l) ∧ (bad = true → m = 0 ∧ parseV l = none)) (fun mv _ => (intOf mv).toNat)
  case atStart =>
    refine ⟨m0, j0, b0, [], _, _, rfl, M0.out, B0.out, ?_, ?_, ?_⟩
    · rcases R0.out with ⟨_, _, h3⟩ | ⟨a, j2, _, h2, h3⟩
      · have h3' : m0 = 0 := h3
        rw [h3']; simp
      · cases h3
        have := (numV_len h2).2
        simp; omega
    · intro hb
      subst hb
      rcases R0.out with ⟨_, h3, _⟩ | ⟨a, j2, _, h2, h3⟩
      · cases h3
      · cases h3
        rw [parseV_eq]
        rw [List.drop_zero] at h2
        rw [h2]
    · intro hb
      subst hb
      rcases R0.out with ⟨h1, h2, h3⟩ | ⟨a, j2, _, h2, h3⟩
      · refine ⟨h3, ?_⟩
        rw [parseV_eq]
        rw [List.drop_zero] at h1
        rw [h1]
      · cases h3
  case round =>
    obtain ⟨m, j, bad, ns, nv, G1, rfl, hR, hb, hlen, hgood, hbad⟩ := hrel
    have HR := hid hR
    have HB := hid hb
    have HG := hid hgood
    have HBAD := hid hbad
    have d0 := hR.blk.cell 0
    have d1 := hR.blk.cell 1
    have d2 := hR.blk.cell 2
    have d3 := hR.blk.cell 3
    have z := hR.blk.lt
    simp only [List.getElem?_cons_zero, List.getElem?_cons_succ] at d0 d1 d2 d3
    clear hR hb hgood hbad M0 B0 R0
    by_cases hm : m = 0 ∨ bad = true
    · have hm0 : m = 0 := hm.elim id (fun q => (HBAD.out q).1)
      subst hm0
      have hz0 : ¬ (0 : Int) < ((0 : Nat) : Int) := by omega
      have C1 := hid (number_at HR.out.cur HR.out.blk HR.out.hj HR.out.bR 65 (by omega))
      have hO := numT_le l 65 bad (show j ≤ l.length by have := HR.out.hj; have := HR.out.cur.len; omega)
      have M1 := hid (HR.out.move (bad' := (numT l 65 j bad).2.2) (by have := HR.out.cur.len; omega : (numT l 65 j bad).2.1 ≤ n))
      have INIT : (numT l 65 j bad).1 ≤ 64 ∧ ((numT l 65 j bad).2.2 = false → parse2 ns (numT l 65 j bad).1 [] (l.drop (numT l 65 j bad).2.1) = parseV l) ∧ ((numT l 65 j bad).2.2 = true → parseV l = none) := by
        cases bad with
        | true =>
          obtain ⟨h1, h2⟩ := numT_true l 65 j
          rw [h1, h2]
          exact ⟨by omega, fun h => (by cases h), fun _ => (HBAD.out (by first | rfl | trivial)).2⟩
        | false =>
          have hg := HG.out (by first | rfl | trivial)
          rw [parse1_zero, tailV_eq] at hg
          rcases numT_rel l 65 j (by have := HR.out.hj; have := HR.out.cur.len; omega) with ⟨h1, h2, h3⟩ | ⟨a, k, hk, h1, h2⟩
          · rw [h1] at hg
            rw [h2, h3]
            exact ⟨by omega, fun h => (by cases h), fun _ => hg.symm⟩
          · rw [h1] at hg
            rw [h2]
            have := (numV_len h1).2
            exact ⟨by show a ≤ 64; omega, fun _ => hg, fun h => (by cases h)⟩
      have INIT := hid INIT
      generalize numT l 65 j bad = t1 at *
      obtain ⟨m1, j1, b1⟩ := t1
      simp only at C1 M1 INIT hO
      obtain ⟨W1, hW1⟩ : ∃ W, W = wr.setRow R (curV b off n c j1 :: .bool b1 :: [nv, .slice none 0 0]).toArray := ⟨_, rfl⟩
      rw [← hW1] at C1 M1
      have B1 := hid (HB.out.trans (show Below B wr W1 by rw [hW1]; exact Below.setRow (Below.refl _ _) hRB _))
      clear hW1 hm HG HBAD d0 d1 d2 d3 z
      go_upto_region 10 with (fail)
      refine wp_region_doc (fun F' hF => ?_)
      have HF := hid hF
      clear hF
      iterate 3 (refine doc_val rfl (by first | (go_simp; done) | (go_simp; exact ⟨rfl, rfl⟩) | (go_simp; with_reducible rfl)) ?_; simp only [Act.put, List.setIfInBounds_toArray, List.set_cons_zero, List.set_cons_succ])
      refine doc_call rfl (by first | (go_simp; done) | (go_simp; exact ⟨rfl, rfl⟩) | (go_simp; with_reducible rfl)) ((C1.out).mono ?_)
      rintro _ _ ⟨rfl, rfl⟩
      refine ⟨_, rfl, ?_⟩
      simp only [Act.put, List.setIfInBounds_toArray, List.set_cons_zero, List.set_cons_succ]
      refine doc_val rfl (by first | (go_simp; done) | (go_simp; exact ⟨rfl, rfl⟩) | (go_simp; with_reducible rfl)) ?_
      simp only [Act.put, List.setIfInBounds_toArray, List.set_cons_zero, List.set_cons_succ]
      refine doc_end (HF.out _ _ ?_)
      clear HF F' C1 HR HB
      go_wp2_with fail
      go_loopw [5] (fun mv wr => ∃ (m j : Nat) (bad : Bool) (rs : List Int) (rv : Value) (G2 : Option Nat), mv = .int .i64 m ∧ Rdr B wr R b off n c l j bad ns rs nv rv G1 G2 ∧ Below B w wr ∧ rs.length + m ≤ 64 ∧
        (bad = false → parse2 ns m rs (l.drop j) = parseV l) ∧ (bad = true → parseV l = none)) (fun mv _ => (intOf mv).toNat)
      case atStart => exact ⟨m1, j1, b1, [], _, _, rfl, M1.out, B1.out, by have := INIT.out.1; simp; omega, INIT.out.2.1, INIT.out.2.2⟩
      case round =>
        obtain ⟨m, j, bad, rs, rv, G2, rfl, hR, hb, hlen2, hgood, hbad⟩ := hrel
        obtain ⟨sa, sc, rfl, _⟩ := RowIs.form hR.nrow
        obtain ⟨ra, rc, rfl, _⟩ := RowIs.form hR.rrow
        have HR := hid hR
        have HB := hid hb
        have HG := hid hgood
        have HBAD := hid hbad
        have d0 := hR.blk.cell 0
        have d1 := hR.blk.cell 1
        have d2 := hR.blk.cell 2
        have d3 := hR.blk.cell 3
        have z := hR.blk.lt
        simp only [List.getElem?_cons_zero, List.getElem?_cons_succ] at d0 d1 d2 d3
        unfold curV at d0
        clear hR hb hgood hbad M1 B1 INIT
        cases bad
        · by_cases hm : m = 0
          · subst hm
            have hz0 : ¬ (0 : Int) < ((0 : Nat) : Int) := by omega
            have hg := HG.out (by first | rfl | trivial)
            rw [parse2_zero] at hg
            by_cases hjn : j = n
            · rw [if_pos (List.drop_eq_nil_of_le (by omega))] at hg
              have hg := hid hg
              have e0 : n - j = 0 := by omega
              rw [e0] at d0
              clear HG HBAD hjn e0
              go_wp2
              go_returns
              exact AllPost.yes HB.out hg.out.symm HR.out (by omega) (by omega)
            · have hne : ¬ l.drop j = [] := fun q => by
                have := congrArg List.length q
                simp at this
                have := HR.out.hj
                omega
              rw [if_neg hne] at hg
              have hg := hid hg
              have hj := HR.out.hj
              obtain ⟨k, hk⟩ : ∃ k, k = n - j := ⟨_, rfl⟩
              rw [← hk] at d0
              have e1 : ((k : Int) == 0) = false := beq_eq_false_iff_ne.2 (by omega)
              clear HG HBAD hjn hk hne hj
              go_wp2
              go_returns
              exact AllPost.no (HB.out) hg.out.symm
          · obtain ⟨m, rfl⟩ : ∃ k, m = k + 1 := ⟨m - 1, by omega⟩
            have hm1 : (0 : Int) < ((m + 1 : Nat) : Int) := by omega
            obtain ⟨nl, hnl⟩ : ∃ k, k = ns.length + 2 := ⟨_, rfl⟩
            have wl : IntKind.i64.wrap ((ns.length : Int) + 2) = (nl : Int) := by rw [IntWalk.i64_in _ (by omega)]; omega
            have HXd := HR.out.below (Below.drew (Below.refl _ wr))
            have C1 := number_at HXd.cur HXd.blk HXd.hj HXd.bR nl (by omega)
            have hjl : j ≤ l.length := by have := HR.out.hj; omega
            have hO := numT_le l nl false hjl
            have M1 := HXd.move (bad' := (numT l nl j false).2.2) (by omega : (numT l nl j false).2.1 ≤ n)
            have PR : True ∧ ((numT l nl j false).2.2 = false → parse2 ns m (rs ++ [((numT l nl j false).1 : Int)]) (l.drop (numT l nl j false).2.1) = parseV l) ∧ ((numT l nl j false).2.2 = true → parseV l = none) := by
              have hg := HG.out (by first | rfl | trivial)
              rw [parse2_more, ← hnl] at hg
              rcases numT_rel l nl j hjl with ⟨h1, h2, h3⟩ | ⟨a, k, hk, h1, h2⟩
              · rw [h1] at hg
                rw [h2]
                exact ⟨trivial, fun h => (by cases h), fun _ => hg.symm⟩
              · rw [h1] at hg
                rw [h2]
                exact ⟨trivial, fun _ => hg, fun h => (by cases h)⟩
            have PR := hid PR
            generalize numT l nl j false = t1 at *
            obtain ⟨y, j1, b1⟩ := t1
            simp only at C1 M1 PR hO
            obtain ⟨W1, hW1⟩ : ∃ W, W = wr.drew.setRow R (curV b off n c j1 :: .bool b1 :: [.slice sa ns.length sc, .slice ra rs.length rc]).toArray := ⟨_, rfl⟩
            rw [← hW1] at C1 M1
            have B1 := HB.out.trans (show Below B wr W1 by rw [hW1]; exact Below.setRow (Below.drew (Below.refl _ _)) hRB _)
            have hB1 : B ≤ W1.heap.size := Nat.le_trans hB B1.size
            obtain ⟨v', W3, G', g1, g2, g3, g4⟩ := int_one M1.rrow (by omega) (y : Int)
            obtain ⟨HN, BN⟩ := M1.root g2 g3 g4 hB1
            have c3 := M1.blk.cell 3
            have cz := M1.blk.lt
            simp only [List.getElem?_cons_zero, List.getElem?_cons_succ] at c3
            have kR : W3.heap[R]? = W1.heap[R]? := g4.block R cz (fun hm => (M1.g2 R (by simpa using hm)).2 rfl)
            have e3 := (cell_of_heap 3 kR).trans c3
            have f3 : W3.frozen? ⟨R, 3, none⟩ = false := (M1.blk.keep kR).free 3
            have fz : R < W3.heap.size := Nat.lt_of_lt_of_le cz g4.size
            have Q1 := hid g1
            have HN := hid HN
            have BN := hid (B1.trans BN)
            have C1 := hid C1
            obtain ⟨sb, sc', rfl, _⟩ := RowIs.form g2
            obtain ⟨nl2, hnl2⟩ : ∃ k, k = (rs ++ [(y : Int)]).length := ⟨_, rfl⟩
            rw [← hnl2] at Q1 HN BN
            clear hnl2 g1 g2 g3 g4 kR B1 hB1 M1 hW1 HXd HG HBAD d0
            go_upto_region 13 with (fail)
            refine wp_region_stage [14, 15, 16, 19] (fun i W => (i = 0 → W = wr.drew) ∧ (i = 1 → W = W1) ∧ (i = 2 → W = W1.alloc (.cells #[.int .i64 y] 3)) ∧ (i = 3 → W = W3) ∧ (i = 4 → W = W3.setCell ⟨R, 3, none⟩ (.slice sb nl2 sc'))) (by kernel_rfl) (by kernel_rfl) (by kernel_rfl) (by kernel_rfl) ⟨fun _ => rfl, fun h => by omega, fun h => by omega, fun h => by omega, fun h => by omega⟩ (fun F' hF' => ?_)
            have HF := hid hF'
            clear hF'
            iterate 4 (refine sg_any rfl rfl (fun _ => by go_simp; with_reducible rfl) ?_; simp only [Act.put, List.setIfInBounds_toArray, List.set_cons_zero, List.set_cons_succ])
            refine sg_read 0 2 rfl (by decide +kernel) (by decide +kernel) rfl (fun ii w' l' u hR => by
              rcases (show ii = 0 ∨ ii = 1 ∨ ii = 2 by omega) with rfl | rfl | rfl
              · rw [hR.1 rfl]; clear hR; first | (go_simp; done) | (go_simp; with_reducible rfl)
              · rw [hR.2.1 rfl]; clear hR; first | (go_simp; done) | (go_simp; with_reducible rfl)
              · rw [hR.2.2.1 rfl]; clear hR; first | (go_simp; done) | (go_simp; with_reducible rfl)) ?_
            simp only [Act.put, List.setIfInBounds_toArray, List.set_cons_zero, List.set_cons_succ]
            repeat (first
              | (apply sg_any; (focus rfl); (focus rfl); (focus (intro _; go_simp; with_reducible rfl)); simp only [Act.put, List.setIfInBounds_toArray, List.set_cons_zero, List.set_cons_succ])
              | (apply sg_read 0 0; (focus rfl); (focus (decide +kernel)); (focus (decide +kernel)); (focus rfl); (focus (intro ii w' l' u hR; rw [hR.1 (by omega)]; clear hR; go_simp; with_reducible rfl)); simp only [Act.put, List.setIfInBounds_toArray, List.set_cons_zero, List.set_cons_succ]))
            refine sg_turn_call 0 (v := .int .i64 y) (f := 146) (args := #[.pointer (some ⟨R, 0, none⟩), .int .i64 nl]) rfl rfl (fun _ => by first | (go_simp; done) | (go_simp; exact ⟨rfl, rfl⟩)) (fun W hR => by
              rw [hR.1 rfl]
              refine C1.out.mono ?_
              rintro e w' ⟨rfl, rfl⟩
              exact ⟨rfl, fun h => by omega, fun _ => rfl, fun h => by omega, fun h => by omega, fun h => by omega⟩) ?_
            simp only [Act.put, List.setIfInBounds_toArray, List.set_cons_zero, List.set_cons_succ]
            refine sg_turn 1 (v := .slice (some ⟨W1.heap.size, 0, none⟩) 1 1) rfl rfl (fun W hR => ⟨W1.alloc (.cells #[.int .i64 y] 3), by rw [hR.2.1 rfl]; clear hR; go_simp, fun h => by omega, fun h => by omega, fun _ => rfl, fun h => by omega, fun h => by omega⟩) ?_
            simp only [Act.put, List.setIfInBounds_toArray, List.set_cons_zero, List.set_cons_succ]
            refine sg_turn 2 (v := .slice sb nl2 sc') rfl rfl (fun W hR => ⟨W3, by rw [hR.2.2.1 rfl]; clear hR; exact run_append_op _ _ _ _ _ _ _ _ _ Q1.out, fun h => by omega, fun h => by omega, fun h => by omega, fun _ => rfl, fun h => by omega⟩) ?_
            simp only [Act.put, List.setIfInBounds_toArray, List.set_cons_zero, List.set_cons_succ]
            iterate 2 (refine sg_any rfl rfl (fun _ => by go_simp; with_reducible rfl) ?_; simp only [Act.put, List.setIfInBounds_toArray, List.set_cons_zero, List.set_cons_succ])
            refine sg_do 3 rfl rfl (fun W hR => ⟨W3.setCell ⟨R, 3, none⟩ (.slice sb nl2 sc'), by rw [hR.2.2.2.1 rfl]; clear hR; go_simp, fun h => by omega, fun h => by omega, fun h => by omega, fun h => by omega, fun _ => rfl⟩) ?_
            simp only [Act.put, List.setIfInBounds_toArray, List.set_cons_zero, List.set_cons_succ]
            refine sg_end (HF.out _ (fun w3 hR => ?_))
            obtain rfl := hR.2.2.2.2 rfl
            clear hR HF F' Q1 C1 c3 cz e3 f3 fz d1 d2 d3
            go_wp2_with fail
            go_roundw
            case rel =>
              refine ⟨m, j1, b1, rs ++ [(y : Int)], _, some G', by go_num, HN.out, BN.out, by simp; omega, PR.out.2.1, PR.out.2.2⟩
            case measure => first | (simp [intOf]; done) | (simp [intOf]; omega)
        · have hp := hid (HBAD.out (by first | rfl | trivial))
          clear HG HBAD
          by_cases hm : m = 0
          · subst hm
            have hz0 : ¬ (0 : Int) < ((0 : Nat) : Int) := by omega
            go_wp2
            go_returns
            exact AllPost.no (HB.out) hp.out
          · have hm1 : (0 : Int) < (m : Int) := by omega
            go_wp2
            go_returns
            exact AllPost.no (HB.out) hp.out
    · have hmb : bad = false := by
        cases bad
        · rfl
        · exact absurd (.inr rfl) hm
      subst hmb
      obtain ⟨m, rfl⟩ : ∃ k, m = k + 1 := ⟨m - 1, by have : m ≠ 0 := fun q => hm (.inl q); omega⟩
      have hm1 : (0 : Int) < ((m + 1 : Nat) : Int) := by omega
      have hO := oneT_le (l := l) (j := j) (bad := false) (by have := HR.out.hj; have := HR.out.cur.len; omega)
      have C1 := hid (one_at HR.out.cur HR.out.blk HR.out.hj HR.out.bR)
      have M1 := hid (HR.out.move (bad' := (oneT l j false).2.2) (by have := HR.out.cur.len; omega : (oneT l j false).2.1 ≤ n))
      obtain ⟨t1, ht1⟩ : ∃ t, t = oneT l j false := ⟨_, rfl⟩
      rw [← ht1] at C1 M1 hO
      have O1 := hid ht1
      obtain ⟨x, j1, b1⟩ := t1
      simp only at C1 M1 hO
      clear ht1 hm
      obtain ⟨W1, hW1⟩ : ∃ W, W = wr.setRow R (curV b off n c j1 :: .bool b1 :: [nv, .slice none 0 0]).toArray := ⟨_, rfl⟩
      rw [← hW1] at C1 M1
      have B1 := hid (show Below B wr W1 by rw [hW1]; exact Below.setRow (Below.refl _ _) hRB _)
      clear hW1
      go_upto_region 5 with ((with_reducible refine (C1.out).mono ?_); clear C1; rintro e w2 ⟨rfl, rfl⟩)
      refine wp_gen (fun X0 hX0 => ?_)
      have hbU : Below w2.heap.size w2 X0 := by rw [hX0]; (repeat' (first | (with_reducible exact Below.refl _ _) | (with_reducible refine Below.ext_mk ?_ ?_ _ _) | (with_reducible refine Below.alloc ?_ ?_ _) | (with_reducible refine Below.drew ?_) | (with_reducible refine Below.setCell ?_ ?_ _) | go_size))
      have bX0 : Blk X0 w2.heap.size 39 [.int .i64 x, .int .i64 0, .int .i64 0] := by rw [hX0]; exact World.heap_alloc_last w2 _
      obtain ⟨Bx, hBx⟩ : ∃ b, b = w2.heap.size := ⟨_, rfl⟩
      rw [← hBx] at bX0 ⊢
      have BX0 := hid (show Below B w X0 from (HB.out.trans B1.out).trans (hbU.mono (Nat.le_trans hB (Nat.le_trans HB.out.size B1.out.size))))
      obtain ⟨sa, sc, rfl, _⟩ := RowIs.form M1.out.nrow
      have nXR := hid (show True ∧ Bx ≠ R ∧ Bx ≠ b ∧ (∀ g, G1 = some g → g ≠ Bx) ∧ B ≤ Bx from
        ⟨trivial, by have := M1.out.blk.lt; omega, by have := M1.out.cur.lt; omega, fun g hg => by have := RowIs.lt M1.out.nrow g hg; omega, by have := Nat.le_trans hB (Nat.le_trans HB.out.size B1.out.size); omega⟩)
      have HX0 := hid (M1.out.below hbU)
      have bX0 := hid bX0
      obtain ⟨nl, hnl⟩ : ∃ k, k = ns.length + 2 := ⟨_, rfl⟩
      have wl : IntKind.i64.wrap ((ns.length : Int) + 2) = (nl : Int) := by rw [IntWalk.i64_in _ (by omega)]; omega
      have hnl2 : nl ≤ 9000000 := by omega
      have HNL := hid hnl
      clear hX0 hbU M1 B1 hBx d0 d1 d2 d3 z hnl
      have hj2 := numT_le l nl b1 (show j1 ≤ l.length by have := HX0.out.hj; have := HX0.out.cur.len; omega)
      have HXd := HX0.out.below (Below.drew (Below.refl _ X0))
      have bXd := bX0.out.below (Below.drew (Below.refl _ X0))
      have C2 := number_at HXd.cur HXd.blk HXd.hj HXd.bR nl (by omega)
      have M2 := HXd.move (bad' := (numT l nl j1 b1).2.2) (by have := HXd.cur.len; omega : (numT l nl j1 b1).2.1 ≤ n)
      have e2 := HXd.blk.cell 2
      have ez := HXd.blk.lt
      simp only [List.getElem?_cons_zero, List.getElem?_cons_succ] at e2
      obtain ⟨t2, ht2⟩ : ∃ t, t = numT l nl j1 b1 := ⟨_, rfl⟩
      rw [← ht2] at C2 M2 hj2
      have O2 := hid ht2
      obtain ⟨y2, j2, b2⟩ := t2
      simp only at C2 M2 hj2
      clear ht2
      obtain ⟨W2, hW2⟩ : ∃ W, W = X0.drew.setRow R (curV b off n c j2 :: .bool b2 :: [.slice sa ns.length sc, .slice none 0 0]).toArray := ⟨_, rfl⟩
      rw [← hW2] at C2 M2
      have bW2 := bXd.farRow nXR.out.2.1.symm (curV b off n c j2 :: .bool b2 :: [.slice sa ns.length sc, .slice none 0 0]).toArray
      rw [← hW2] at bW2
      have B2 := hid (show Below B w W2 by rw [hW2]; exact Below.setRow (Below.drew BX0.out) hRB _)
      have HX1 := hid (M2.far nXR.out.2.1 nXR.out.2.2.1 nXR.out.2.2.2.1 (fun g hg => by cases hg) 1 (.int .i64 y2))
      have bX1 := hid (bW2.set_ 1 (.int .i64 y2))
      have BX1 := hid (B2.out.setCell (p := ⟨Bx, 1, none⟩) nXR.out.2.2.2.2 (.int .i64 y2))
      have ff := bW2.free 1
      have zz := bW2.lt
      have cc := bW2.cell 1
      simp only [List.getElem?_cons_zero, List.getElem?_cons_succ] at cc
      have C2 := hid C2
      clear M2 bXd HXd bW2 hW2 B2
      refine wp_region_stage [9, 11] (fun i W => (i = 0 → W = X0.drew) ∧ (i = 1 → W = W2) ∧ (i = 2 → W = W2.setCell ⟨Bx, 1, none⟩ (.int .i64 y2))) (by kernel_rfl) (by kernel_rfl) (by kernel_rfl) (by kernel_rfl) ⟨fun _ => rfl, fun h => by omega, fun h => by omega⟩ (fun F' hF' => ?_)
      have HF := hid hF'
      clear hF'
      repeat (first
        | (apply sg_any; (focus rfl); (focus rfl); (focus (intro _; go_simp; with_reducible rfl)); simp only [Act.put, List.setIfInBounds_toArray, List.set_cons_zero, List.set_cons_succ])
        | (apply sg_read 0 0; (focus rfl); (focus (decide +kernel)); (focus (decide +kernel)); (focus rfl); (focus (intro ii w' l' u hR; rw [hR.1 (by omega)]; clear hR; go_simp; with_reducible rfl)); simp only [Act.put, List.setIfInBounds_toArray, List.set_cons_zero, List.set_cons_succ]))
      refine sg_turn_call 0 (v := .int .i64 y2) (f := 146) (args := #[.pointer (some ⟨R, 0, none⟩), .int .i64 nl]) rfl rfl (fun _ => by first | (go_simp; done) | (go_simp; exact ⟨rfl, rfl⟩)) (fun W hR => by
        rw [hR.1 rfl]
        refine C2.out.mono ?_
        rintro e w' ⟨rfl, rfl⟩
        exact ⟨rfl, fun h => by omega, fun _ => rfl, fun h => by omega⟩) ?_
      simp only [Act.put, List.setIfInBounds_toArray, List.set_cons_zero, List.set_cons_succ]
      refine sg_any rfl rfl (fun _ => by go_simp; with_reducible rfl) ?_
      simp only [Act.put, List.setIfInBounds_toArray, List.set_cons_zero, List.set_cons_succ]
      refine sg_do 1 rfl rfl (fun W hR => ⟨W2.setCell ⟨Bx, 1, none⟩ (.int .i64 y2), by rw [hR.2.1 rfl]; clear hR; go_simp, fun h => by omega, fun h => by omega, fun _ => rfl⟩) ?_
      simp only [Act.put, List.setIfInBounds_toArray, List.set_cons_zero, List.set_cons_succ]
      refine sg_end (HF.out _ (fun w3 hR => ?_))
      obtain rfl := hR.2.2 rfl
      clear hR HF F' C2 e2 ez ff zz cc
      go_upto_region 6 with (fail)
      refine wp_gen (fun X1 hX1 => ?_)
      rw [← hX1] at HX1 bX1 BX1
      simp only [List.set_cons_succ, List.set_cons_zero] at bX1
      clear hX1
      have hj3 := numT_le l nl b2 (show j2 ≤ l.length by have := HX1.out.hj; have := HX1.out.cur.len; omega)
      have HXd := HX1.out.below (Below.drew (Below.refl _ X1))
      have bXd := bX1.out.below (Below.drew (Below.refl _ X1))
      have C3 := number_at HXd.cur HXd.blk HXd.hj HXd.bR nl (by omega)
      have M3 := HXd.move (bad' := (numT l nl j2 b2).2.2) (by have := HXd.cur.len; omega : (numT l nl j2 b2).2.1 ≤ n)
      have e2 := HXd.blk.cell 2
      have ez := HXd.blk.lt
      simp only [List.getElem?_cons_zero, List.getElem?_cons_succ] at e2
      obtain ⟨t3, ht3⟩ : ∃ t, t = numT l nl j2 b2 := ⟨_, rfl⟩
      rw [← ht3] at C3 M3 hj3
      have O3 := hid ht3
      obtain ⟨y3, j3, b3⟩ := t3
      simp only at C3 M3 hj3
      clear ht3
      obtain ⟨W3, hW3⟩ : ∃ W, W = X1.drew.setRow R (curV b off n c j3 :: .bool b3 :: [.slice sa ns.length sc, .slice none 0 0]).toArray := ⟨_, rfl⟩
      rw [← hW3] at C3 M3
      have bW3 := bXd.farRow nXR.out.2.1.symm (curV b off n c j3 :: .bool b3 :: [.slice sa ns.length sc, .slice none 0 0]).toArray
      rw [← hW3] at bW3
      have B3 := hid (show Below B w W3 by rw [hW3]; exact Below.setRow (Below.drew BX1.out) hRB _)
      have HX2 := hid (M3.far nXR.out.2.1 nXR.out.2.2.1 nXR.out.2.2.2.1 (fun g hg => by cases hg) 2 (.int .i64 y3))
      have bX2 := hid (bW3.set_ 2 (.int .i64 y3))
      have BX2 := hid (B3.out.setCell (p := ⟨Bx, 2, none⟩) nXR.out.2.2.2.2 (.int .i64 y3))
      have ff := bW3.free 2
      have zz := bW3.lt
      have cc := bW3.cell 2
      simp only [List.getElem?_cons_zero, List.getElem?_cons_succ] at cc
      have C3 := hid C3
      clear M3 bXd HXd bW3 hW3 B3
      refine wp_region_stage [9, 11] (fun i W => (i = 0 → W = X1.drew) ∧ (i = 1 → W = W3) ∧ (i = 2 → W = W3.setCell ⟨Bx, 2, none⟩ (.int .i64 y3))) (by kernel_rfl) (by kernel_rfl) (by kernel_rfl) (by kernel_rfl) ⟨fun _ => rfl, fun h => by omega, fun h => by omega⟩ (fun F' hF' => ?_)
      have HF := hid hF'
      clear hF'
      repeat (first
        | (apply sg_any; (focus rfl); (focus rfl); (focus (intro _; go_simp; with_reducible rfl)); simp only [Act.put, List.setIfInBounds_toArray, List.set_cons_zero, List.set_cons_succ])
        | (apply sg_read 0 0; (focus rfl); (focus (decide +kernel)); (focus (decide +kernel)); (focus rfl); (focus (intro ii w' l' u hR; rw [hR.1 (by omega)]; clear hR; go_simp; with_reducible rfl)); simp only [Act.put, List.setIfInBounds_toArray, List.set_cons_zero, List.set_cons_succ]))
      refine sg_turn_call 0 (v := .int .i64 y3) (f := 146) (args := #[.pointer (some ⟨R, 0, none⟩), .int .i64 nl]) rfl rfl (fun _ => by first | (go_simp; done) | (go_simp; exact ⟨rfl, rfl⟩)) (fun W hR => by
        rw [hR.1 rfl]
        refine C3.out.mono ?_
        rintro e w' ⟨rfl, rfl⟩
        exact ⟨rfl, fun h => by omega, fun _ => rfl, fun h => by omega⟩) ?_
      simp only [Act.put, List.setIfInBounds_toArray, List.set_cons_zero, List.set_cons_succ]
      refine sg_any rfl rfl (fun _ => by go_simp; with_reducible rfl) ?_
      simp only [Act.put, List.setIfInBounds_toArray, List.set_cons_zero, List.set_cons_succ]
      refine sg_do 1 rfl rfl (fun W hR => ⟨W3.setCell ⟨Bx, 2, none⟩ (.int .i64 y3), by rw [hR.2.1 rfl]; clear hR; go_simp, fun h => by omega, fun h => by omega, fun _ => rfl⟩) ?_
      simp only [Act.put, List.setIfInBounds_toArray, List.set_cons_zero, List.set_cons_succ]
      refine sg_end (HF.out _ (fun w3 hR => ?_))
      obtain rfl := hR.2.2 rfl
      clear hR HF F' C3 e2 ez ff zz cc
      go_upto_region 7 with (fail)
      refine wp_gen (fun X2 hX2 => ?_)
      rw [← hX2] at HX2 bX2 BX2
      simp only [List.set_cons_succ, List.set_cons_zero] at bX2
      have hO3 := O3.out
      have hO2 := O2.out
      rw [HNL.out] at hO3 hO2
      obtain ⟨N1, N2⟩ := node_rel l ns m (by have := HR.out.hj; have := HR.out.cur.len; omega) O1.out hO2 hO3
      rw [HG.out (by first | rfl | trivial)] at N1 N2
      clear hX2 hO3 hO2 C2 C3 O1 O2 O3 HX0 HX1 bX0 bX1 BX0 BX1
      have hB2 : B ≤ X2.heap.size := Nat.le_trans hB BX2.out.size
      have q0 := bX2.out.cell 0
      have q1 := bX2.out.cell 1
      have q2 := bX2.out.cell 2
      have qz := bX2.out.lt
      have d1 := HX2.out.blk.cell 1
      have dz := HX2.out.blk.lt
      simp only [List.getElem?_cons_zero, List.getElem?_cons_succ] at q0 q1 q2 d1
      cases b3
      · obtain ⟨ly2, ly3, hxl, hpar⟩ := N2 rfl
        by_cases hyy : y2 = y3
        · have hy1 : ((y2 : Int) == (y3 : Int)) = true := by rw [hyy]; exact beq_self_eq_true _
          rw [if_pos (.inl hyy)] at hpar
          have HPAR := hid hpar
          clear N1 N2 hpar hyy
          refine wp_region_ext (by kernel_rfl) (by kernel_rfl) (fun F hF => ?_)
          have HF := hid hF; clear hF
          repeat (first
            | (apply text_skip; (focus rfl); simp only [Act.put, List.setIfInBounds_toArray, List.set_cons_zero, List.set_cons_succ])
            | (apply text_val; (focus rfl); (focus (intro _ _; go_simp; with_reducible rfl)); simp only [Act.put, List.setIfInBounds_toArray, List.set_cons_zero, List.set_cons_succ])
            | (apply text_if; (focus (first | exact wanted_t rfl rfl | exact wanted_f rfl rfl | exact wanted_gt rfl rfl | exact wanted_gf rfl rfl)); (focus (intro hc _ _; (try simp only [Bool.and_eq_true, Bool.not_eq_true', Bool.true_and] at hc); go_simp; with_reducible rfl)); simp only [Act.put, List.setIfInBounds_toArray, List.set_cons_zero, List.set_cons_succ]))
          refine text_nil (HF.out _ (fun mx dx => ?_))
          clear HF F
          go_wp2
          go_returns
          exact AllPost.no (Below.ext_mk BX2.out hB2 _ _) HPAR.out
        · have hy1 : ((y2 : Int) == (y3 : Int)) = false := beq_eq_false_iff_ne.2 (by omega)
          have T1 := hid (fun m d => top_at (HX2.out.below (Below.ext_mk (Below.refl _ _) (Nat.le_refl _) m d)) ly2 (by omega))
          have T2 := hid (fun m d => top_at (HX2.out.below (Below.ext_mk (Below.refl _ _) (Nat.le_refl _) m d)) ly3 (by omega))
          by_cases hmin : min 64 (min (topR ns y2) (topR ns y3)) ≤ (x : Int)
          · rw [if_pos (.inr hmin)] at hpar
            have HPAR := hid hpar
            clear N1 N2 hpar hyy
            generalize topR ns y2 = p2 at *
            generalize topR ns y3 = p3 at *
            obtain ⟨a1, hq1⟩ : ∃ a, (if p2 < 64 then p2 else 64) = a := ⟨_, rfl⟩
            obtain ⟨a2, hq2⟩ : ∃ a, (if p3 < a1 then p3 else a1) = a := ⟨_, rfl⟩
            have hmin2 : a2 ≤ (x : Int) := by
              rw [← hq2, ← hq1]
              split <;> split at * <;> omega
            clear hmin
            refine wp_region_ext (by kernel_rfl) (by kernel_rfl) (fun F hF => ?_)
            have HF := hid hF; clear hF
            repeat (first
              | (apply text_skip; (focus rfl); simp only [Act.put, List.setIfInBounds_toArray, List.set_cons_zero, List.set_cons_succ])
              | (apply text_val; (focus rfl); (focus (intro _ _; go_simp; with_reducible rfl)); simp only [Act.put, List.setIfInBounds_toArray, List.set_cons_zero, List.set_cons_succ])
              | (apply text_call; (focus rfl); (focus (intro _ _; go_simp; exact ⟨rfl, rfl⟩)); (focus (intro _ _; with_reducible (exact T1.out _ _))); simp only [Act.put, List.setIfInBounds_toArray, List.set_cons_zero, List.set_cons_succ])
              | (apply text_call; (focus rfl); (focus (intro _ _; go_simp; exact ⟨rfl, rfl⟩)); (focus (intro _ _; with_reducible (exact T2.out _ _))); simp only [Act.put, List.setIfInBounds_toArray, List.set_cons_zero, List.set_cons_succ])
              | (apply text_if; (focus (first | exact wanted_t rfl rfl | exact wanted_f rfl rfl | exact wanted_gt rfl rfl | exact wanted_gf rfl rfl)); (focus (intro hc _ _; (try simp only [Bool.and_eq_true, Bool.not_eq_true', Bool.true_and] at hc); go_simp; with_reducible rfl)); simp only [Act.put, List.setIfInBounds_toArray, List.set_cons_zero, List.set_cons_succ])
              | (apply text_if_call; (focus (first | exact wanted_t rfl rfl | exact wanted_f rfl rfl | exact wanted_gt rfl rfl | exact wanted_gf rfl rfl)); (focus (intro hc _ _; (try simp only [Bool.and_eq_true, Bool.not_eq_true', Bool.true_and] at hc); go_simp; exact ⟨rfl, rfl⟩)); (focus (intro hc _ _; with_reducible (exact T1.out _ _))); simp only [Act.put, List.setIfInBounds_toArray, List.set_cons_zero, List.set_cons_succ])
              | (apply text_if_call; (focus (first | exact wanted_t rfl rfl | exact wanted_f rfl rfl | exact wanted_gt rfl rfl | exact wanted_gf rfl rfl)); (focus (intro hc _ _; (try simp only [Bool.and_eq_true, Bool.not_eq_true', Bool.true_and] at hc); go_simp; exact ⟨rfl, rfl⟩)); (focus (intro hc _ _; with_reducible (exact T2.out _ _))); simp only [Act.put, List.setIfInBounds_toArray, List.set_cons_zero, List.set_cons_succ]))
            refine text_nil (HF.out _ (fun mx dx => ?_))
            clear HF F
            go_wp2
            go_returns
            exact AllPost.no (Below.ext_mk BX2.out hB2 _ _) HPAR.out
          · rw [if_neg (fun q => q.elim hyy hmin)] at hpar
            have HPAR := hid hpar
            clear N1 N2 hpar hyy
            generalize topR ns y2 = p2 at *
            generalize topR ns y3 = p3 at *
            obtain ⟨a1, hq1⟩ : ∃ a, (if p2 < 64 then p2 else 64) = a := ⟨_, rfl⟩
            obtain ⟨a2, hq2⟩ : ∃ a, (if p3 < a1 then p3 else a1) = a := ⟨_, rfl⟩
            have hmin2 : ¬ a2 ≤ (x : Int) := by
              rw [← hq2, ← hq1]
              split <;> split at * <;> omega
            clear hmin
            refine wp_region_ext (by kernel_rfl) (by kernel_rfl) (fun F hF => ?_)
            have HF := hid hF; clear hF
            repeat (first
              | (apply text_skip; (focus rfl); simp only [Act.put, List.setIfInBounds_toArray, List.set_cons_zero, List.set_cons_succ])
              | (apply text_val; (focus rfl); (focus (intro _ _; go_simp; with_reducible rfl)); simp only [Act.put, List.setIfInBounds_toArray, List.set_cons_zero, List.set_cons_succ])
              | (apply text_call; (focus rfl); (focus (intro _ _; go_simp; exact ⟨rfl, rfl⟩)); (focus (intro _ _; with_reducible (exact T1.out _ _))); simp only [Act.put, List.setIfInBounds_toArray, List.set_cons_zero, List.set_cons_succ])
              | (apply text_call; (focus rfl); (focus (intro _ _; go_simp; exact ⟨rfl, rfl⟩)); (focus (intro _ _; with_reducible (exact T2.out _ _))); simp only [Act.put, List.setIfInBounds_toArray, List.set_cons_zero, List.set_cons_succ])
              | (apply text_if; (focus (first | exact wanted_t rfl rfl | exact wanted_f rfl rfl | exact wanted_gt rfl rfl | exact wanted_gf rfl rfl)); (focus (intro hc _ _; (try simp only [Bool.and_eq_true, Bool.not_eq_true', Bool.true_and] at hc); go_simp; with_reducible rfl)); simp only [Act.put, List.setIfInBounds_toArray, List.set_cons_zero, List.set_cons_succ])
              | (apply text_if_call; (focus (first | exact wanted_t rfl rfl | exact wanted_f rfl rfl | exact wanted_gt rfl rfl | exact wanted_gf rfl rfl)); (focus (intro hc _ _; (try simp only [Bool.and_eq_true, Bool.not_eq_true', Bool.true_and] at hc); go_simp; exact ⟨rfl, rfl⟩)); (focus (intro hc _ _; with_reducible (exact T1.out _ _))); simp only [Act.put, List.setIfInBounds_toArray, List.set_cons_zero, List.set_cons_succ])
              | (apply text_if_call; (focus (first | exact wanted_t rfl rfl | exact wanted_f rfl rfl | exact wanted_gt rfl rfl | exact wanted_gf rfl rfl)); (focus (intro hc _ _; (try simp only [Bool.and_eq_true, Bool.not_eq_true', Bool.true_and] at hc); go_simp; exact ⟨rfl, rfl⟩)); (focus (intro hc _ _; with_reducible (exact T2.out _ _))); simp only [Act.put, List.setIfInBounds_toArray, List.set_cons_zero, List.set_cons_succ]))
            refine text_nil (HF.out _ (fun mx dx => ?_))
            clear HF F
            go_upto_region 9 with (fail)
            refine wp_gen (fun X3 hX3 => ?_)
            have hb3 : Below X2.heap.size X2 X3 := by rw [hX3]; exact Below.ext_mk (Below.refl _ _) (Nat.le_refl _) _ _
            have HX3 := HX2.out.below hb3
            have HXd := HX3.below (Below.drew (Below.refl _ X3))
            have bXd := (bX2.out.below hb3).below (Below.drew (Below.refl _ X3))
            have BXd := BX2.out.trans ((hb3.mono hB2).trans (Below.drew (Below.refl B X3)))
            obtain ⟨v', W1, G', g1, g2, g3, g4⟩ := node_one HXd.nrow (by omega) ((x : Int), (y2 : Int), (y3 : Int))
            have hBd : B ≤ X3.drew.heap.size := Nat.le_trans hB2 hb3.size
            obtain ⟨HN, BN⟩ := HXd.node g2 g3 g4 hBd
            have c2 := HXd.blk.cell 2
            have cz := HXd.blk.lt
            simp only [List.getElem?_cons_zero, List.getElem?_cons_succ] at c2
            have kR : W1.heap[R]? = X3.drew.heap[R]? := g4.block R cz (fun hm => (HXd.g1 R (by simpa using hm)).2 rfl)
            have e2 := (cell_of_heap 2 kR).trans c2
            have f2 : W1.frozen? ⟨R, 2, none⟩ = false := (HXd.blk.keep kR).free 2
            have fz : R < W1.heap.size := Nat.lt_of_lt_of_le cz g4.size
            have Q1 := hid g1
            have HN := hid HN
            have BN := hid (BXd.trans BN)
            have BD := hid bXd
            obtain ⟨sb, sc', rfl, _⟩ := RowIs.form g2
            obtain ⟨nl2, hnl2⟩ : ∃ k, k = (ns ++ [((x : Int), (y2 : Int), (y3 : Int))]).length := ⟨_, rfl⟩
            rw [← hnl2] at Q1 HN BN
            have HNL2 := hid hnl2
            have c2' := HX3.blk.cell 2
            have cz' := HX3.blk.lt
            simp only [List.getElem?_cons_zero, List.getElem?_cons_succ] at c2'
            clear hX3 hb3 HX3 HXd bXd BXd g1 g2 g3 g4 hBd kR hnl2 q0 q1 q2 qz d1 dz hmin2 hq1 hq2
            refine wp_region_stage [6, 7, 10] (fun i W => (i = 0 → W = X3.drew) ∧ (i = 1 → W = X3.drew.alloc (.cells #[.int .i64 x, .int .i64 y2, .int .i64 y3] 39)) ∧ (i = 2 → W = W1) ∧ (i = 3 → W = W1.setCell ⟨R, 2, none⟩ (.slice sb nl2 sc'))) (by kernel_rfl) (by kernel_rfl) (by kernel_rfl) (by kernel_rfl) ⟨fun _ => rfl, fun h => by omega, fun h => by omega, fun h => by omega⟩ (fun F' hF' => ?_)
            have HF := hid hF'
            clear hF'
            iterate 4 (refine sg_any rfl rfl (fun _ => by go_simp; with_reducible rfl) ?_; simp only [Act.put, List.setIfInBounds_toArray, List.set_cons_zero, List.set_cons_succ])
            refine sg_read 0 1 rfl (by decide +kernel) (by decide +kernel) rfl (fun ii w' l' u hR => by
              rcases (show ii = 0 ∨ ii = 1 by omega) with rfl | rfl
              · rw [hR.1 rfl]; clear hR; go_simp; with_reducible rfl
              · rw [hR.2.1 rfl]; clear hR; first | (go_simp; done) | (go_simp; with_reducible rfl)) ?_
            simp only [Act.put, List.setIfInBounds_toArray, List.set_cons_zero, List.set_cons_succ]
            refine sg_read 0 0 rfl (by decide +kernel) (by decide +kernel) rfl (fun ii w' l' u hR => by
              rw [hR.1 (by omega)]
              exact load_struct_op _ _ _ _ _ _ _ _ Try.underlying39 (branchy_size _ _ _) rfl BD.out) ?_
            simp only [Act.put, List.setIfInBounds_toArray, List.set_cons_zero, List.set_cons_succ]
            refine sg_turn 0 (v := .slice (some ⟨X3.drew.heap.size, 0, none⟩) 1 1) rfl rfl (fun W hR => ⟨X3.drew.alloc (.cells #[.int .i64 x, .int .i64 y2, .int .i64 y3] 39), by rw [hR.1 rfl]; clear hR; go_simp, fun h => by omega, fun _ => rfl, fun h => by omega, fun h => by omega⟩) ?_
            simp only [Act.put, List.setIfInBounds_toArray, List.set_cons_zero, List.set_cons_succ]
            refine sg_turn 1 (v := .slice sb nl2 sc') rfl rfl (fun W hR => ⟨W1, by rw [hR.2.1 rfl]; clear hR; exact run_append_op _ _ _ _ _ _ _ _ _ Q1.out, fun h => by omega, fun h => by omega, fun _ => rfl, fun h => by omega⟩) ?_
            simp only [Act.put, List.setIfInBounds_toArray, List.set_cons_zero, List.set_cons_succ]
            iterate 2 (refine sg_any rfl rfl (fun _ => by go_simp; with_reducible rfl) ?_; simp only [Act.put, List.setIfInBounds_toArray, List.set_cons_zero, List.set_cons_succ])
            refine sg_do 2 rfl rfl (fun W hR => ⟨W1.setCell ⟨R, 2, none⟩ (.slice sb nl2 sc'), by rw [hR.2.2.1 rfl]; clear hR; go_simp, fun h => by omega, fun h => by omega, fun h => by omega, fun _ => rfl⟩) ?_
            simp only [Act.put, List.setIfInBounds_toArray, List.set_cons_zero, List.set_cons_succ]
            refine sg_end (HF.out _ (fun w3 hR => ?_))
            obtain rfl := hR.2.2.2 rfl
            clear hR HF F' Q1 c2 c2' cz cz' e2 f2 fz BD
            go_wp2_with fail
            go_roundw
            case rel =>
              refine ⟨m, j3, false, ns ++ [((x : Int), (y2 : Int), (y3 : Int))], _, some G', by go_num, HN.out, BN.out, by simp; omega, fun _ => HPAR.out.symm, fun h => (by cases h)⟩
            case measure => first | (simp [intOf]; done) | (simp [intOf]; omega)
      · have HPAR := hid (N1 rfl)
        clear N1 N2
        refine wp_region_ext (by kernel_rfl) (by kernel_rfl) (fun F hF => ?_)
        have HF := hid hF; clear hF
        repeat (first
          | (apply text_skip; (focus rfl); simp only [Act.put, List.setIfInBounds_toArray, List.set_cons_zero, List.set_cons_succ])
          | (apply text_val; (focus rfl); (focus (intro _ _; go_simp; with_reducible rfl)); simp only [Act.put, List.setIfInBounds_toArray, List.set_cons_zero, List.set_cons_succ])
          | (apply text_if; (focus (first | exact wanted_t rfl rfl | exact wanted_f rfl rfl | exact wanted_gt rfl rfl | exact wanted_gf rfl rfl)); (focus (intro hc _ _; (try simp only [Bool.and_eq_true, Bool.not_eq_true', Bool.true_and] at hc); go_simp; with_reducible rfl)); simp only [Act.put, List.setIfInBounds_toArray, List.set_cons_zero, List.set_cons_succ]))
        refine text_nil (HF.out _ (fun mx dx => ?_))
        clear HF F
        go_wp2
        go_returns
        exact AllPost.no (Below.ext_mk BX2.out hB2 _ _) HPAR.out
end
end Go.Proofs.Ytboekafmplomhaa
