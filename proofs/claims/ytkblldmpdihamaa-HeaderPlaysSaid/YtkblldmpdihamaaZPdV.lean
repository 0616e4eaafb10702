/-
  The document's Valid of a packet (quillonref19).
-/
import Derived.Test.YtkblldmpdihamaaZPdS
set_option linter.unusedVariables false
set_option linter.unusedSimpArgs false
namespace Go.Proofs.Ytkblldmpdihamaa
open Go.RowKit

theorem RowIs.setOne {w : World} {sv : Value} {g n i : Nat} {e : TypeId} {xs : List Value} (v : Value) (h : RowIs w sv (some g) e 1 n xs) (hi : i < n) :
    RowIs (w.setCell ⟨g, i, none⟩ v) sv (some g) e 1 n (xs.set i v) ∧ w.frozen? ⟨g, i, none⟩ = false ∧ ∃ c, sv = .slice (some ⟨g, 0, none⟩) n c := by
  obtain ⟨h0, ⟨_, _, h3⟩ | ⟨g', cap, cur, h1, h2, h3, h4, h5, h6, h7⟩⟩ := h
  · cases h3
  · cases h2
    have hb : Blk w g e cur.toList := by unfold Blk; simpa using h3
    refine ⟨⟨by rw [List.length_set]; exact h0, .inr ⟨g, cap, (cur.toList.set i v).toArray, h1, rfl, hb.set_ _ _, h4, h5, by simpa using h6, ?_⟩⟩, hb.free i, cap, h1⟩
    rw [← h7]
    simp only [List.take_set]
theorem RowIs.ne {w : World} {sv sv' : Value} {g g' : Nat} {e e' : TypeId} {s s' n n' : Nat} {xs xs' : List Value} (h : RowIs w sv (some g) e s n xs) (h' : RowIs w sv' (some g') e' s' n' xs') (he : e ≠ e') : g ≠ g' := by
  intro q
  subst q
  obtain ⟨_, ⟨_, _, h3⟩ | ⟨g1, cap, cur, h1, h2, h3, _⟩⟩ := h
  · cases h3
  · cases h2
    obtain ⟨_, ⟨_, _, k3⟩ | ⟨g2, cap', cur', k1, k2, k3, _⟩⟩ := h'
    · cases k3
    · cases k2
      rw [h3] at k3
      injection k3 with k3
      injection k3 with _ k4
      exact he k4
theorem nodup_set : ∀ (gs : List Nat) (i z : Nat), gs.Nodup → z ∉ gs → (gs.set i z).Nodup
  | [], _, _, _, _ => by simp
  | g :: r, 0, z, h, hz => by
    simp only [List.nodup_cons, List.mem_cons, not_or] at h hz
    rw [List.set_cons_zero, List.nodup_cons]
    exact ⟨hz.2, h.2⟩
  | g :: r, i + 1, z, h, hz => by
    simp only [List.nodup_cons, List.mem_cons, not_or] at h hz
    rw [List.set_cons_succ, List.nodup_cons]
    refine ⟨fun hm => ?_, nodup_set r i z h.2 hz.2⟩
    rcases List.mem_or_eq_of_mem_set hm with hm | hm
    · exact h.1 hm
    · exact hz.1 hm.symm
section
variable {B : Nat} {w : World} {k : PK} {l : List Nat} {va : List Bool} {fs : NumRows} {gs : List Nat} {mt : List (BitVec 128)} {Gr Gv Gm : Nat} {Gf : Option Nat} {i : Nat}
theorem CopyIs.setVa (C : CopyIs B w k l va fs gs mt Gr Gv Gm Gf) (hi : i < va.length) (b : Bool) : CopyIs B (w.setCell ⟨Gv, i, none⟩ (.bool b)) k l (va.set i b) fs gs mt Gr Gv Gm Gf := by
  have t : Turn w (w.setCell ⟨Gv, i, none⟩ (.bool b)) [Gv] := Turn.set_ _ _ _ (by simp)
  have e1 := (RowIs.setOne (.bool b) C.valid hi).1
  have hbs : (bools va).set i (.bool b) = bools (va.set i b) := by unfold bools; rw [List.map_set]
  rw [hbs] at e1
  refine ⟨RowIs.turn C.rest t (by simp; exact RowIs.ne C.rest C.valid (by decide)), by rw [List.length_set]; exact e1, RowIs.turn C.metas t (by simp; exact RowIs.ne C.metas C.valid (by decide)), ?_, C.len, fun j x g hx hg => RowIs.turn (C.each j x g hx hg) t (by simp; exact (C.ge g (List.mem_of_getElem? hg)).2.2.1), C.nodup, C.ge, C.ge2⟩
  refine RowIs.keep C.row (fun g hg => t.block g (RowIs.lt C.row g hg) ?_)
  subst hg
  simp
  exact RowIs.ne C.row C.valid (by decide)
theorem CopyIs.setFs {gf z : Nat} {zs : SL} {ns : List (BitVec 128)} (C : CopyIs B w k l va fs gs mt Gr Gv Gm (some gf)) (hi : i < fs.length) (hz : RowIs w zs.v (some z) 45 2 ns.length (nums ns)) (hB : B ≤ z)
    (hlt : CopyLt z gs Gr Gv Gm (some gf)) : CopyIs B (w.setCell ⟨gf, i, none⟩ zs.v) k l va (fs.set i (zs, ns)) (gs.set i z) mt Gr Gv Gm (some gf) := by
  have t : Turn w (w.setCell ⟨gf, i, none⟩ zs.v) [gf] := Turn.set_ _ _ _ (by simp)
  have e1 := (RowIs.setOne zs.v C.row hi).1
  have hbs : (fs.map fun x => x.1.v).set i zs.v = (fs.set i (zs, ns)).map (fun x => x.1.v) := by rw [List.map_set]
  rw [hbs] at e1
  obtain ⟨l1, l2, l3, l4, l5⟩ := hlt
  have l4' := l4 gf rfl
  refine ⟨RowIs.turn C.rest t (by simp; exact RowIs.ne C.rest C.row (by decide)), RowIs.turn C.valid t (by simp; exact RowIs.ne C.valid C.row (by decide)), RowIs.turn C.metas t (by simp; exact RowIs.ne C.metas C.row (by decide)), by rw [List.length_set]; exact e1, by simp [C.len], ?_, ?_, ?_, C.ge2⟩
  · intro j x g hx hg
    rw [List.getElem?_set] at hx hg
    by_cases e : i = j
    · subst e
      rw [if_pos rfl, if_pos (by have := C.len; omega)] at hg
      rw [if_pos rfl, if_pos hi] at hx
      cases hx
      cases hg
      exact RowIs.turn hz t (by simp; omega)
    · rw [if_neg e] at hx hg
      exact RowIs.turn (C.each j x g hx hg) t (by
        have := (C.ge g (List.mem_of_getElem? hg)).2.2.2.2
        simp
        exact fun q => this (by rw [q]))
  · exact nodup_set gs i z C.nodup (fun hm => by have := l5 z hm; omega)
  · intro g hg
    rcases List.mem_or_eq_of_mem_set hg with hg | rfl
    · exact C.ge g hg
    · exact ⟨hB, by omega, by omega, by omega, fun q => by injection q with q; omega⟩
end

section
variable {w : World} {L : List Nat} {port : Int} {mt : List (BitVec 128)} {S : PD} {k : PK} {hs : List (SL × List Int)} {p : PG}
set_option maxRecDepth 100000 in
set_option maxHeartbeats 4000000 in
theorem rvalid_any (D : Doc w L port mt S k) (O : S.Ok hs) (hok : HsOk hs) (hm : mt.length ≤ 16) (hL : ∀ q ∈ L, q < w.heap.size) (h : Int) (on : Bool) :
    Calls Try.prog 46 #[k.v, .int .i64 h, .bool on] w
      (fun e w' => ∃ k' : PK, e = .returned k'.v ∧ Below w.heap.size w w' ∧ Doc w' L port mt (S.on h on) k') := by
  obtain ⟨fs, D, hfs, SC⟩ := D
  have few := DocIs.few (L := L) (w := w) (k := k) (fs := fs) O hok.few hok.hi hm
  have OW := hid (fun V (hb : Below w.heap.size w V) => own_any (D.rest.below hb) (D.valid.below hb) (D.frd.below hb) (D.metas.below hb) hfs few)
  clear few
  have SC' := hid SC
  clear SC
  have SC := SC'
  clear SC'
  have hvn : k.valid.n = S.va.length := by have := D.valid.2.2.1; rw [bools_length] at this; omega
  go_enter Try.func46, Try.ntmps46
  go_upto_region 1 with (fail)
  refine wp_gen (fun U hV => ?_)
  have hbU : Below w.heap.size w U := by rw [hV]; (repeat' (first | (with_reducible exact Below.refl _ _) | (with_reducible refine Below.ext_mk ?_ ?_ _ _) | (with_reducible refine Below.alloc ?_ ?_ _) | (with_reducible refine Below.drew ?_) | (with_reducible refine Below.setCell ?_ ?_ _) | go_size))
  have UK : Hid (Blk U w.heap.size 39 k.cs) := by
    rw [hV]
    exact hid ((Blk.new w 39 k.cs).below (Below.alloc (Below.refl _ _) (Nat.le_refl _) (.cells zeroCs.toArray 39)))
  have UZ : Hid (Blk U (w.heap.size + 1) 39 zeroCs) := by
    rw [hV]
    have h := Blk.new (w.alloc (.cells k.cs.toArray 39)) 39 zeroCs
    simp only [World.size_alloc] at h
    exact hid h
  clear hV
  have hUs := hbU.size
  have u2 := UK.out.cell 2
  have zk := UK.out.lt
  simp only [List.getElem?_cons_zero, List.getElem?_cons_succ] at u2
  -- nothing turns
  by_cases hc : 0 ≤ h ∧ h < (S.va.length : Int) ∧ S.va.getD h.toNat on ≠ on
  · obtain ⟨hc0, hc1, hc2⟩ := hc
    obtain ⟨i, rfl⟩ : ∃ i : Nat, h = (i : Int) := ⟨h.toNat, by omega⟩
    have hi : i < S.va.length := by omega
    obtain ⟨v, hv⟩ : ∃ v, S.va[i]? = some v := ⟨S.va[i], List.getElem?_eq_getElem hi⟩
    have hvo : v = !on := by
      rw [Int.toNat_natCast, List.getD_eq_getElem?_getD, hv] at hc2
      simp only [Option.getD_some] at hc2
      cases v <;> cases on <;> simp_all
    have eg : S.on (i : Int) on = { S with va := S.va.set i on, nss := S.nss.set i (List.replicate (S.nss.getD i []).length 0#128) } := by
      unfold PD.on
      rw [if_pos ⟨hc0, hc1, hc2⟩, Int.toNat_natCast]
    have hin : i < S.nss.length := by have := O.nl; have := O.va; omega
    obtain ⟨ns, hns⟩ : ∃ ns, S.nss[i]? = some ns := ⟨S.nss[i], List.getElem?_eq_getElem hin⟩
    rw [List.getD_eq_getElem?_getD, hns, Option.getD_some] at eg
    have hnm : ns.length ≤ 1000000 := by obtain ⟨x, hx, he⟩ := O.at hns; have := hok.hi x (List.mem_of_getElem? hx); omega
    have EG := hid eg
    subst hvo
    obtain ⟨vb, vo, ev, zv, hvl, cv⟩ := D.valid.one (i := i) (u := .bool (!on)) (by simp [bools, hv])
    have dv := (hbU.cell (p := ⟨vb, vo + i, none⟩) zv).trans cv
    have HN := hid (And.intro hfs (And.intro hns hi))
    clear cv hc2 hv hns eg hfs D O
    obtain ⟨port', rest, ⟨va', vn, vc⟩, kf, metas, dr, se, eg', ac⟩ := k
    simp only at ev hvl u2 hvn
    subst ev hvn
    simp only [SL.v_mk] at u2
    have zv' : vb < U.heap.size := by omega
    have k1 : (i : Int) < (S.va.length : Int) := by omega
    have hon : (!on == on) = false := by cases on <;> rfl
    go_upto_region 3 with (fail)
    refine wp_region_doc (fun F hF => ?_)
    have HF := hid hF
    clear hF
    refine doc_val rfl (load_agg_op _ _ _ _ _ _ _ _ Try.underlying39 (pk_size _ rfl) rfl UK.out) ?_
    simp only [Act.put, List.setIfInBounds_toArray, List.set_cons_zero, List.set_cons_succ]
    refine doc_call (f := 14) (args := #[(PK.mk port' rest ⟨some ⟨vb, vo, none⟩, S.va.length, vc⟩ kf metas dr se eg' ac).v]) rfl (by first | (go_simp; done) | (go_simp; exact ⟨rfl, rfl⟩) | (go_simp; with_reducible rfl)) ((OW.out _ hbU).mono ?_)
    rintro _ W6 ⟨r3, v3, f3, m3, fs3, gs3, Gr, Gv, Gm, Gf, rfl, hB6, hfs3, CI⟩
    refine ⟨_, rfl, ?_⟩
    simp only [Act.put, List.setIfInBounds_toArray, List.set_cons_zero, List.set_cons_succ]
    refine doc_skip rfl (store_row_op (xs := (PK.mk port' rest ⟨some ⟨vb, vo, none⟩, S.va.length, vc⟩ kf metas dr se eg' ac).cs) (ys := (PK.mk port' r3 v3 f3 m3 dr se eg' ac).cs) _ _ _ _ _ _ _ _ _ (pk_size _ rfl) rfl (by simp [Value.oneCell']) rfl rfl (UK.out.below hB6)) ?_
    simp only [Act.put, List.setIfInBounds_toArray, List.set_cons_zero, List.set_cons_succ]
    refine doc_end (HF.out _ _ ?_)
    clear HF F OW
    go_upto_region 4 with (fail)
    refine wp_gen (fun T hTT => ?_)
    have h6s := hB6.size
    have zB3 := UZ.out.lt
    have tT : Turn W6 T [w.heap.size] := by rw [hTT]; exact Turn.row _ _ (by simp)
    have bC : Blk T w.heap.size 39 (PK.mk port' r3 v3 f3 m3 dr se eg' ac).cs := by rw [hTT]; exact (UK.out.below hB6).row _
    clear hTT
    have hno : ∀ q, q ≠ w.heap.size → q ∉ [w.heap.size] := fun q hq hm => hq (by simpa using hm)
    have CIT := CI.keep (w' := T) (fun g hg hB => tT.block g hg (hno g (by omega)))
    have tZ := tT.blk (UZ.out.below hB6) (hno _ (by omega))
    have hbT : Below w.heap.size w T := (hbU.trans (hB6.mono hUs)).trans (tT.below (fun q hq => by simp at hq; omega) (by omega))
    clear CI tT UZ UK hB6
    have hsB := CIT.ge2.2.1
    obtain ⟨hCV, hfz, v3c, hv3⟩ := RowIs.setOne (.bool on) CIT.valid hi
    have C2 := CIT.setVa hi on
    have hv3' : v3 = ⟨some ⟨Gv, 0, none⟩, S.va.length, v3c⟩ := by
      obtain ⟨a, n, c⟩ := v3
      simp only [SL.v_mk] at hv3
      injection hv3 with e1 e2 e3
      rw [e1, e2, e3]
    obtain ⟨g0, _, q1, q2, q3, _⟩ := RowIs.at CIT.valid (i := i) (j := 0) hi (by omega)
    cases q2
    rw [Nat.mul_one, Nat.add_zero] at q3
    have hbi : (bools S.va)[i]? = some (.bool S.va[i]) := by simp [bools, hi]
    rw [hbi] at q3
    have zGv := RowIs.lt CIT.valid Gv rfl
    have c2 := bC.cell 2
    have zb := bC.lt
    simp only [List.getElem?_cons_zero, List.getElem?_cons_succ] at c2
    subst hv3'
    simp only [SL.v_mk] at c2
    generalize S.va[i] = vi at *
    have BC := hid (bC.far (b := Gv) (by omega) i (.bool on))
    have TZ := hid (tZ.far (b := Gv) (by omega) i (.bool on))
    have hbT2 : Below w.heap.size w (T.setCell ⟨Gv, i, none⟩ (.bool on)) := Below.setCell hbT (by simp; omega) _
    have CC := hid C2
    clear bC tZ CIT hCV C2 hv3 q1 hbi
    go_upto_region 5 with (fail)
    refine wp_gen (fun X hX => ?_)
    rw [← hX] at BC TZ hbT2 CC
    clear hX
    have hsT := hbT.size
    obtain ⟨hfs, hns, _⟩ := HN.out
    obtain ⟨s3, hx3⟩ := fmap_at hfs3 hin
    rw [(List.getElem?_eq_some_iff.1 hns).2] at hx3
    have hfl : i < fs3.length := (List.getElem?_eq_some_iff.1 hx3).1
    have hig : i < gs3.length := by have := CC.out.len; omega
    have hsn3 := (RowIs.rdS (CC.out.each i _ _ hx3 (List.getElem?_eq_getElem hig))).2.1
    obtain ⟨gf, f3c, q1, q2, q3, fz3⟩ := RowIs.at CC.out.row (i := i) (j := 0) hfl (by omega)
    subst q2
    rw [Nat.mul_one, Nat.add_zero, List.getElem?_map, hx3] at q3
    rw [Nat.mul_one, Nat.add_zero] at fz3
    have zgf := RowIs.lt CC.out.row gf rfl
    have hf3 : f3 = ⟨some ⟨gf, 0, none⟩, fs3.length, f3c⟩ := by
      obtain ⟨a, n, c⟩ := f3
      simp only [SL.v_mk] at q1
      injection q1 with e1 e2 e3
      rw [e1, e2, e3]
    subst hf3
    obtain ⟨s3a, s3n, s3c⟩ := s3
    simp only at hsn3
    subst hsn3
    have x3 := BC.out.cell 3
    have zx := BC.out.lt
    simp only [List.getElem?_cons_zero, List.getElem?_cons_succ, SL.v_mk, Option.map_some] at x3 q3
    obtain ⟨X1, hX1⟩ : ∃ X1, X1 = X.drew.alloc (.cells (nums (List.replicate ns.length 0#128)).toArray 45) := ⟨_, rfl⟩
    obtain ⟨X2, hX2⟩ : ∃ X2, X2 = X1.setCell ⟨gf, i, none⟩ (.slice (some ⟨X.heap.size, 0, none⟩) ns.length ns.length) := ⟨_, rfl⟩
    have hb1 : Below X.heap.size X X1 := by rw [hX1]; (repeat' (first | (with_reducible exact Below.refl _ _) | (with_reducible refine Below.ext_mk ?_ ?_ _ _) | (with_reducible refine Below.alloc ?_ ?_ _) | (with_reducible refine Below.drew ?_) | (with_reducible refine Below.setCell ?_ ?_ _) | go_size))
    have hb1s := hb1.size
    have bzr : Blk X1 X.heap.size 45 (nums (List.replicate ns.length 0#128)) := by rw [hX1]; exact Blk.new X.drew _ _
    have D0 := hid (fun W (hW : W = X.drew ∨ W = X1) => (show W.cell? ⟨w.heap.size, 3, none⟩ = some (.slice (some ⟨gf, 0, none⟩) fs3.length f3c) ∧ w.heap.size < W.heap.size ∧ W.cell? ⟨gf, i, none⟩ = some (.slice s3a ns.length s3c) ∧ gf < W.heap.size from by
      have hB : Below X.heap.size X W := by
        rcases hW with rfl | rfl
        · (repeat' (first | (with_reducible exact Below.refl _ _) | (with_reducible refine Below.ext_mk ?_ ?_ _ _) | (with_reducible refine Below.alloc ?_ ?_ _) | (with_reducible refine Below.drew ?_) | (with_reducible refine Below.setCell ?_ ?_ _) | go_size))
        · exact hb1
      exact ⟨(hB.cell (p := ⟨w.heap.size, 3, none⟩) zx).trans x3, by have := hB.size; omega, (hB.cell (p := ⟨gf, i, none⟩) zgf).trans q3, by have := hB.size; omega⟩))
    have k2 : (i : Int) < (fs3.length : Int) := by omega
    have MK := hid (make_nums ns.length hnm X.drew)
    have e1 : X.drew.alloc (.cells (nums (List.replicate ns.length 0#128)).toArray 45) = X1 := hX1.symm
    have fz4 : X1.frozen? ⟨gf, i, none⟩ = false := by
      have h1 := hb1.block gf zgf
      simp only [World.frozen?] at fz3 ⊢
      rw [h1]; exact fz3
    have zg1 : gf < X1.heap.size := by omega
    have e2 : X1.setCell ⟨gf, i, none⟩ (.slice (some ⟨X.heap.size, 0, none⟩) ns.length ns.length) = X2 := hX2.symm
    have c1 := (D0.out X1 (.inr rfl)).2.2.1
    have KX := hid (And.intro hX1 (And.intro hX2 (And.intro hx3 (And.intro hfl (And.intro hfs3 hns)))))
    clear hX1 hX2 hx3 hfl hfs3 hns hfs x3 q3 q1 fz3
    refine wp_region_stage [9, 11] (fun i W => (i = 0 → W = X.drew) ∧ (i = 1 → W = X1) ∧ (i = 2 → W = X2)) (by kernel_rfl) (by kernel_rfl) (by kernel_rfl) (by kernel_rfl) ⟨fun _ => rfl, fun h => by omega, fun h => by omega⟩ (fun F' hF' => ?_)
    have HF := hid hF'
    clear hF'
    repeat (first
      | (apply sg_any; (focus rfl); (focus rfl); (focus (intro _; go_simp; with_reducible rfl)); simp only [Act.put, List.setIfInBounds_toArray, List.set_cons_zero, List.set_cons_succ])
      | (apply sg_read 0 1; (focus rfl); (focus (decide +kernel)); (focus (decide +kernel)); (focus rfl); (focus (intro ii w' l u hR; have hw : w' = X.drew ∨ w' = X1 := by { rcases (show ii = 0 ∨ ii = 1 by omega) with rfl | rfl; exact .inl (hR.1 rfl); exact .inr (hR.2.1 rfl) }; obtain ⟨y1, y2, y3, y4⟩ := D0.out w' hw; clear hR hw; go_simp; with_reducible rfl)); simp only [Act.put, List.setIfInBounds_toArray, List.set_cons_zero, List.set_cons_succ])
      | (apply sg_read 0 0; (focus rfl); (focus (decide +kernel)); (focus (decide +kernel)); (focus rfl); (focus (intro ii w' l u hR; have hw : w' = X.drew ∨ w' = X1 := by { rcases (show ii = 0 by omega) with rfl; exact .inl (hR.1 rfl) }; obtain ⟨y1, y2, y3, y4⟩ := D0.out w' hw; clear hR hw; go_simp; with_reducible rfl)); simp only [Act.put, List.setIfInBounds_toArray, List.set_cons_zero, List.set_cons_succ]))
    apply sg_turn 0 (v := .slice (some ⟨X.heap.size, 0, none⟩) ns.length ns.length)
    · rfl
    · rfl
    · intro w' hR
      obtain rfl := hR.1 rfl
      refine ⟨X1, ?_, fun h => by omega, fun _ => rfl, fun h => by omega⟩
      have hmk : Sem.run Try.prog (Instr.makeSlice 37 (Value.int IntKind.i64 (ns.length : Int)) (Value.int IntKind.i64 (ns.length : Int))) X.drew = .ok (.slice (some ⟨X.heap.size, 0, none⟩) ns.length ns.length) X1 := by rw [← e1]; exact MK.out
      go_simp
    simp only [Act.put, List.setIfInBounds_toArray, List.set_cons_zero, List.set_cons_succ]
    repeat (apply sg_any; (focus rfl); (focus rfl); (focus (intro _; go_simp; with_reducible rfl)); simp only [Act.put, List.setIfInBounds_toArray, List.set_cons_zero, List.set_cons_succ])
    apply sg_do 1
    · rfl
    · rfl
    · intro w' hR
      obtain rfl := hR.2.1 rfl
      refine ⟨X2, ?_, fun h => by omega, fun h => by omega, fun _ => rfl⟩
      rw [← e2]
      go_simp
    simp only [Act.put, List.setIfInBounds_toArray, List.set_cons_zero, List.set_cons_succ]
    refine sg_end (HF.out _ (fun w' hR => ?_))
    obtain rfl := hR.2.2 rfl
    clear hR HF F'
    obtain ⟨hX1, hX2, hx3, hfl, hfs3, hns⟩ := KX.out
    have hgB := CC.out.ge2.2.2.2 gf rfl
    have hXs := hbT2.size
    have hUX : U.heap.size ≤ X.heap.size := by omega
    have hXw : Below w.heap.size w w' := hbT2.trans ((hb1.mono (by omega)).trans (by rw [hX2]; exact Below.setCell (Below.refl _ _) (by simp; omega) _))
    have BW : Blk w' w.heap.size 39 (PK.mk port' r3 ⟨some ⟨Gv, 0, none⟩, S.va.length, v3c⟩ ⟨some ⟨gf, 0, none⟩, fs3.length, f3c⟩ m3 dr se eg' ac).cs := by
      rw [hX2]; exact (BC.out.below hb1).far (by omega) _ _
    have ZW : Blk w' (w.heap.size + 1) 39 zeroCs := by
      rw [hX2]; exact (TZ.out.below hb1).far (by omega) _ _
    have CF := (CC.out.below hb1).setFs (i := i) (gf := gf) (z := X.heap.size) (zs := ⟨some ⟨X.heap.size, 0, none⟩, ns.length, ns.length⟩) (ns := List.replicate ns.length 0#128) hfl
      ⟨by rw [nums_length], .inr ⟨X.heap.size, ns.length, (nums (List.replicate ns.length 0#128)).toArray, by rw [List.length_replicate], rfl, bzr, by rw [List.length_replicate]; exact Nat.le_refl _, by unfold maxLen; omega, by simp [nums_length], by rw [List.length_replicate]; apply List.take_of_length_le; simp [nums_length]⟩⟩ (by omega) CC.out.lt
    have hfs' : (fs3.set i ((⟨some ⟨X.heap.size, 0, none⟩, ns.length, ns.length⟩ : SL), List.replicate ns.length 0#128)).map (fun x => x.2) = S.nss.set i (List.replicate ns.length 0#128) := by
      rw [List.map_set, hfs3]
    have hE := EG.out
    have CFW : CopyIs U.heap.size w' (PK.mk port' r3 ⟨some ⟨Gv, 0, none⟩, S.va.length, v3c⟩ ⟨some ⟨gf, 0, none⟩, fs3.length, f3c⟩ m3 dr se eg' ac) S.l (S.va.set i on) (fs3.set i ((⟨some ⟨X.heap.size, 0, none⟩, ns.length, ns.length⟩ : SL), List.replicate ns.length 0#128)) (gs3.set i X.heap.size) mt Gr Gv Gm (some gf) := by
      rw [hX2]; exact CF
    have FIN := hid (And.intro CFW (And.intro hfs' hE))
    clear CF CFW hfs' hE hX2 hX1 hns hx3 hfs3 KX EG
    go_upto_region 6 with (fail)
    refine wp_region_doc (fun F hF => ?_)
    have HF := hid hF
    clear hF
    refine doc_val rfl (load_agg_op _ _ _ _ _ _ _ _ Try.underlying39 (pk_size _ rfl) rfl BW) ?_
    simp only [Act.put, List.setIfInBounds_toArray, List.set_cons_zero, List.set_cons_succ]
    refine doc_skip rfl (store_row_op (xs := zeroCs) (ys := (PK.mk port' r3 ⟨some ⟨Gv, 0, none⟩, S.va.length, v3c⟩ ⟨some ⟨gf, 0, none⟩, fs3.length, f3c⟩ m3 dr se eg' ac).cs) _ _ _ _ _ _ _ _ _ (pk_size _ rfl) rfl (by simp [Value.oneCell']) rfl rfl ZW) ?_
    simp only [Act.put, List.setIfInBounds_toArray, List.set_cons_zero, List.set_cons_succ]
    refine doc_end (HF.out _ _ ?_)
    clear HF F
    have bR := ZW.row (PK.mk port' r3 ⟨some ⟨Gv, 0, none⟩, S.va.length, v3c⟩ ⟨some ⟨gf, 0, none⟩, fs3.length, f3c⟩ m3 dr se eg' ac).cs
    have hbR := Below.setRow hXw (by omega : w.heap.size ≤ w.heap.size + 1) (PK.mk port' r3 ⟨some ⟨Gv, 0, none⟩, S.va.length, v3c⟩ ⟨some ⟨gf, 0, none⟩, fs3.length, f3c⟩ m3 dr se eg' ac).cs.toArray
    go_wp2
    refine bodyPost_ret (hpk_result rfl rfl bR rfl) rfl ⟨_, rfl, hbR, ?_⟩
    obtain ⟨CFW, hfs', hE⟩ := FIN.out
    rw [hE]
    have tR : Turn w' (w'.setRow (w.heap.size + 1) (PK.mk port' r3 ⟨some ⟨Gv, 0, none⟩, S.va.length, v3c⟩ ⟨some ⟨gf, 0, none⟩, fs3.length, f3c⟩ m3 dr se eg' ac).cs.toArray) [w.heap.size + 1] := Turn.row _ _ (by simp)
    have CR := CFW.keep (fun g hg hB => tR.block g hg (by simp; omega))
    exact ⟨_, CR.doc (fun q hq => by have := hL q hq; omega), hfs', SC.out⟩
  · have eg : S.on h on = S := by unfold PD.on; rw [if_neg hc]
    have EG := hid eg
    clear eg
    by_cases h0 : h < 0
    · go_upto_region 2 with (fail)
      refine wp_region_doc (fun F hF => ?_)
      have HF := hid hF
      clear hF
      refine doc_val rfl (load_agg_op _ _ _ _ _ _ _ _ Try.underlying39 (pk_size _ rfl) rfl UK.out) ?_
      simp only [Act.put, List.setIfInBounds_toArray, List.set_cons_zero, List.set_cons_succ]
      refine doc_skip rfl (store_row_op (xs := zeroCs) (ys := k.cs) _ _ _ _ _ _ _ _ _ (pk_size _ rfl) rfl (by simp [Value.oneCell']) rfl rfl UZ.out) ?_
      simp only [Act.put, List.setIfInBounds_toArray, List.set_cons_zero, List.set_cons_succ]
      refine doc_end (HF.out _ _ ?_)
      clear HF F
      go_wp2
      refine bodyPost_ret (hpk_result rfl rfl (UZ.out.row _) rfl) rfl ⟨_, rfl, Below.setRow hbU (by omega) _, ?_⟩
      rw [EG.out]
      exact ⟨fs, D.below (Below.setRow hbU (by omega) _), hfs, SC.out⟩
    · by_cases h1 : (S.va.length : Int) ≤ h
      · have h1' : (k.valid.n : Int) ≤ h := by omega
        go_upto_region 2 with (fail)
        refine wp_region_doc (fun F hF => ?_)
        have HF := hid hF
        clear hF
        refine doc_val rfl (load_agg_op _ _ _ _ _ _ _ _ Try.underlying39 (pk_size _ rfl) rfl UK.out) ?_
        simp only [Act.put, List.setIfInBounds_toArray, List.set_cons_zero, List.set_cons_succ]
        refine doc_skip rfl (store_row_op (xs := zeroCs) (ys := k.cs) _ _ _ _ _ _ _ _ _ (pk_size _ rfl) rfl (by simp [Value.oneCell']) rfl rfl UZ.out) ?_
        simp only [Act.put, List.setIfInBounds_toArray, List.set_cons_zero, List.set_cons_succ]
        refine doc_end (HF.out _ _ ?_)
        clear HF F
        go_wp2
        refine bodyPost_ret (hpk_result rfl rfl (UZ.out.row _) rfl) rfl ⟨_, rfl, Below.setRow hbU (by omega) _, ?_⟩
        rw [EG.out]
        exact ⟨fs, D.below (Below.setRow hbU (by omega) _), hfs, SC.out⟩
      · obtain ⟨i, rfl⟩ : ∃ i : Nat, h = (i : Int) := ⟨h.toNat, by omega⟩
        have hon : S.va[i]? = some on := by
          have hi : i < S.va.length := by omega
          have : S.va.getD i on = on := by
            apply Classical.byContradiction
            intro q
            exact hc ⟨by omega, by omega, by simpa using q⟩
          rw [List.getD_eq_getElem?_getD, List.getElem?_eq_getElem hi] at this
          rw [List.getElem?_eq_getElem hi]
          simpa using this
        obtain ⟨vb, vo, ev, zv, hvl, cv⟩ := D.valid.one (i := i) (u := .bool on) (by simp [bools, hon])
        have dv := (hbU.cell (p := ⟨vb, vo + i, none⟩) zv).trans cv
        have DD := hid D
        clear cv hon hc D
        obtain ⟨port', rest, ⟨va', vn, vc⟩, kf, metas, dr, se, eg', ac⟩ := k
        simp only at ev hvl u2 hvn
        subst ev hvn
        simp only [SL.v_mk] at u2
        have zv' : vb < U.heap.size := by omega
        have k1 : (i : Int) < (S.va.length : Int) := by omega
        cases on
        all_goals
          go_upto_region 2 with (fail)
          refine wp_region_doc (fun F hF => ?_)
          have HF := hid hF
          clear hF
          refine doc_val rfl (load_agg_op _ _ _ _ _ _ _ _ Try.underlying39 (pk_size _ rfl) rfl UK.out) ?_
          simp only [Act.put, List.setIfInBounds_toArray, List.set_cons_zero, List.set_cons_succ]
          refine doc_skip rfl (store_row_op (xs := zeroCs) (ys := (PK.mk port' rest ⟨some ⟨vb, vo, none⟩, S.va.length, vc⟩ kf metas dr se eg' ac).cs) _ _ _ _ _ _ _ _ _ (pk_size _ rfl) rfl (by simp [Value.oneCell']) rfl rfl UZ.out) ?_
          simp only [Act.put, List.setIfInBounds_toArray, List.set_cons_zero, List.set_cons_succ]
          refine doc_end (HF.out _ _ ?_)
          clear HF F
          go_wp2
          refine bodyPost_ret (hpk_result rfl rfl (UZ.out.row _) rfl) rfl ⟨_, rfl, Below.setRow hbU (by omega) _, ?_⟩
          rw [EG.out]
          exact ⟨fs, DD.out.below (Below.setRow hbU (by omega) _), hfs, SC.out⟩
end
end Go.Proofs.Ytkblldmpdihamaa
