/-
  The document's Take of a packet (quillonref19).
-/
import Derived.Test.YtkblldmpdihamaaZPdV
set_option linter.unusedVariables false
set_option linter.unusedSimpArgs false
namespace Go.Proofs.Ytkblldmpdihamaa
open Go.RowKit

/-- The row of a number's bits, the highest t of x bits laid. -/
def rowT (l : List Nat) (A x t : Nat) : Nat → Bool := fun q => decide (q < x) && (decide (x ≤ q + t) && decide (bitAt l (A + (x - 1 - q)) = 1))
theorem setCell_comm (w : World) {a b : Nat} (h : a ≠ b) {i j : Nat} {u v : Value} : (w.setCell ⟨a, i, none⟩ u).setCell ⟨b, j, none⟩ v = (w.setCell ⟨b, j, none⟩ v).setCell ⟨a, i, none⟩ u := by
  unfold World.setCell
  simp only
  congr 1
  apply Array.ext_getElem?
  intro k
  simp only [Array.getElem?_modify]
  by_cases e1 : a = k
  · have e2 : ¬ b = k := by omega
    simp [e1, e2]
  · simp [e1]
theorem rowT_zero (l : List Nat) (A x : Nat) : rowL (rowT l A x 0) = rowL fun _ => false := rowL_congr fun q hq => by
  unfold rowT
  by_cases h : q < x
  · have : decide (x ≤ q + 0) = false := by simp; omega
    rw [this]; simp
  · simp [h]
theorem rowT_next (l : List Nat) (A x t : Nat) (ht : t < x) (hx : x ≤ 128) : (rowL (rowT l A x t)).set (x - 1 - t) (.bool (decide (bitAt l (A + t) = 1))) = rowL (rowT l A x (t + 1)) := by
  rw [rowL_set _ (by omega)]
  apply rowL_congr
  intro q hq
  unfold rowT
  by_cases e : q = x - 1 - t
  · rw [if_pos e]
    have h1 : q < x := by omega
    have h2 : x ≤ q + (t + 1) := by omega
    have h3 : x - 1 - q = t := by omega
    simp [h1, h2, h3]
  · rw [if_neg e]
    congr 1
    congr 1
    rw [Bool.eq_iff_iff]
    simp only [decide_eq_true_eq]
    omega
theorem rowT_end (l : List Nat) (A x : Nat) (hx : x ≤ 128) : nOf (rowT l A x x) = valN l A x := bt_ext fun i hi => by
  rw [bt_nOf _ hi, bt_valN l A x i hx hi]
  unfold rowT
  have : x ≤ i + x := by omega
  simp [this]

section
variable {w : World} {L : List Nat} {port : Int} {mt : List (BitVec 128)} {S : PD} {k : PK} {hs : List (SL × List Int)} {p : PG}
abbrev PG.cs (p : PG) : List Value := [p.heads.v, p.metas.v, p.steps.v, p.acts.v, p.tabs.v, p.control.v, p.emit.v, p.n0.v, p.n1.v, p.n2.v, p.n3.v, p.n4.v]
set_option maxRecDepth 100000 in
set_option maxHeartbeats 4000000 in
theorem rtake_any (D : Doc w L port mt S k) (O : S.Ok hs) (H : HeadsAre w p.heads hs) (hok : HsOk hs) (hm : mt.length ≤ 16) (hL : ∀ q ∈ L, q < w.heap.size) (h : Int) :
    Calls Try.prog 43 #[p.v, k.v, .int .i64 h] w
      (fun e w' => ∃ k' : PK, e = .returned (.tuple #[k'.v, .bool (S.take hs h).isSome]) ∧ Below w.heap.size w w' ∧ Doc w' L port mt ((S.take hs h).getD S) k') := by
  obtain ⟨fs, D, hfs, SC0⟩ := D
  have few := DocIs.few (L := L) (w := w) (k := k) (fs := fs) O hok.few hok.hi hm
  have OW := hid (fun V (hb : Below w.heap.size w V) => own_any (D.rest.below hb) (D.valid.below hb) (D.frd.below hb) (D.metas.below hb) hfs few)
  clear few
  have SC := hid SC0
  have HL := hid hL
  clear SC0 hL
  have hhl := H.len
  have hhf : Few (headAt hs h).2 := by
    unfold headAt
    split
    · exact ⟨by simp, by simp⟩
    · cases hx : hs[h.toNat]? with
      | none => exact ⟨by simp, by simp⟩
      | some x => exact (hok_facts (hok.each x (List.mem_of_getElem? hx))).1
  have SZ := hid (fun V (hb : Below w.heap.size w V) => rsize_any (H.below hb) h hhf)
  go_enter Try.func43, Try.ntmps43
  go_upto_region 1 with (fail)
  refine wp_gen (fun U hV => ?_)
  have hbU : Below w.heap.size w U := by rw [hV]; (repeat' (first | (with_reducible exact Below.refl _ _) | (with_reducible refine Below.ext_mk ?_ ?_ _ _) | (with_reducible refine Below.alloc ?_ ?_ _) | (with_reducible refine Below.drew ?_) | (with_reducible refine Below.setCell ?_ ?_ _) | go_size))
  have UP : Hid (Blk U w.heap.size 33 p.cs) := by
    rw [hV]
    exact hid ((Blk.new w 33 p.cs).below (Below.alloc (Below.alloc (Below.refl _ _) (Nat.le_refl _) (.cells k.cs.toArray 39)) (by simp) (.cells zeroCs.toArray 39)))
  have UK : Hid (Blk U (w.heap.size + 1) 39 k.cs) := by
    rw [hV]
    have h := (Blk.new (w.alloc (.cells p.cs.toArray 33)) 39 k.cs).below (Below.alloc (Below.refl _ _) (Nat.le_refl _) (.cells zeroCs.toArray 39))
    simp only [World.size_alloc] at h
    exact hid h
  have UZ : Hid (Blk U (w.heap.size + 1 + 1) 39 zeroCs) := by
    rw [hV]
    have h := Blk.new ((w.alloc (.cells p.cs.toArray 33)).alloc (.cells k.cs.toArray 39)) 39 zeroCs
    simp only [World.size_alloc] at h
    exact hid h
  clear hV
  have hUs := hbU.size
  have p0 := UP.out.cell 0
  have z0 := UP.out.lt
  simp only [List.getElem?_cons_zero] at p0
  by_cases h0 : h < 0
  · have EG : Hid (S.take hs h = none) := hid (by unfold PD.take; rw [if_neg (fun q => by omega)])
    go_upto_region 2 with (fail)
    refine wp_region_doc (fun F hF => ?_)
    have HF := hid hF
    clear hF
    refine doc_val rfl (load_agg_op _ _ _ _ _ _ _ _ Try.underlying39 (pk_size _ rfl) rfl UK.out) ?_
    simp only [Act.put, List.setIfInBounds_toArray, List.set_cons_zero, List.set_cons_succ]
    refine doc_skip rfl (store_row_op (xs := zeroCs) (ys := k.cs) _ _ _ _ _ _ _ _ _ (pk_size _ rfl) rfl (by simp [Value.oneCell']) rfl rfl UZ.out) ?_
    simp only [Act.put, List.setIfInBounds_toArray, List.set_cons_zero, List.set_cons_succ]
    refine doc_val rfl (by first | (go_simp; done) | (go_simp; exact ⟨rfl, rfl⟩) | (go_simp; with_reducible rfl)) ?_
    simp only [Act.put, List.setIfInBounds_toArray, List.set_cons_zero, List.set_cons_succ]
    refine doc_end (HF.out _ _ ?_)
    clear HF F
    go_wp2
    refine bodyPost_ret (res_cellT (v := .bool false) rfl rfl rfl (UZ.out.row _) Try.underlying39 (pk_size _ rfl)) rfl ⟨_, by rw [EG.out]; rfl, Below.setRow hbU (by omega) _, ?_⟩
    rw [EG.out]
    exact ⟨fs, D.below (Below.setRow hbU (by omega) _), hfs, SC.out⟩
  by_cases h1 : (hs.length : Int) ≤ h
  · have EG : Hid (S.take hs h = none) := hid (by unfold PD.take; rw [if_neg (fun q => by omega)])
    have h1' : (p.heads.n : Int) ≤ h := by omega
    go_upto_region 2 with (fail)
    refine wp_region_doc (fun F hF => ?_)
    have HF := hid hF
    clear hF
    refine doc_val rfl (load_agg_op _ _ _ _ _ _ _ _ Try.underlying39 (pk_size _ rfl) rfl UK.out) ?_
    simp only [Act.put, List.setIfInBounds_toArray, List.set_cons_zero, List.set_cons_succ]
    refine doc_skip rfl (store_row_op (xs := zeroCs) (ys := k.cs) _ _ _ _ _ _ _ _ _ (pk_size _ rfl) rfl (by simp [Value.oneCell']) rfl rfl UZ.out) ?_
    simp only [Act.put, List.setIfInBounds_toArray, List.set_cons_zero, List.set_cons_succ]
    refine doc_val rfl (by first | (go_simp; done) | (go_simp; exact ⟨rfl, rfl⟩) | (go_simp; with_reducible rfl)) ?_
    simp only [Act.put, List.setIfInBounds_toArray, List.set_cons_zero, List.set_cons_succ]
    refine doc_end (HF.out _ _ ?_)
    clear HF F
    go_wp2
    refine bodyPost_ret (res_cellT (v := .bool false) rfl rfl rfl (UZ.out.row _) Try.underlying39 (pk_size _ rfl)) rfl ⟨_, by rw [EG.out]; rfl, Below.setRow hbU (by omega) _, ?_⟩
    rw [EG.out]
    exact ⟨fs, D.below (Below.setRow hbU (by omega) _), hfs, SC.out⟩
  obtain ⟨i, rfl⟩ : ∃ i : Nat, h = (i : Int) := ⟨h.toNat, by omega⟩
  have hil : i < hs.length := by omega
  obtain ⟨y, hy⟩ : ∃ y, hs[i]? = some y := ⟨hs[i], List.getElem?_eq_getElem hil⟩
  have hA : headAt hs (i : Int) = y := by unfold headAt; rw [if_neg (by omega), Int.toNat_natCast, hy]; rfl
  have hyo := hok.each y (List.mem_of_getElem? hy)
  rw [hA] at SZ hhf
  have hiv : i < S.va.length := by have := O.va; omega
  obtain ⟨v, hv⟩ : ∃ v, S.va[i]? = some v := ⟨S.va[i], List.getElem?_eq_getElem hiv⟩
  obtain ⟨vb, vo, ev, zv, hvl, cv⟩ := D.valid.one (i := i) (u := .bool v) (by simp [bools, hv])
  have hrn : k.rest.n = S.l.length := by have := D.rest.2.2.1; rw [byts_length] at this; omega
  have eg : S.take hs (i : Int) = if v = false ∧ y.2.sum / 8 ≤ (S.l.length : Int) then some { S with l := S.l.drop (y.2.sum / 8).toNat, va := S.va.set i true, nss := S.nss.set i (takeN S.l 0 y.2) } else none := by
    unfold PD.take
    rw [hA, Int.toNat_natCast, List.getD_eq_getElem?_getD, hv]
    simp only [Option.getD_some]
    by_cases q : v = false ∧ y.2.sum / 8 ≤ (S.l.length : Int)
    · rw [if_pos q, if_pos ⟨by omega, by omega, q.1, q.2⟩]
    · rw [if_neg q, if_neg (fun z => q ⟨z.2.2.1, z.2.2.2⟩)]
  have hkp : ¬ (p.heads.n : Int) ≤ (i : Int) := by omega
  go_upto_region 3 with (fail)
  refine wp_region_doc (fun F hF => ?_)
  have HF := hid hF
  clear hF
  refine doc_val rfl (load_agg_op _ _ _ _ _ _ _ _ Try.underlying33 (prog_size _ rfl) rfl UP.out) ?_
  simp only [Act.put, List.setIfInBounds_toArray, List.set_cons_zero, List.set_cons_succ]
  refine doc_val rfl (by first | (go_simp; done) | (go_simp; exact ⟨rfl, rfl⟩) | (go_simp; with_reducible rfl)) ?_
  simp only [Act.put, List.setIfInBounds_toArray, List.set_cons_zero, List.set_cons_succ]
  refine doc_call (f := 22) (args := #[p.v, .int .i64 i]) rfl (by first | (go_simp; done) | (go_simp; exact ⟨rfl, rfl⟩) | (go_simp; with_reducible rfl)) ((SZ.out _ hbU).mono ?_)
  rintro _ _ ⟨rfl, m1, d1, rfl⟩
  refine ⟨_, rfl, ?_⟩
  simp only [Act.put, List.setIfInBounds_toArray, List.set_cons_zero, List.set_cons_succ]
  refine doc_val rfl (by first | (go_simp; done) | (go_simp; exact ⟨rfl, rfl⟩) | (go_simp; with_reducible rfl)) ?_
  simp only [Act.put, List.setIfInBounds_toArray, List.set_cons_zero, List.set_cons_succ]
  refine doc_end (HF.out _ _ ?_)
  clear HF F
  have hbX : Below w.heap.size w (U.ext m1 d1) := by (repeat' (first | (with_reducible exact hbU) | (with_reducible exact Below.refl _ _) | (with_reducible refine Below.ext_mk ?_ ?_ _ _) | (with_reducible refine Below.alloc ?_ ?_ _) | (with_reducible refine Below.drew ?_) | (with_reducible refine Below.setCell ?_ ?_ _) | go_size))
  have XP := hid (UP.out.ext m1 d1)
  have XK := hid (UK.out.ext m1 d1)
  have XZ := hid (UZ.out.ext m1 d1)
  clear UP UK UZ SZ p0 z0
  generalize U.ext m1 d1 = X at *
  clear hbU hUs
  have hXs := hbX.size
  have u1 := XK.out.cell 1
  have u2 := XK.out.cell 2
  have zk := XK.out.lt
  simp only [List.getElem?_cons_zero, List.getElem?_cons_succ] at u1 u2
  have dv := (hbX.cell (p := ⟨vb, vo + i, none⟩) zv).trans cv
  have zv' : vb < X.heap.size := by omega
  have DD := hid D
  have HH := hid H
  have OO := hid O
  have EG0 := hid eg
  clear D H O eg cv
  obtain ⟨port', ⟨ra, rn, rc⟩, ⟨va', vn, vc⟩, kf, metas, dr, se, eg', ac⟩ := k
  simp only at ev hvl u1 u2 hrn
  subst ev hrn
  simp only [SL.v_mk] at u1 u2
  have k1 : (i : Int) < (vn : Int) := by omega
  obtain ⟨sz, hsz⟩ : ∃ sz, sz = y.2.sum / 8 := ⟨_, rfl⟩
  rw [← hsz] at EG0 ⊢
  cases v
  · by_cases hlen : (S.l.length : Int) < sz
    · have EG : Hid (S.take hs (i : Int) = none) := hid (by rw [EG0.out, if_neg (fun q => by omega)])
      go_upto_region 5 with (fail)
      refine wp_region_doc (fun F hF => ?_)
      have HF := hid hF
      clear hF
      refine doc_val rfl (load_agg_op _ _ _ _ _ _ _ _ Try.underlying39 (pk_size _ rfl) rfl XK.out) ?_
      simp only [Act.put, List.setIfInBounds_toArray, List.set_cons_zero, List.set_cons_succ]
      refine doc_skip rfl (store_row_op (xs := zeroCs) (ys := (PK.mk port' ⟨ra, S.l.length, rc⟩ ⟨some ⟨vb, vo, none⟩, vn, vc⟩ kf metas dr se eg' ac).cs) _ _ _ _ _ _ _ _ _ (pk_size _ rfl) rfl (by simp [Value.oneCell']) rfl rfl XZ.out) ?_
      simp only [Act.put, List.setIfInBounds_toArray, List.set_cons_zero, List.set_cons_succ]
      refine doc_val rfl (by first | (go_simp; done) | (go_simp; exact ⟨rfl, rfl⟩) | (go_simp; with_reducible rfl)) ?_
      simp only [Act.put, List.setIfInBounds_toArray, List.set_cons_zero, List.set_cons_succ]
      refine doc_end (HF.out _ _ ?_)
      clear HF F
      go_wp2
      refine bodyPost_ret (res_cellT (v := .bool false) rfl rfl rfl (XZ.out.row _) Try.underlying39 (pk_size _ rfl)) rfl ⟨_, by rw [EG.out]; rfl, Below.setRow hbX (by omega) _, ?_⟩
      rw [EG.out]
      exact ⟨fs, DD.out.below (Below.setRow hbX (by omega) _), hfs, SC.out⟩
    · have egs : S.take hs (i : Int) = some { S with l := S.l.drop sz.toNat, va := S.va.set i true, nss := S.nss.set i (takeN S.l 0 y.2) } := by rw [EG0.out, if_pos ⟨rfl, by omega⟩]
      have EGS := hid egs
      clear egs EG0
      go_upto_region 6 with (fail)
      refine wp_region_doc (fun F hF => ?_)
      have HF := hid hF
      clear hF
      refine doc_val rfl (load_agg_op _ _ _ _ _ _ _ _ Try.underlying39 (pk_size _ rfl) rfl XK.out) ?_
      simp only [Act.put, List.setIfInBounds_toArray, List.set_cons_zero, List.set_cons_succ]
      refine doc_call (f := 14) (args := #[(PK.mk port' ⟨ra, S.l.length, rc⟩ ⟨some ⟨vb, vo, none⟩, vn, vc⟩ kf metas dr se eg' ac).v]) rfl (by first | (go_simp; done) | (go_simp; exact ⟨rfl, rfl⟩) | (go_simp; with_reducible rfl)) ((OW.out _ hbX).mono ?_)
      rintro _ W6 ⟨r3, v3, f3, m3, fs3, gs3, Gr, Gv, Gm, Gf, rfl, hB6, hfs3, CI⟩
      refine ⟨_, rfl, ?_⟩
      simp only [Act.put, List.setIfInBounds_toArray, List.set_cons_zero, List.set_cons_succ]
      refine doc_skip rfl (store_row_op (xs := (PK.mk port' ⟨ra, S.l.length, rc⟩ ⟨some ⟨vb, vo, none⟩, vn, vc⟩ kf metas dr se eg' ac).cs) (ys := (PK.mk port' r3 v3 f3 m3 dr se eg' ac).cs) _ _ _ _ _ _ _ _ _ (pk_size _ rfl) rfl (by simp [Value.oneCell']) rfl rfl (XK.out.below hB6)) ?_
      simp only [Act.put, List.setIfInBounds_toArray, List.set_cons_zero, List.set_cons_succ]
      refine doc_end (HF.out _ _ ?_)
      clear HF F OW
      go_upto_region 7 with (fail)
      refine wp_gen (fun T hTT => ?_)
      have h6s := hB6.size
      have zB3 := XZ.out.lt
      have tT : Turn W6 T [w.heap.size + 1] := by rw [hTT]; exact Turn.row _ _ (by simp)
      have bC : Blk T (w.heap.size + 1) 39 (PK.mk port' r3 v3 f3 m3 dr se eg' ac).cs := by rw [hTT]; exact (XK.out.below hB6).row _
      clear hTT
      have hno : ∀ q, q ≠ w.heap.size + 1 → q ∉ [w.heap.size + 1] := fun q hq hm => hq (by simpa using hm)
      have CIT := CI.keep (w' := T) (fun g hg hB => tT.block g hg (hno g (by omega)))
      have tZ := tT.blk (XZ.out.below hB6) (hno _ (by omega))
      have tP := tT.blk (XP.out.below hB6) (hno _ (by omega))
      have hbT : Below w.heap.size w T := (hbX.trans (hB6.mono hXs)).trans (tT.below (fun q hq => by simp at hq; omega) (by omega))
      have hTX : X.heap.size ≤ T.heap.size := by have := tT.size; omega
      clear CI tT XZ XK XP hB6 u1 u2 dv hno
      have hin : i < S.nss.length := by have := OO.out.nl; omega
      obtain ⟨ns, hns⟩ : ∃ ns, S.nss[i]? = some ns := ⟨S.nss[i], List.getElem?_eq_getElem hin⟩
      have hnl : ns.length = y.2.length := by obtain ⟨y', hy', e'⟩ := OO.out.at hns; rw [hy] at hy'; cases hy'; exact e'
      obtain ⟨s3, hx3⟩ := fmap_at hfs3 hin
      rw [(List.getElem?_eq_some_iff.1 hns).2] at hx3
      have hfl : i < fs3.length := (List.getElem?_eq_some_iff.1 hx3).1
      have hig : i < gs3.length := by have := CIT.len; omega
      have hg3 := List.getElem?_eq_getElem hig
      have hrow3 := CIT.each i _ _ hx3 hg3
      have hsn3 := (RowIs.rdS hrow3).2.1
      have hs3a : s3.a = some ⟨gs3[i], 0, none⟩ := by
        rcases hrow3.2 with ⟨_, _, h⟩ | ⟨g', cap, cur, h1, h2, _⟩
        · cases h
        · cases h2
          unfold SL.v at h1
          injection h1
      obtain ⟨gf, f3c, q1, q2, q3, _⟩ := RowIs.at CIT.row (i := i) (j := 0) hfl (by omega)
      subst q2
      rw [Nat.mul_one, Nat.add_zero, List.getElem?_map, hx3] at q3
      have hf3 : f3 = ⟨some ⟨gf, 0, none⟩, fs3.length, f3c⟩ := by
        obtain ⟨a, n, c⟩ := f3
        simp only [SL.v_mk] at q1
        injection q1 with e1 e2 e3
        rw [e1, e2, e3]
      obtain ⟨g3, hg3'⟩ : ∃ g3, g3 = gs3[i] := ⟨_, rfl⟩
      rw [← hg3'] at hs3a hg3
      have hgB := (CIT.ge g3 (by rw [hg3']; exact List.getElem_mem _))
      clear hg3'
      obtain ⟨s3a, s3n, s3c⟩ := s3
      simp only at hsn3 hs3a
      subst hsn3 hs3a hf3
      -- the bytes
      obtain ⟨hFew, hf2, hf3', hf4⟩ := hok_facts hyo
      have hr3n := (RowIs.rdS CIT.rest).2.1
      have hr3a : r3.a = some ⟨Gr, 0, none⟩ := by
        rcases CIT.rest.2 with ⟨_, _, h⟩ | ⟨g', cap, cur, h1, h2, _⟩
        · cases h
        · cases h2
          unfold SL.v at h1
          injection h1
      obtain ⟨r3a, r3n, r3c⟩ := r3
      simp only at hr3n hr3a
      subst hr3n hr3a
      obtain ⟨pb, po, ep, zp, _, cp⟩ := HH.out.row.one (i := i) (u := y.1.v) (by rw [List.getElem?_map, hy]; rfl)
      have YR := hid (HH.out.each y (List.mem_of_getElem? hy))
      have hyn := YR.out.int
      have hrng0 := wok_range hyo.ok
      obtain ⟨⟨ya, yn, yc⟩, ws⟩ := y
      simp only at hyn hnl hFew hf2 hf3' hf4 hsz EGS hrng0
      subst hyn
      have hrng := hid hrng0
      clear hrng0
      have hw16 : ws.length ≤ 16 := hyo.hi
      obtain ⟨⟨pa, pn, pc⟩, pm, s2', s3', s4', s5', em, n0, n1, n2, n3, n4⟩ := p
      simp only at ep hhl
      subst ep hhl
      have KN := hid (And.intro hfs3 (And.intro hns hy))
      have CT := hid CIT
      have HXG := hid (And.intro hx3 hg3)
      have hdf : (fs3.set i ((⟨some ⟨g3, 0, none⟩, ns.length, s3c⟩ : SL), ns)) = fs3 := by
        apply List.ext_getElem?
        intro j
        rw [List.getElem?_set]
        split
        · rename_i e; subst e; rw [hx3]
        · rfl
      have HDF := hid hdf
      have TZ := hid tZ
      have TP := hid tP
      have BC := hid bC
      have hT0 := hbT.size
      clear hfs3 hns hy hx3 hg3 hrow3 hdf CIT tZ tP bC hA hfs
      have k2 : (i : Int) < (hs.length : Int) := by omega
      have k3 : (i : Int) < (fs3.length : Int) := by omega
      obtain ⟨N, hN⟩ : ∃ N, N = takeN S.l 0 ws := ⟨_, rfl⟩
      have hNl : N.length = ns.length := by rw [hN, takeN_length]; omega
      have HN := hid hN
      clear hN
      have c0 := TP.out.cell 0
      have zc0 := TP.out.lt
      simp only [List.getElem?_cons_zero, List.getElem?_cons_succ, SL.v_mk] at c0 q3 cp
      go_wp2_with fail
      clear c0
      go_loopw [9, 10] (fun av fv wr => ∃ f : Nat, f ≤ ws.length ∧ av = .int .i64 ((ws.take f).sum.toNat : Nat) ∧ fv = .int .i64 f ∧ Turn T wr [g3] ∧
        CopyIs X.heap.size wr (PK.mk port' ⟨some ⟨Gr, 0, none⟩, S.l.length, r3c⟩ v3 ⟨some ⟨gf, 0, none⟩, fs3.length, f3c⟩ m3 dr se eg' ac) S.l S.va (fs3.set i ((⟨some ⟨g3, 0, none⟩, ns.length, s3c⟩ : SL), mixN N ns f)) gs3 mt Gr Gv Gm (some gf))
        (fun _ fv _ => ws.length - (intOf fv).toNat)
      case atStart => exact ⟨0, by omega, by simp, rfl, Turn.refl _ _, by rw [mixN_zero, HDF.out]; exact CT.out⟩
      case round =>
        obtain ⟨f, hf, rfl, rfl, tr, CR⟩ := hrel
        have hrs := tr.size
        have g3no : ∀ q, q < X.heap.size → q ∉ [g3] := fun q hq hm => by simp at hm; omega
        have hbr : Below w.heap.size w wr := hbT.trans (tr.below (fun q hq => by simp at hq; omega) hT0)
        have rP := tr.blk TP.out (g3no _ (by omega))
        have rC := tr.blk BC.out (g3no _ (by omega))
        have c0 := rP.cell 0
        have z0 := rP.lt
        simp only [List.getElem?_cons_zero, List.getElem?_cons_succ, SL.v_mk] at c0
        have d0 := (hbr.cell (p := ⟨pb, po + i, none⟩) zp).trans cp
        have zp' : pb < wr.heap.size := by have := hbr.size; omega
        by_cases hlt : f < ws.length
        · have hf1 : (f : Int) < (ws.length : Int) := by omega
          obtain ⟨qb, qo, eq, zq, cq⟩ := RdS.intAt YR.out hlt
          simp only at eq
          subst eq
          obtain ⟨xi, hxi⟩ : ∃ xi, xi = ws[f] := ⟨_, rfl⟩
          have hxr := hrng.out ws[f] (List.getElem_mem _)
          rw [← hxi] at cq hxr
          obtain ⟨x, rfl⟩ : ∃ x : Nat, xi = (x : Int) := ⟨xi.toNat, by omega⟩
          have hs0 := sum_mono hFew.pos f
          have hs1 := sum_mono hFew.pos (f + 1)
          have hsn := sum_snoc ws hlt
          rw [← hxi] at hsn
          have hAx : (ws.take (f + 1)).sum.toNat = (ws.take f).sum.toNat + x := by omega
          have hAl : (ws.take f).sum.toNat + x ≤ 8 * S.l.length := by omega
          have HAX := hid hAx
          have hNf : N[f]? = some (valN S.l (ws.take f).sum.toNat x) := by
            have := takeN_at S.l ws 0 f hFew.pos hlt
            rw [← HN.out, ← hxi, Nat.zero_add, Int.toNat_natCast] at this
            exact this
          have HNF := hid hNf
          have hAm : (ws.take f).sum.toNat ≤ 256 := by omega
          obtain ⟨A, hA⟩ : ∃ A, A = (ws.take f).sum.toNat := ⟨_, rfl⟩
          rw [← hA] at HAX HNF hAl hAm ⊢
          have HA := hid hA
          clear hA hs0 hs1 hsn hAx hNf hxi
          have e0 := (hbr.cell (p := ⟨qb, qo + f, none⟩) zq).trans cq
          have zq' : qb < wr.heap.size := by have := hbr.size; omega
          have hz := (zero_of_info (P := Try.prog) row_info).1
          go_upto_region 12 with (fail)
          refine wp_gen (fun Y hY => ?_)
          have hbY : Below wr.heap.size wr Y := by rw [hY]; (repeat' (first | (with_reducible exact Below.refl _ _) | (with_reducible refine Below.ext_mk ?_ ?_ _ _) | (with_reducible refine Below.alloc ?_ ?_ _) | (with_reducible refine Below.drew ?_) | (with_reducible refine Below.setCell ?_ ?_ _) | go_size))
          have bRow : Blk Y wr.heap.size 86 (rowL (rowT S.l A x 0)) := by
            rw [rowT_zero, hY]
            exact Blk.new wr 86 (rowL fun _ => false)
          clear hY hz
          have hYs := hbY.size
          have rows := bRow.lt
          have hbYw : Below w.heap.size w Y := hbr.trans (hbY.mono hbr.size)
          obtain ⟨rb, hrb⟩ : ∃ rb, rb = wr.heap.size := ⟨_, rfl⟩
          have clt := CR.lt
          rw [← hrb] at bRow rows clt ⊢
          have YP := hid (rP.below hbY)
          have YC := hid (rC.below hbY)
          have CY := hid (CR.below hbY)
          have hrX : X.heap.size ≤ rb := by omega
          have g3r : g3 < rb := by have := RowIs.lt (CR.each i _ _ (by rw [List.getElem?_set, if_pos rfl, if_pos hfl]) HXG.out.2) g3 rfl; omega
          have grr : Gr < rb := by have := RowIs.lt CR.rest Gr rfl; omega
          have tYY := hid (tr.trans (Turn.of_below hbY))
          have HYR := hid (And.intro (by omega : T.heap.size ≤ rb) trivial)
          clear hrb tr CR rP rC c0 z0 d0 e0 hbY
          have c0 := YP.out.cell 0
          have z0 := YP.out.lt
          simp only [List.getElem?_cons_zero, List.getElem?_cons_succ, SL.v_mk] at c0
          have d0 := (hbYw.cell (p := ⟨pb, po + i, none⟩) zp).trans cp
          have zp2 : pb < Y.heap.size := by omega
          have e0 := (hbYw.cell (p := ⟨qb, qo + f, none⟩) zq).trans cq
          have zq2 : qb < Y.heap.size := by omega
          have hx1 : IntKind.i64.wrap ((x : Int) - 1) = (x : Int) - 1 := IntWalk.i64_in _ (by omega)
          have hx128 : x ≤ 128 := by omega
          go_wp2_with fail
          clear c0 d0 e0 hx1
          go_loopw [9, 12] (fun av iv wq => ∃ t : Nat, t ≤ x ∧ av = .int .i64 ((A + t : Nat) : Int) ∧ iv = .int .i64 ((x : Int) - 1 - (t : Int)) ∧ Turn Y wq [rb] ∧ Blk wq rb 86 (rowL (rowT S.l A x t)))
            (fun _ iv _ => (intOf iv + 1).toNat)
          case atStart => exact ⟨0, by omega, by simp, by simp, Turn.refl _ _, bRow⟩
          case round =>
            obtain ⟨t, ht, rfl, rfl, tq, bq⟩ := hrel
            have hqs := tq.size
            have rno : ∀ q, q < rb → q ∉ [rb] := fun q hq hm => by simp at hm; omega
            have zrb := bq.lt
            by_cases htx : t < x
            · obtain ⟨qq, hqq⟩ : ∃ qq : Nat, (x : Int) - 1 - (t : Int) = (qq : Int) := ⟨x - 1 - t, by omega⟩
              have hqn : qq = x - 1 - t := by omega
              rw [hqq]
              have q0 : (0 : Int) ≤ (qq : Int) := by omega
              have q1 : (qq : Int) < 128 := by omega
              obtain ⟨a, ha⟩ : ∃ a, a = A + t := ⟨_, rfl⟩
              rw [← ha]
              have hal : a / 8 < S.l.length := by omega
              obtain ⟨by8, hby⟩ : ∃ b, S.l[a / 8]? = some b := ⟨S.l[a / 8], List.getElem?_eq_getElem hal⟩
              have hb256 := OO.out.bytes by8 (List.mem_of_getElem? hby)
              obtain ⟨_, _, y1, y2, y3, _⟩ := RowIs.at CY.out.rest (i := a / 8) (j := 0) hal (by omega)
              cases y2
              rw [Nat.mul_one, Nat.add_zero, show (byts S.l)[a / 8]? = some (.int .u8 (by8 : Int)) by simp [byts, hby]] at y3
              have yC := tq.blk YC.out (rno _ (by omega))
              have x1 := yC.cell 1
              have zx1 := yC.lt
              simp only [List.getElem?_cons_zero, List.getElem?_cons_succ, SL.v_mk] at x1
              have x2 := tq.cell (by omega : Gr < Y.heap.size) (rno _ grr) y3
              have zGr : Gr < wr.heap.size := by omega
              have hbit : bitAt S.l a = by8 / 2 ^ (7 - a % 8) % 2 := by unfold bitAt; rw [List.getD_eq_getElem?_getD, hby]; rfl
              have HB := hid hbit
              obtain ⟨q8, hq8⟩ : ∃ q8, q8 = a / 8 := ⟨_, rfl⟩
              obtain ⟨r8, hr8⟩ : ∃ r8, r8 = a % 8 := ⟨_, rfl⟩
              rw [← hq8] at x2 hal
              rw [← hr8] at HB
              have a0 : (0 : Int) ≤ (a : Int) := by omega
              have a1 : (a : Int) ≤ 1000000 := by omega
              have hdv : (a : Int) / 8 = (q8 : Int) := by omega
              have hwq : IntKind.i64.wrap (q8 : Int) = (q8 : Int) := IntWalk.i64_in _ (by omega)
              have hq1 : (q8 : Int) < (S.l.length : Int) := by omega
              have hq0 : (0 : Int) ≤ (q8 : Int) := by omega
              have het : (a : Int).tmod 8 = (r8 : Int) := by rw [Int.tmod_eq_emod_of_nonneg a0]; omega
              have hr7 : r8 ≤ 7 := by omega
              have HQ := hid (And.intro hqn (And.intro ha hqq))
              clear hq8 hr8 hby hbit y1 y3 hqn ha hqq yC
              go_upto_region 16 with (fail)
              go_wp2_with fail
              go_loopw [13, 14] (fun xv kv wz => ∃ kk : Nat, r8 ≤ kk ∧ kk ≤ 7 ∧ xv = .int .u8 ((by8 / 2 ^ (kk - r8) : Nat) : Int) ∧ kv = .int .i64 (kk : Int) ∧ wz = wr)
                (fun _ kv _ => 7 - (intOf kv).toNat)
              case atStart => exact ⟨r8, Nat.le_refl _, hr7, by simp, rfl, rfl⟩
              case round =>
                obtain ⟨kk, hk1, hk2, rfl, rfl, hwz⟩ := hrel
                subst hwz
                by_cases hk7 : kk < 7
                · have hki : (kk : Int) < 7 := by omega
                  have hpow : (by8 / 2 ^ (kk + 1 - r8) : Nat) = by8 / 2 ^ (kk - r8) / 2 := by
                    rw [show kk + 1 - r8 = (kk - r8) + 1 by omega, Nat.pow_succ, Nat.div_div_eq_div_mul]
                  have HP := hid hpow
                  have hX256 : by8 / 2 ^ (kk - r8) < 256 := Nat.lt_of_le_of_lt (Nat.div_le_self _ _) hb256
                  clear hpow
                  generalize by8 / 2 ^ (kk - r8) = X8 at *
                  have hX0 : (0 : Int) ≤ (X8 : Int) := by omega
                  have hX1 : (X8 : Int) ≤ 255 := by omega
                  have hd0 : (X8 : Int).tdiv 2 = ((X8 / 2 : Nat) : Int) := by rw [Int.tdiv_eq_ediv_of_nonneg hX0]; omega
                  have hw8 : IntKind.u8.wrap ((X8 / 2 : Nat) : Int) = ((X8 / 2 : Nat) : Int) := IntWalk.u8_in _ (by omega)
                  have hkw : IntKind.i64.wrap ((kk : Int) + 1) = (kk : Int) + 1 := IntWalk.i64_in _ (by omega)
                  go_wp2_with fail
                  go_roundw
                  case rel => exact ⟨kk + 1, by omega, by omega, by rw [HP.out]; first | done | (congr 1; omega) | simp, by go_num, by first | rfl | trivial⟩
                  case measure => simp [intOf]; omega
                · have hk : kk = 7 := by omega
                  subst hk
                  rw [show ((7 : Nat) : Int) = 7 from rfl]
                  have hX256 : by8 / 2 ^ (7 - r8) < 256 := Nat.lt_of_le_of_lt (Nat.div_le_self _ _) hb256
                  generalize by8 / 2 ^ (7 - r8) = X8 at *
                  have hX0 : (0 : Int) ≤ (X8 : Int) := by omega
                  have hX1 : (X8 : Int) ≤ 255 := by omega
                  have hm2 : (X8 : Int).tmod 2 = ((X8 % 2 : Nat) : Int) := by rw [Int.tmod_eq_emod_of_nonneg hX0]; omega
                  have hw8 : IntKind.u8.wrap ((X8 % 2 : Nat) : Int) = ((X8 % 2 : Nat) : Int) := IntWalk.u8_in _ (by omega)
                  have hb1 : ((X8 : Int) % 2 == 1) = decide (bitAt S.l a = 1) := by rw [HB.out]; rw [Bool.eq_iff_iff]; simp; omega
                  have zq5 := bq.cell qq
                  rw [rowL_at _ (by have := HQ.out.1; omega)] at zq5
                  have fq5 := bq.free qq
                  have haw : IntKind.i64.wrap ((a : Int) + 1) = (a : Int) + 1 := IntWalk.i64_in _ (by omega)
                  have hqw : IntKind.i64.wrap ((qq : Int) - 1) = (qq : Int) - 1 := IntWalk.i64_in _ (by omega)
                  generalize rowT S.l A x t qq = bold at zq5
                  clear x1 x2
                  have HB1 := hid hb1
                  have BQ := hid bq
                  have TQ := hid tq
                  clear hb1 bq tq
                  go_wp2_with fail
                  go_roundw
                  case rel =>
                    refine ⟨t + 1, by omega, ?_, ?_, TQ.out.trans (Turn.set_ rb _ _ (by simp)), ?_⟩
                    · congr 1; have := HQ.out.2.1; omega
                    · congr 1; have := HQ.out.2.2; omega
                    · rw [HB1.out, ← rowT_next S.l A x t htx hx128, ← HQ.out.2.1, ← HQ.out.1]
                      exact BQ.out.set_ _ _
                  case measure => first | (simp [intOf]; done) | (simp [intOf]; omega)
            · have htx' : t = x := by omega
              subst htx'
              have hneg : ¬ (0 : Int) ≤ (t : Int) - 1 - (t : Int) := by omega
              have KB := hid bq
              have KT := hid tq
              clear bq tq
              have rtot : T.heap.size ≤ rb := by have := HYR.out; omega
              have CW := hid (CY.out.keepN clt (fun g hg hgl => KT.out.block g hg (rno g hgl)))
              have RN := hid (fun (W : World) => (rowT_end S.l A t hx128 ▸ rnum_any (rowT S.l A t t) W : Calls Try.prog 55 #[rv (rowT S.l A t t)] W (Pure (nv (valN S.l A t)) W)))
              have hxs : (fs3.set i ((⟨some ⟨g3, 0, none⟩, ns.length, s3c⟩ : SL), mixN N ns f))[i]? = some ((⟨some ⟨g3, 0, none⟩, ns.length, s3c⟩ : SL), mixN N ns f) := by rw [List.getElem?_set, if_pos rfl, if_pos hfl]
              have hml : (mixN N ns f).length = ns.length := mixN_length N ns hNl f
              have hfm : f < (mixN N ns f).length := by omega
              obtain ⟨_, _, y1, y2, y3, _⟩ := RowIs.at CW.out.row (i := i) (j := 0) (by rw [List.length_set]; exact hfl) (by omega)
              cases y2
              rw [Nat.mul_one, Nat.add_zero, List.getElem?_map, hxs] at y3
              have C2 := CW.out.setNum (valN S.l A t) hxs HXG.out.2 hfm
              obtain ⟨xs, bX, hxsl⟩ := (RowIs.setNum (i := f) (valN S.l A t) (CW.out.each i _ _ hxs HXG.out.2) hfm).2
              have hset : (fs3.set i ((⟨some ⟨g3, 0, none⟩, ns.length, s3c⟩ : SL), mixN N ns f)).set i ((⟨some ⟨g3, 0, none⟩, ns.length, s3c⟩ : SL), (mixN N ns f).set f (valN S.l A t)) = fs3.set i ((⟨some ⟨g3, 0, none⟩, ns.length, s3c⟩ : SL), mixN N ns (f + 1)) := by
                rw [List.set_set, mixN_set N ns hNl HNF.out]
              simp only at C2
              rw [hset] at C2
              have KC2 := hid C2
              have KX := hid bX
              have zg := bX.lt
              have zgf := RowIs.lt CW.out.row gf rfl
              have yC := KT.out.blk YC.out (rno _ (by omega))
              have x3 := yC.cell 3
              have zx3 := yC.lt
              simp only [List.getElem?_cons_zero, List.getElem?_cons_succ, SL.v_mk, Option.map_some] at x3 y3
              have k5 : (f : Int) < (ns.length : Int) := by omega
              have hT2 : Turn T wr [g3] := tYY.out.from KT.out (fun q hq => by simp at hq; omega)
              have KT2 := hid hT2
              obtain ⟨m, hm'⟩ : ∃ m, m = valN S.l A t := ⟨_, rfl⟩
              rw [← hm'] at KC2 RN
              clear C2 hset hxs bX yC y1 hm' hT2
              go_upto_region 22 with (fail)
              refine wp_region_store 9 (by kernel_rfl) (by kernel_rfl) (by kernel_rfl) rfl (fun F' hF' G' hG' => ?_)
              simp only [List.take_succ_cons, List.take_zero, List.drop_succ_cons, List.drop_zero] at hG' ⊢
              have HF := hid hF'
              clear hF'
              have HGG := hid hG'
              clear hG'
              repeat (first
                | (apply text_val; (focus rfl); (focus (intro _ _; go_simp; with_reducible rfl)); simp only [Act.put, List.setIfInBounds_toArray, List.set_cons_zero, List.set_cons_succ])
                | (apply text_val; (focus rfl); (focus (intro m0 d0; exact load_row_op _ _ _ _ _ _ _ _ row_arr (row_size (rowT S.l A t t)) rfl (KB.out.ext m0 d0))); simp only [Act.put, List.setIfInBounds_toArray, List.set_cons_zero, List.set_cons_succ])
                | (apply text_call; (focus rfl); (focus (intro _ _; go_simp; exact ⟨rfl, rfl⟩)); (focus (intro _ _; with_reducible (exact RN.out _))); simp only [Act.put, List.setIfInBounds_toArray, List.set_cons_zero, List.set_cons_succ]))
              refine text_nil (HGG.out _ ?_)
              clear HGG G'
              apply store_step (W2 := (wr.setCell ⟨g3, f * 2, none⟩ (.int .u64 (hi m))).setCell ⟨g3, f * 2 + 1, none⟩ (.int .u64 (lo m)))
              · rfl
              · intro m' d
                refine ⟨m', d, (store_num_at _ _ _ _ _ _ _ _ rfl rfl (KX.out.ext m' d) hxsl).trans ?_⟩
                simp [zg]
              simp only [List.getElem_toArray, List.getElem_cons_succ, List.getElem_cons_zero]
              simp only [Act.put, List.setIfInBounds_toArray, List.set_cons_zero, List.set_cons_succ]
              refine both_nil (HF.out _ _ (fun m9 d9 => ?_))
              clear HF F' x3 y3
              have tQ : Turn wr (((wr.setCell ⟨g3, f * 2, none⟩ (.int .u64 (hi m))).setCell ⟨g3, f * 2 + 1, none⟩ (.int .u64 (lo m))).ext m9 d9) [g3] :=
                (Turn.set_ g3 _ _ (by simp)).trans ((Turn.set_ g3 _ _ (by simp)).trans (Turn.of_below (Below.ext_mk (Below.refl _ _) (Nat.le_refl _) _ _)))
              have CE := hid (KC2.out.below (Below.ext_mk (Below.refl _ _) (Nat.le_refl _) m9 d9))
              have TE := hid (KT2.out.trans tQ)
              clear tQ KC2 KT2 CW CY KX KB KT
              generalize (((wr.setCell ⟨g3, f * 2, none⟩ (.int .u64 (hi m))).setCell ⟨g3, f * 2 + 1, none⟩ (.int .u64 (lo m))).ext m9 d9) = Q at *
              have hfw : IntKind.i64.wrap ((f : Int) + 1) = (f : Int) + 1 := IntWalk.i64_in _ (by omega)
              go_wp2_with fail
              go_roundw
              case rel => exact ⟨f + 1, hlt, by rw [HAX.out], by go_num, TE.out, CE.out⟩
              case measure => first | (simp [intOf]; done) | (simp [intOf]; omega)
        · have hfe : f = ws.length := by omega
          subst hfe
          have hfN : ws.length = N.length := by omega
          have hmx : mixN N ns ws.length = N := by rw [hfN]; exact mixN_end N ns hNl
          rw [hmx] at CR
          obtain ⟨nn, hnn⟩ : ∃ nn : Nat, ws.sum / 8 = (nn : Int) := ⟨(ws.sum / 8).toNat, by omega⟩
          have hnl2 : nn ≤ S.l.length := by omega
          have rZ := tr.blk TZ.out (g3no _ (by omega))
          have hge2 := CR.ge2
          have hiv' : i < S.va.length := hiv
          obtain ⟨hCV, hfz, v3c, hv3⟩ := RowIs.setOne (.bool true) CR.valid hiv
          obtain ⟨g0, _, w1, w2, w3, _⟩ := RowIs.at CR.valid (i := i) (j := 0) hiv (by omega)
          cases w2
          rw [Nat.mul_one, Nat.add_zero] at w3
          have hbi : (bools S.va)[i]? = some (.bool S.va[i]) := by simp [bools, hiv]
          rw [hbi] at w3
          generalize S.va[i] = vi at *
          have hv3' : v3 = ⟨some ⟨Gv, 0, none⟩, S.va.length, v3c⟩ := by
            obtain ⟨a, n, c⟩ := v3
            simp only [SL.v_mk] at hv3
            injection hv3 with e1 e2 e3
            rw [e1, e2, e3]
          subst hv3'
          have hrc : S.l.length ≤ r3c := (RowIs.rdS CR.rest).1.1
          have r1 := rC.cell 1
          have r2 := rC.cell 2
          have f1 := rC.free 1
          have zC := rC.lt
          simp only [List.getElem?_cons_zero, List.getElem?_cons_succ, SL.v_mk] at r1 r2
          have zGv := RowIs.lt CR.valid Gv rfl
          have hGrv : Gr ≠ Gv := RowIs.ne CR.rest CR.valid (by decide)
          have RRS := hid (RowIs.rdS CR.rest).1
          have kiv : (i : Int) < (S.va.length : Int) := by omega
          have C2 := CR.setVa hiv true
          have KR := hid (And.intro C2 (And.intro rC (And.intro rZ hfN)))
          have hns : (nn : Int) ≤ (S.l.length : Int) := by omega
          clear C2 rC rZ hCV hv3 w1 hbi hmx CR hfN
          rw [hnn]
          have HSZ := hid (by omega : sz.toNat = nn)
          clear hf2 hf3' hf4 hFew hhf hw16 hnl hyo hNl hnn hsz q3 k1 hvl zv zv' hv hig hin HDF HXG TZ TP OO DD YR HH
          by_cases hcap : r3c = nn
          · have hl0 := hid (by omega : S.l.length = nn)
            obtain ⟨C2, rC, rZ, -⟩ := KR.out
            have RR : RdS wr 1 (⟨some ⟨Gr, 0, none⟩, S.l.length - nn, 0⟩ : SL) (byts (S.l.drop nn)) := (by have h := hl0.out; exact ⟨by simp; omega, by simp; omega, by simp [byts], fun q => absurd q (by simp; omega)⟩)
            have hbQ := Below.setCell (p := ⟨Gv, i, none⟩) (Below.setCell (p := ⟨w.heap.size + 1, 1, none⟩) hbr (by simp) ((⟨some ⟨Gr, 0, none⟩, S.l.length - nn, 0⟩ : SL)).v) (by simp; omega) (.bool true)
            have BQ := hid ((rC.set_ 1 ((⟨some ⟨Gr, 0, none⟩, S.l.length - nn, 0⟩ : SL)).v).far (b := Gv) (by omega) i (.bool true))
            have ZQ := hid ((rZ.far (b := w.heap.size + 1) (by omega) 1 ((⟨some ⟨Gr, 0, none⟩, S.l.length - nn, 0⟩ : SL)).v).far (b := Gv) (by omega) i (.bool true))
            have tQ : Turn wr ((wr.setCell ⟨w.heap.size + 1, 1, none⟩ ((⟨some ⟨Gr, 0, none⟩, S.l.length - nn, 0⟩ : SL)).v).setCell ⟨Gv, i, none⟩ (.bool true)) [w.heap.size + 1, Gv] := (Turn.set_ _ _ _ (by simp)).trans (Turn.set_ _ _ _ (by simp))
            have RQ := hid (tQ.rd RR (fun b off e hm => by
              simp at e hm
              obtain ⟨e1, _⟩ := e
              subst e1
              rcases hm with hm | hm
              · omega
              · exact hGrv hm))
            have CQ : CopyIs X.heap.size ((wr.setCell ⟨w.heap.size + 1, 1, none⟩ ((⟨some ⟨Gr, 0, none⟩, S.l.length - nn, 0⟩ : SL)).v).setCell ⟨Gv, i, none⟩ (.bool true)) (PK.mk port' ⟨some ⟨Gr, 0, none⟩, S.l.length, r3c⟩ ⟨some ⟨Gv, 0, none⟩, S.va.length, v3c⟩ ⟨some ⟨gf, 0, none⟩, fs3.length, f3c⟩ m3 dr se eg' ac) S.l (S.va.set i true) (fs3.set i ((⟨some ⟨g3, 0, none⟩, ns.length, s3c⟩ : SL), N)) gs3 mt Gr Gv Gm (some gf) := by
              rw [setCell_comm _ (by omega : w.heap.size + 1 ≠ Gv)]
              have t1 : Turn (wr.setCell ⟨Gv, i, none⟩ (.bool true)) ((wr.setCell ⟨Gv, i, none⟩ (.bool true)).setCell ⟨w.heap.size + 1, 1, none⟩ ((⟨some ⟨Gr, 0, none⟩, S.l.length - nn, 0⟩ : SL)).v) [w.heap.size + 1] := Turn.set_ _ _ _ (by simp)
              exact C2.keep (fun g hg hB => t1.block g hg (by simp; omega))
            have CQ' := hid CQ
            clear KR C2 rC rZ RR tQ CQ
            go_upto_region 25 with (fail)
            generalize ((wr.setCell ⟨w.heap.size + 1, 1, none⟩ ((⟨some ⟨Gr, 0, none⟩, S.l.length - nn, 0⟩ : SL)).v).setCell ⟨Gv, i, none⟩ (.bool true)) = Q at *
            refine wp_region_doc (fun F hF => ?_)
            have HF := hid hF
            clear hF
            refine doc_val rfl (load_agg_op _ _ _ _ _ _ _ _ Try.underlying39 (pk_size _ rfl) rfl BQ.out) ?_
            simp only [Act.put, List.setIfInBounds_toArray, List.set_cons_zero, List.set_cons_succ]
            refine doc_skip rfl (store_row_op (xs := zeroCs) (ys := (PK.mk port' (⟨some ⟨Gr, 0, none⟩, S.l.length - nn, 0⟩ : SL) ⟨some ⟨Gv, 0, none⟩, S.va.length, v3c⟩ ⟨some ⟨gf, 0, none⟩, fs3.length, f3c⟩ m3 dr se eg' ac).cs) _ _ _ _ _ _ _ _ _ (pk_size _ rfl) rfl (by simp [Value.oneCell']) rfl rfl ZQ.out) ?_
            simp only [Act.put, List.setIfInBounds_toArray, List.set_cons_zero, List.set_cons_succ]
            refine doc_val rfl (by first | (go_simp; done) | (go_simp; exact ⟨rfl, rfl⟩) | (go_simp; with_reducible rfl)) ?_
            simp only [Act.put, List.setIfInBounds_toArray, List.set_cons_zero, List.set_cons_succ]
            refine doc_end (HF.out _ _ ?_)
            clear HF F
            have bR := ZQ.out.row (PK.mk port' (⟨some ⟨Gr, 0, none⟩, S.l.length - nn, 0⟩ : SL) ⟨some ⟨Gv, 0, none⟩, S.va.length, v3c⟩ ⟨some ⟨gf, 0, none⟩, fs3.length, f3c⟩ m3 dr se eg' ac).cs
            have hbR := Below.setRow hbQ (by omega : w.heap.size ≤ w.heap.size + 1 + 1) (PK.mk port' (⟨some ⟨Gr, 0, none⟩, S.l.length - nn, 0⟩ : SL) ⟨some ⟨Gv, 0, none⟩, S.va.length, v3c⟩ ⟨some ⟨gf, 0, none⟩, fs3.length, f3c⟩ m3 dr se eg' ac).cs.toArray
            go_wp2
            refine bodyPost_ret (res_cellT (v := .bool true) rfl rfl rfl bR Try.underlying39 (pk_size _ rfl)) rfl ⟨_, by rw [EGS.out]; rfl, hbR, ?_⟩
            rw [EGS.out, Option.getD_some, HSZ.out]
            have tR : Turn Q (Q.setRow (w.heap.size + 1 + 1) (PK.mk port' (⟨some ⟨Gr, 0, none⟩, S.l.length - nn, 0⟩ : SL) ⟨some ⟨Gv, 0, none⟩, S.va.length, v3c⟩ ⟨some ⟨gf, 0, none⟩, fs3.length, f3c⟩ m3 dr se eg' ac).cs.toArray) [w.heap.size + 1 + 1] := Turn.row _ _ (by simp)
            have DR := (CQ'.out.keep (fun g hg hB => tR.block g hg (by simp; omega))).doc (L := L) (fun q hq => by have := HL.out q hq; omega)
            refine ⟨_, ⟨tR.rd RQ.out (fun b off e hm => by
              simp at e hm
              obtain ⟨e1, _⟩ := e
              subst e1
              omega), DR.valid, DR.frd, DR.metas, fun _ b off e hm => by
              simp at e
              obtain ⟨e1, _⟩ := e
              subst e1
              have := HL.out _ hm
              omega, DR.a2, DR.a3, DR.a4, DR.a5⟩, ?_, SC.out⟩
            rw [List.map_set, KN.out.1, HN.out]
          · obtain ⟨C2, rC, rZ, -⟩ := KR.out
            have RR : RdS wr 1 (⟨some ⟨Gr, nn, none⟩, S.l.length - nn, r3c - nn⟩ : SL) (byts (S.l.drop nn)) := (by have h := RRS.out.drop (nn := nn) hnl2; simpa using h)
            have hbQ := Below.setCell (p := ⟨Gv, i, none⟩) (Below.setCell (p := ⟨w.heap.size + 1, 1, none⟩) hbr (by simp) ((⟨some ⟨Gr, nn, none⟩, S.l.length - nn, r3c - nn⟩ : SL)).v) (by simp; omega) (.bool true)
            have BQ := hid ((rC.set_ 1 ((⟨some ⟨Gr, nn, none⟩, S.l.length - nn, r3c - nn⟩ : SL)).v).far (b := Gv) (by omega) i (.bool true))
            have ZQ := hid ((rZ.far (b := w.heap.size + 1) (by omega) 1 ((⟨some ⟨Gr, nn, none⟩, S.l.length - nn, r3c - nn⟩ : SL)).v).far (b := Gv) (by omega) i (.bool true))
            have tQ : Turn wr ((wr.setCell ⟨w.heap.size + 1, 1, none⟩ ((⟨some ⟨Gr, nn, none⟩, S.l.length - nn, r3c - nn⟩ : SL)).v).setCell ⟨Gv, i, none⟩ (.bool true)) [w.heap.size + 1, Gv] := (Turn.set_ _ _ _ (by simp)).trans (Turn.set_ _ _ _ (by simp))
            have RQ := hid (tQ.rd RR (fun b off e hm => by
              simp at e hm
              obtain ⟨e1, _⟩ := e
              subst e1
              rcases hm with hm | hm
              · omega
              · exact hGrv hm))
            have CQ : CopyIs X.heap.size ((wr.setCell ⟨w.heap.size + 1, 1, none⟩ ((⟨some ⟨Gr, nn, none⟩, S.l.length - nn, r3c - nn⟩ : SL)).v).setCell ⟨Gv, i, none⟩ (.bool true)) (PK.mk port' ⟨some ⟨Gr, 0, none⟩, S.l.length, r3c⟩ ⟨some ⟨Gv, 0, none⟩, S.va.length, v3c⟩ ⟨some ⟨gf, 0, none⟩, fs3.length, f3c⟩ m3 dr se eg' ac) S.l (S.va.set i true) (fs3.set i ((⟨some ⟨g3, 0, none⟩, ns.length, s3c⟩ : SL), N)) gs3 mt Gr Gv Gm (some gf) := by
              rw [setCell_comm _ (by omega : w.heap.size + 1 ≠ Gv)]
              have t1 : Turn (wr.setCell ⟨Gv, i, none⟩ (.bool true)) ((wr.setCell ⟨Gv, i, none⟩ (.bool true)).setCell ⟨w.heap.size + 1, 1, none⟩ ((⟨some ⟨Gr, nn, none⟩, S.l.length - nn, r3c - nn⟩ : SL)).v) [w.heap.size + 1] := Turn.set_ _ _ _ (by simp)
              exact C2.keep (fun g hg hB => t1.block g hg (by simp; omega))
            have CQ' := hid CQ
            clear KR C2 rC rZ RR tQ CQ
            go_upto_region 25 with (fail)
            generalize ((wr.setCell ⟨w.heap.size + 1, 1, none⟩ ((⟨some ⟨Gr, nn, none⟩, S.l.length - nn, r3c - nn⟩ : SL)).v).setCell ⟨Gv, i, none⟩ (.bool true)) = Q at *
            refine wp_region_doc (fun F hF => ?_)
            have HF := hid hF
            clear hF
            refine doc_val rfl (load_agg_op _ _ _ _ _ _ _ _ Try.underlying39 (pk_size _ rfl) rfl BQ.out) ?_
            simp only [Act.put, List.setIfInBounds_toArray, List.set_cons_zero, List.set_cons_succ]
            refine doc_skip rfl (store_row_op (xs := zeroCs) (ys := (PK.mk port' (⟨some ⟨Gr, nn, none⟩, S.l.length - nn, r3c - nn⟩ : SL) ⟨some ⟨Gv, 0, none⟩, S.va.length, v3c⟩ ⟨some ⟨gf, 0, none⟩, fs3.length, f3c⟩ m3 dr se eg' ac).cs) _ _ _ _ _ _ _ _ _ (pk_size _ rfl) rfl (by simp [Value.oneCell']) rfl rfl ZQ.out) ?_
            simp only [Act.put, List.setIfInBounds_toArray, List.set_cons_zero, List.set_cons_succ]
            refine doc_val rfl (by first | (go_simp; done) | (go_simp; exact ⟨rfl, rfl⟩) | (go_simp; with_reducible rfl)) ?_
            simp only [Act.put, List.setIfInBounds_toArray, List.set_cons_zero, List.set_cons_succ]
            refine doc_end (HF.out _ _ ?_)
            clear HF F
            have bR := ZQ.out.row (PK.mk port' (⟨some ⟨Gr, nn, none⟩, S.l.length - nn, r3c - nn⟩ : SL) ⟨some ⟨Gv, 0, none⟩, S.va.length, v3c⟩ ⟨some ⟨gf, 0, none⟩, fs3.length, f3c⟩ m3 dr se eg' ac).cs
            have hbR := Below.setRow hbQ (by omega : w.heap.size ≤ w.heap.size + 1 + 1) (PK.mk port' (⟨some ⟨Gr, nn, none⟩, S.l.length - nn, r3c - nn⟩ : SL) ⟨some ⟨Gv, 0, none⟩, S.va.length, v3c⟩ ⟨some ⟨gf, 0, none⟩, fs3.length, f3c⟩ m3 dr se eg' ac).cs.toArray
            go_wp2
            refine bodyPost_ret (res_cellT (v := .bool true) rfl rfl rfl bR Try.underlying39 (pk_size _ rfl)) rfl ⟨_, by rw [EGS.out]; rfl, hbR, ?_⟩
            rw [EGS.out, Option.getD_some, HSZ.out]
            have tR : Turn Q (Q.setRow (w.heap.size + 1 + 1) (PK.mk port' (⟨some ⟨Gr, nn, none⟩, S.l.length - nn, r3c - nn⟩ : SL) ⟨some ⟨Gv, 0, none⟩, S.va.length, v3c⟩ ⟨some ⟨gf, 0, none⟩, fs3.length, f3c⟩ m3 dr se eg' ac).cs.toArray) [w.heap.size + 1 + 1] := Turn.row _ _ (by simp)
            have DR := (CQ'.out.keep (fun g hg hB => tR.block g hg (by simp; omega))).doc (L := L) (fun q hq => by have := HL.out q hq; omega)
            refine ⟨_, ⟨tR.rd RQ.out (fun b off e hm => by
              simp at e hm
              obtain ⟨e1, _⟩ := e
              subst e1
              omega), DR.valid, DR.frd, DR.metas, fun _ b off e hm => by
              simp at e
              obtain ⟨e1, _⟩ := e
              subst e1
              have := HL.out _ hm
              omega, DR.a2, DR.a3, DR.a4, DR.a5⟩, ?_, SC.out⟩
            rw [List.map_set, KN.out.1, HN.out]
  · have EG : Hid (S.take hs (i : Int) = none) := hid (by rw [EG0.out, if_neg (fun q => by cases q.1)])
    go_upto_region 5 with (fail)
    refine wp_region_doc (fun F hF => ?_)
    have HF := hid hF
    clear hF
    refine doc_val rfl (load_agg_op _ _ _ _ _ _ _ _ Try.underlying39 (pk_size _ rfl) rfl XK.out) ?_
    simp only [Act.put, List.setIfInBounds_toArray, List.set_cons_zero, List.set_cons_succ]
    refine doc_skip rfl (store_row_op (xs := zeroCs) (ys := (PK.mk port' ⟨ra, S.l.length, rc⟩ ⟨some ⟨vb, vo, none⟩, vn, vc⟩ kf metas dr se eg' ac).cs) _ _ _ _ _ _ _ _ _ (pk_size _ rfl) rfl (by simp [Value.oneCell']) rfl rfl XZ.out) ?_
    simp only [Act.put, List.setIfInBounds_toArray, List.set_cons_zero, List.set_cons_succ]
    refine doc_val rfl (by first | (go_simp; done) | (go_simp; exact ⟨rfl, rfl⟩) | (go_simp; with_reducible rfl)) ?_
    simp only [Act.put, List.setIfInBounds_toArray, List.set_cons_zero, List.set_cons_succ]
    refine doc_end (HF.out _ _ ?_)
    clear HF F
    go_wp2
    refine bodyPost_ret (res_cellT (v := .bool false) rfl rfl rfl (XZ.out.row _) Try.underlying39 (pk_size _ rfl)) rfl ⟨_, by rw [EG.out]; rfl, Below.setRow hbX (by omega) _, ?_⟩
    rw [EG.out]
    exact ⟨fs, DD.out.below (Below.setRow hbX (by omega) _), hfs, SC.out⟩
end
end Go.Proofs.Ytkblldmpdihamaa
