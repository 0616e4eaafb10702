/-
  The document's comparison of packets (quillonref19.Same), of two that are the same.
-/
import Derived.Test.YtkblldmpdihamaaOwnS
set_option linter.unusedVariables false
set_option linter.unusedSimpArgs false
namespace Go.Proofs.Ytkblldmpdihamaa
open Go.RowKit

theorem neq_bool (b : Bool) : (b != b) = false := by cases b <;> rfl
theorem fmap_at {fs : List (SL × List (BitVec 128))} {nss : List (List (BitVec 128))} (h : fs.map (fun x => x.2) = nss) {i : Nat} (hi : i < nss.length) : ∃ s, fs[i]? = some (s, nss[i]) := by
  subst h
  have hi' : i < fs.length := by simpa using hi
  exact ⟨fs[i].1, by rw [List.getElem?_eq_getElem hi']; simp⟩
set_option maxRecDepth 100000 in
set_option maxHeartbeats 8000000 in
theorem same_any {w : World} {k k' : PK} {l : List Nat} {va : List Bool} {fs fs' : List (SL × List (BitVec 128))} {nss : List (List (BitVec 128))} {mt : List (BitVec 128)}
    (r1 : RdS w 1 k.rest (byts l)) (r2 : RdS w 1 k'.rest (byts l)) (v1 : RdS w 1 k.valid (bools va)) (v2 : RdS w 1 k'.valid (bools va)) (f1 : FieldsAre w k.fields fs) (f2 : FieldsAre w k'.fields fs') (m1 : RdS w 2 k.metas (nums mt)) (m2 : RdS w 2 k'.metas (nums mt))
    (e1 : fs.map (fun x => x.2) = nss) (e2 : fs'.map (fun x => x.2) = nss) (hle : nss.length ≤ va.length)
    (q1 : k'.port = k.port) (q2 : k'.dropped = k.dropped) (q3 : k'.sent = k.sent) (q4 : k'.egress = k.egress) (q5 : k'.access = k.access) :
    Calls Try.prog 16 #[k.v, k'.v] w (Pure (.bool true) w) := by
  have hl1 := f1.len
  have hl2 := f2.len
  have hn1 : fs.length = nss.length := by rw [← e1]; simp
  have hn2 : fs'.length = nss.length := by rw [← e2]; simp
  have hv1 : k.valid.n = va.length := by have := v1.2.2.1; rw [bools_length] at this; omega
  have hv2 : k'.valid.n = va.length := by have := v2.2.2.1; rw [bools_length] at this; omega
  have hm1 : k.metas.n = mt.length := by have := m1.2.2.1; rw [nums_length] at this; omega
  have hm2 : k'.metas.n = mt.length := by have := m2.2.2.1; rw [nums_length] at this; omega
  have hmm := m1.2.1
  have hfm := f1.row.2.1
  have A1 := hid (fun W (hb : Below w.heap.size w W) => str_any (r1.below hb))
  have A2 := hid (fun W (hb : Below w.heap.size w W) => str_any (r2.below hb))
  have V1 := hid v1
  have V2 := hid v2
  have F1 := hid f1
  have F2 := hid f2
  have M1 := hid m1
  have M2 := hid m2
  have E1 := hid e1
  have E2 := hid e2
  clear r1 r2 v1 v2 f1 f2 m1 m2 e1 e2
  obtain ⟨port, ⟨ra, rn, rc⟩, ⟨va1, vn, vc⟩, ⟨fa, fn, fc⟩, ⟨ma, mn, mc⟩, dr, se, eg, ac⟩ := k
  obtain ⟨port', ⟨ra', rn', rc'⟩, ⟨va1', vn', vc'⟩, ⟨fa', fn', fc'⟩, ⟨ma', mn', mc'⟩, dr', se', eg', ac'⟩ := k'
  simp only at hl1 hl2 hv1 hv2 hm1 hm2 hmm hfm q1 q2 q3 q4 q5 A1 A2
  subst hv1 hv2 hm1 hm2 q1 q2 q3 q4 q5
  have hfn : fn = nss.length := by omega
  have hfn' : fn' = nss.length := by omega
  subst hfn hfn'
  clear hl1 hl2
  have b1 := neq_bool dr'
  have b2 := neq_bool se'
  have b3 := neq_bool ac'
  have i1 : ((port' : Int) != port') = false := by simp
  have i2 : ((eg' : Int) != eg') = false := by simp
  go_enter Try.func16, Try.ntmps16
  go_upto_region 1 with (fail)
  refine wp_gen (fun V hV => ?_)
  have hbV : Below w.heap.size w V := by rw [hV]; (repeat' (first | (with_reducible exact Below.refl _ _) | (with_reducible refine Below.ext_mk ?_ ?_ _ _) | (with_reducible refine Below.alloc ?_ ?_ _) | (with_reducible refine Below.drew ?_) | (with_reducible refine Below.setCell ?_ ?_ _) | go_size))
  have bk : Blk V w.heap.size 39 (PK.mk port' ⟨ra, rn, rc⟩ ⟨va1, va.length, vc⟩ ⟨fa, nss.length, fc⟩ ⟨ma, mt.length, mc⟩ dr' se' eg' ac').cs := by
    rw [hV]
    exact (Blk.new w 39 (PK.mk port' ⟨ra, rn, rc⟩ ⟨va1, va.length, vc⟩ ⟨fa, nss.length, fc⟩ ⟨ma, mt.length, mc⟩ dr' se' eg' ac').cs).below (by repeat (first | exact Below.refl _ _ | refine Below.alloc ?_ (by simp; try omega) _))
  have bk' : Blk V (w.heap.size + 1) 39 (PK.mk port' ⟨ra', rn', rc'⟩ ⟨va1', va.length, vc'⟩ ⟨fa', nss.length, fc'⟩ ⟨ma', mt.length, mc'⟩ dr' se' eg' ac').cs := by
    rw [hV]
    have h := Blk.new (w.alloc (.cells (PK.mk port' ⟨ra, rn, rc⟩ ⟨va1, va.length, vc⟩ ⟨fa, nss.length, fc⟩ ⟨ma, mt.length, mc⟩ dr' se' eg' ac').cs.toArray 39)) 39 (PK.mk port' ⟨ra', rn', rc'⟩ ⟨va1', va.length, vc'⟩ ⟨fa', nss.length, fc'⟩ ⟨ma', mt.length, mc'⟩ dr' se' eg' ac').cs
    simp only [World.size_alloc] at h
    exact h
  clear hV
  have hbs := hbV.size
  have BK := hid bk
  have BK' := hid bk'
  have z1 := bk.lt
  have z2 := bk'.lt
  have a1 : (convert 34 9 (.slice ra rn rc)).run Try.prog V = .ok (.string (strOf l)) V := A1.out _ hbV
  have a2 : (convert 34 9 (.slice ra' rn' rc')).run Try.prog V = .ok (.string (strOf l)) V := A2.out _ hbV
  have c0 := bk.cell 0
  have c1 := bk.cell 1
  have c2 := bk.cell 2
  have c3 := bk.cell 3
  have c4 := bk.cell 4
  have c5 := bk.cell 5
  have c6 := bk.cell 6
  have c7 := bk.cell 7
  have c8 := bk.cell 8
  have d0 := bk'.cell 0
  have d1 := bk'.cell 1
  have d2 := bk'.cell 2
  have d3 := bk'.cell 3
  have d4 := bk'.cell 4
  have d5 := bk'.cell 5
  have d6 := bk'.cell 6
  have d7 := bk'.cell 7
  have d8 := bk'.cell 8
  simp only [List.getElem?_cons_zero, List.getElem?_cons_succ, SL.v_mk] at c0 c1 c2 c3 c4 c5 c6 c7 c8 d0 d1 d2 d3 d4 d5 d6 d7 d8
  clear bk bk'
  refine wp_region_doc (fun F hF => ?_)
  have HF := hid hF
  clear hF
  iterate 69 (refine doc_val rfl (by first | (go_simp; done) | (go_simp; exact ⟨rfl, rfl⟩) | (go_simp; with_reducible rfl)) ?_; simp only [Act.put, List.setIfInBounds_toArray, List.set_cons_zero, List.set_cons_succ])
  refine doc_end (HF.out _ _ ?_)
  clear HF F
  go_upto_region 3 with (fail)
  clear c0 c1 c2 c3 c4 c5 c6 c7 c8 d0 d1 d2 d3 d4 d5 d6 d7 d8 a1 a2
  have KC : ∀ W, Below V.heap.size V W → W.cell? ⟨w.heap.size, 2, none⟩ = some (.slice va1 va.length vc) ∧ W.cell? ⟨w.heap.size, 3, none⟩ = some (.slice fa nss.length fc) ∧ W.cell? ⟨w.heap.size, 4, none⟩ = some (.slice ma mt.length mc) ∧ w.heap.size < W.heap.size ∧
      W.cell? ⟨w.heap.size + 1, 2, none⟩ = some (.slice va1' va.length vc') ∧ W.cell? ⟨w.heap.size + 1, 3, none⟩ = some (.slice fa' nss.length fc') ∧ W.cell? ⟨w.heap.size + 1, 4, none⟩ = some (.slice ma' mt.length mc') ∧ w.heap.size + 1 < W.heap.size := fun W hW =>
    ⟨(BK.out.below hW).cell 2, (BK.out.below hW).cell 3, (BK.out.below hW).cell 4, by have := hW.size; omega, (BK'.out.below hW).cell 2, (BK'.out.below hW).cell 3, (BK'.out.below hW).cell 4, by have := hW.size; omega⟩
  have KD := hid KC
  obtain ⟨c2, c3, c4, y1, d2, d3, d4, y2⟩ := KC V (Below.refl _ _)
  clear KC
  go_wp2_with fail
  go_loopw [5] (fun i wr => ∃ j : Nat, j ≤ mt.length ∧ i = .int .i64 j ∧ Below V.heap.size V wr) (fun i _ => mt.length - (intOf i).toNat)
  case atStart => exact ⟨0, by omega, rfl, Below.refl _ _⟩
  case round =>
    clear c2 c3 c4 y1 d2 d3 d4 y2
    obtain ⟨j, hj, rfl, hb⟩ := hrel
    have hbr := hb.size
    have hbw : Below w.heap.size w wr := hbV.trans (hb.mono hbs)
    obtain ⟨c2, c3, c4, y1, d2, d3, d4, y2⟩ := KD.out wr hb
    by_cases hlt : j < mt.length
    · have hj1 : (j : Int) < (mt.length : Int) := by omega
      obtain ⟨b, off, e1, zb, _, n0, n1⟩ := M1.out.num (i := j) (n := mt[j]) (by simp [hlt])
      obtain ⟨b', off', e1', zb', _, n0', n1'⟩ := M2.out.num (i := j) (n := mt[j]) (by simp [hlt])
      simp only at e1 e1'
      subst e1 e1'
      have u0 := (hbw.cell (p := ⟨b, off + j * 2, none⟩) zb).trans n0
      have u1 := (hbw.cell (p := ⟨b, off + j * 2 + 1, none⟩) zb).trans n1
      have u0' := (hbw.cell (p := ⟨b', off' + j * 2, none⟩) zb').trans n0'
      have u1' := (hbw.cell (p := ⟨b', off' + j * 2 + 1, none⟩) zb').trans n1'
      have zw : b < wr.heap.size := by have := hbw.size; omega
      have zw' : b' < wr.heap.size := by have := hbw.size; omega
      clear n0 n1 n0' n1'
      generalize mt[j] = n at *
      go_upto_region 6 with (fail)
      refine wp_region_ext (by kernel_rfl) (by kernel_rfl) (fun F hF => ?_)
      have HF := hid hF; clear hF
      repeat (first
        | (apply text_skip; (focus rfl); simp only [Act.put, List.setIfInBounds_toArray, List.set_cons_zero, List.set_cons_succ])
        | (apply text_val; (focus rfl); (focus (intro _ _; go_simp; with_reducible rfl)); simp only [Act.put, List.setIfInBounds_toArray, List.set_cons_zero, List.set_cons_succ])
        | (apply text_if; (focus (first | exact wanted_t rfl rfl | exact wanted_f rfl rfl | exact wanted_gt rfl rfl | exact wanted_gf rfl rfl)); (focus (intro hc _ _; (try simp only [Bool.and_eq_true, Bool.not_eq_true', Bool.true_and] at hc); go_simp; with_reducible rfl)); simp only [Act.put, List.setIfInBounds_toArray, List.set_cons_zero, List.set_cons_succ]))
      refine text_nil (HF.out _ (fun mx dx => ?_))
      clear HF F
      go_wp2_with fail
      go_roundw
      case rel => exact ⟨j + 1, hlt, by go_num, by (repeat' (first | (with_reducible exact hb) | (with_reducible exact Below.refl _ _) | (with_reducible refine Below.ext_mk ?_ ?_ _ _) | (with_reducible refine Below.alloc ?_ ?_ _) | (with_reducible refine Below.drew ?_) | (with_reducible refine Below.setCell ?_ ?_ _) | go_size))⟩
      case measure => simp [intOf]; omega
    · obtain rfl : j = mt.length := by omega
      go_wp2_with fail
      go_loopw [6] (fun i wr => ∃ j : Nat, j ≤ nss.length ∧ i = .int .i64 j ∧ Below V.heap.size V wr) (fun i _ => nss.length - (intOf i).toNat)
      case atStart => exact ⟨0, by omega, rfl, hb⟩
      case round =>
        clear c2 c3 c4 y1 d2 d3 d4 y2 hb hbr hbw
        obtain ⟨j, hj, rfl, hb⟩ := hrel
        have hbr := hb.size
        have hbw : Below w.heap.size w wr := hbV.trans (hb.mono hbs)
        obtain ⟨c2, c3, c4, y1, d2, d3, d4, y2⟩ := KD.out wr hb
        by_cases hlt : j < nss.length
        · have hj1 : (j : Int) < (nss.length : Int) := by omega
          have hjv : j < va.length := by omega
          have hj2 : (j : Int) < (va.length : Int) := by omega
          obtain ⟨s, hs⟩ := fmap_at E1.out hlt
          obtain ⟨s', hs'⟩ := fmap_at E2.out hlt
          have B := F1.out.each _ (List.mem_of_getElem? hs)
          have B' := F2.out.each _ (List.mem_of_getElem? hs')
          have hn := B.2.2.1
          have hn' := B'.2.2.1
          have hnm := B.2.1
          rw [nums_length] at hn hn'
          simp only at hn hn' hnm
          obtain ⟨fb, fo, ef, zfb, _, cf⟩ := F1.out.row.one (i := j) (u := s.v) (by rw [List.getElem?_map, hs]; rfl)
          obtain ⟨fb', fo', ef', zfb', _, cf'⟩ := F2.out.row.one (i := j) (u := s'.v) (by rw [List.getElem?_map, hs']; rfl)
          obtain ⟨vb, vo, ev, zvb, _, cv⟩ := V1.out.one (i := j) (u := .bool va[j]) (by simp [bools, hjv])
          obtain ⟨vb', vo', ev', zvb', _, cv'⟩ := V2.out.one (i := j) (u := .bool va[j]) (by simp [bools, hjv])
          simp only at ef ef' ev ev'
          subst ef ef' ev ev'
          obtain ⟨sa, sn, sc⟩ := s
          obtain ⟨sa', sn', sc'⟩ := s'
          have hsn : sn = nss[j].length := by simp only at hn; omega
          have hsn' : sn' = nss[j].length := by simp only at hn'; omega
          have HBB := hid (And.intro B B')
          clear B B' hs hs' hn hn'
          generalize nss[j] = ns at *
          subst hsn hsn'
          simp only [SL.v_mk] at cf cf' hnm
          have FC : ∀ W, Below w.heap.size w W → W.cell? ⟨fb, fo + j, none⟩ = some (.slice sa ns.length sc) ∧ W.cell? ⟨fb', fo' + j, none⟩ = some (.slice sa' ns.length sc') ∧ fb < W.heap.size ∧ fb' < W.heap.size := fun W hW =>
            ⟨(hW.cell (p := ⟨fb, fo + j, none⟩) zfb).trans cf, (hW.cell (p := ⟨fb', fo' + j, none⟩) zfb').trans cf', by have := hW.size; omega, by have := hW.size; omega⟩
          have FD := hid FC
          obtain ⟨x1, x2, x3, x4⟩ := FC wr hbw
          have x5 := (hbw.cell (p := ⟨vb, vo + j, none⟩) zvb).trans cv
          have x6 := (hbw.cell (p := ⟨vb', vo' + j, none⟩) zvb').trans cv'
          have x7 : vb < wr.heap.size := by have := hbw.size; omega
          have x8 : vb' < wr.heap.size := by have := hbw.size; omega
          generalize va[j] = v at *
          have b4 := neq_bool v
          clear FC cf cf' cv cv'
          go_upto_region 11 with (fail)
          refine wp_region_ext (by kernel_rfl) (by kernel_rfl) (fun F hF => ?_)
          have HF := hid hF; clear hF
          repeat (first
            | (apply text_skip; (focus rfl); simp only [Act.put, List.setIfInBounds_toArray, List.set_cons_zero, List.set_cons_succ])
            | (apply text_val; (focus rfl); (focus (intro _ _; go_simp; with_reducible rfl)); simp only [Act.put, List.setIfInBounds_toArray, List.set_cons_zero, List.set_cons_succ])
            | (apply text_if; (focus (first | exact wanted_t rfl rfl | exact wanted_f rfl rfl | exact wanted_gt rfl rfl | exact wanted_gf rfl rfl)); (focus (intro hc _ _; (try simp only [Bool.and_eq_true, Bool.not_eq_true', Bool.true_and] at hc); go_simp; with_reducible rfl)); simp only [Act.put, List.setIfInBounds_toArray, List.set_cons_zero, List.set_cons_succ]))
          refine text_nil (HF.out _ (fun mx dx => ?_))
          clear HF F
          go_wp2_with fail
          go_loopw [7] (fun i wr => ∃ m : Nat, m ≤ ns.length ∧ i = .int .i64 m ∧ Below V.heap.size V wr) (fun i _ => ns.length - (intOf i).toNat)
          case atStart => exact ⟨0, by omega, rfl, by (repeat' (first | (with_reducible exact hb) | (with_reducible exact Below.refl _ _) | (with_reducible refine Below.ext_mk ?_ ?_ _ _) | (with_reducible refine Below.alloc ?_ ?_ _) | (with_reducible refine Below.drew ?_) | (with_reducible refine Below.setCell ?_ ?_ _) | go_size))⟩
          case round =>
            clear c2 c3 c4 y1 d2 d3 d4 y2 hb hbr hbw x1 x2 x3 x4 x5 x6 x7 x8
            obtain ⟨m, hm, rfl, hb⟩ := hrel
            have hbr := hb.size
            have hbw : Below w.heap.size w wr := hbV.trans (hb.mono hbs)
            obtain ⟨c2, c3, c4, y1, d2, d3, d4, y2⟩ := KD.out wr hb
            obtain ⟨x1, x2, x3, x4⟩ := FD.out wr hbw
            by_cases hlm : m < ns.length
            · have hm1 : (m : Int) < (ns.length : Int) := by omega
              obtain ⟨b, off, e1, zb, _, n0, n1⟩ := HBB.out.1.num (i := m) (n := ns[m]) (by simp [hlm])
              obtain ⟨b', off', e1', zb', _, n0', n1'⟩ := HBB.out.2.num (i := m) (n := ns[m]) (by simp [hlm])
              simp only at e1 e1'
              subst e1 e1'
              have u0 := (hbw.cell (p := ⟨b, off + m * 2, none⟩) zb).trans n0
              have u1 := (hbw.cell (p := ⟨b, off + m * 2 + 1, none⟩) zb).trans n1
              have u0' := (hbw.cell (p := ⟨b', off' + m * 2, none⟩) zb').trans n0'
              have u1' := (hbw.cell (p := ⟨b', off' + m * 2 + 1, none⟩) zb').trans n1'
              have zw : b < wr.heap.size := by have := hbw.size; omega
              have zw' : b' < wr.heap.size := by have := hbw.size; omega
              clear n0 n1 n0' n1'
              generalize ns[m] = n at *
              go_upto_region 16 with (fail)
              refine wp_region_ext (by kernel_rfl) (by kernel_rfl) (fun F hF => ?_)
              have HF := hid hF; clear hF
              repeat (first
                | (apply text_skip; (focus rfl); simp only [Act.put, List.setIfInBounds_toArray, List.set_cons_zero, List.set_cons_succ])
                | (apply text_val; (focus rfl); (focus (intro _ _; go_simp; with_reducible rfl)); simp only [Act.put, List.setIfInBounds_toArray, List.set_cons_zero, List.set_cons_succ])
                | (apply text_if; (focus (first | exact wanted_t rfl rfl | exact wanted_f rfl rfl | exact wanted_gt rfl rfl | exact wanted_gf rfl rfl)); (focus (intro hc _ _; (try simp only [Bool.and_eq_true, Bool.not_eq_true', Bool.true_and] at hc); go_simp; with_reducible rfl)); simp only [Act.put, List.setIfInBounds_toArray, List.set_cons_zero, List.set_cons_succ]))
              refine text_nil (HF.out _ (fun mx dx => ?_))
              clear HF F
              go_wp2_with fail
              go_roundw
              case rel => exact ⟨m + 1, hlm, by go_num, by (repeat' (first | (with_reducible exact hb) | (with_reducible exact Below.refl _ _) | (with_reducible refine Below.ext_mk ?_ ?_ _ _) | (with_reducible refine Below.alloc ?_ ?_ _) | (with_reducible refine Below.drew ?_) | (with_reducible refine Below.setCell ?_ ?_ _) | go_size))⟩
              case measure => simp [intOf]; omega
            · obtain rfl : m = ns.length := by omega
              go_wp2_with fail
              go_roundw
              case rel => exact ⟨j + 1, hlt, by go_num, hb⟩
              case measure => simp [intOf]; omega
        · obtain rfl : j = nss.length := by omega
          go_wp2_with fail
          go_returns
          exact Pure.of rfl hbw
end Go.Proofs.Ytkblldmpdihamaa
