/-
  Package cube: whether a cube is within a diagram (Prime's inner function) over a live store.
-/
import Derived.Test.YtboekafmplomhaaZCuD
import Derived.Test.YtboekafmplomhaaZInv
set_option linter.unusedVariables false
set_option linter.unusedSimpArgs false
namespace Go.Proofs.Ytboekafmplomhaa
open Go.RowKit

/-- Three stores in turn. -/
def stg (S S1 S2 : Sto) : Nat → Sto
  | 0 => S
  | 1 => S1
  | _ => S2
/-- The worlds of a region that turns a store. -/
def StgW (V : World) (p : Nat) (F : List Nat) (S S1 S2 : Sto) (i : Nat) (W : World) : Prop := ∃ Fi, StoIs W p Fi (stg S S1 S2 i) ∧ StoStep V W F Fi
theorem StgW.same {V W : World} {p i : Nat} {F : List Nat} {S S1 S2 : Sto} (h : StgW V p F S S1 S2 i W) {k : Nat} (hk : k < V.heap.size) (hn : k ∉ F) : W.heap[k]? = V.heap[k]? ∧ k < W.heap.size := by
  obtain ⟨Fi, -, st⟩ := h
  exact ⟨st.block k hk hn, Nat.lt_of_lt_of_le hk st.size⟩
theorem StgW.blk {V W : World} {p i : Nat} {F : List Nat} {S S1 S2 : Sto} (h : StgW V p F S S1 S2 i W) {g : Nat} {e : TypeId} {xs : List Value} (b : Blk V g e xs) (hn : g ∉ F) : Blk W g e xs :=
  b.keep (h.same b.lt hn).1

set_option maxHeartbeats 2000000 in
theorem prime1_live {w : World} {p : Nat} {F : List Nat} {S : Sto} (h : StoIs w p F S) (hG : Gs S) {c : Cu} (hc : CuOk c) {sb ab : Nat} {a : Int} (bs : Blk w sb 23 [.pointer (some ⟨p, 0, none⟩)]) (ba : Blk w ab 3 [.int .i64 a]) (ns : sb ∉ F) (na : ab ∉ F) :
    Calls Try.prog 117 #[cv c, .pointer (some ⟨sb, 0, none⟩), .pointer (some ⟨ab, 0, none⟩)] w (fun e w' => e = .returned (.bool (withinV S a c).2) ∧ Turned w p F (withinV S a c).1 w') := by
  have G1 := ofV_gs hG c
  have hOf := fun W F (h : StoIs W p F S) => cof_live h hG hc
  have hIm := fun W F (h : StoIs W p F (ofV S c).1) => implies_live h G1.1 G1.2 (ofV S c).2 a
  unfold Tells at hOf
  unfold withinV
  generalize ofV S c = R1 at *
  obtain ⟨S1, r1⟩ := R1
  generalize impliesV S1 r1 a = R2 at *
  obtain ⟨S2, r2⟩ := R2
  simp only at hOf hIm ⊢
  go_enter Try.func117, Try.ntmps117
  go_upto_region 1 with (fail)
  refine wp_gen (fun V hV => ?_)
  have hbV : Below w.heap.size w V := by rw [hV]; (repeat' (first | (with_reducible exact Below.refl _ _) | (with_reducible refine Below.ext_mk ?_ ?_ _ _) | (with_reducible refine Below.alloc ?_ ?_ _) | (with_reducible refine Below.drew ?_) | (with_reducible refine Below.setCell ?_ ?_ _) | go_size))
  have bz : Blk V w.heap.size 85 [.int .u64 c.1, .int .u64 c.2] := by rw [hV]; exact Blk.new w 85 [.int .u64 c.1, .int .u64 c.2]
  clear hV
  have hV := h.below hbV
  have zF : w.heap.size ∉ F := fun hm => Nat.lt_irrefl _ (h.lt _ hm)
  have stV : StoStep w V F F := StoStep.of_below hbV
  have bs' := bs.below hbV
  have ba' := ba.below hbV
  clear bs ba h
  refine wp_region_stage [3, 5] (StgW V p F S S1 S2) (by kernel_rfl) (by kernel_rfl) (by kernel_rfl) (by kernel_rfl) ⟨F, hV.below (by (repeat' (first | (with_reducible exact Below.refl _ _) | (with_reducible refine Below.ext_mk ?_ ?_ _ _) | (with_reducible refine Below.alloc ?_ ?_ _) | (with_reducible refine Below.drew ?_) | (with_reducible refine Below.setCell ?_ ?_ _) | go_size))), StoStep.of_below (by (repeat' (first | (with_reducible exact Below.refl _ _) | (with_reducible refine Below.ext_mk ?_ ?_ _ _) | (with_reducible refine Below.alloc ?_ ?_ _) | (with_reducible refine Below.drew ?_) | (with_reducible refine Below.setCell ?_ ?_ _) | go_size)))⟩ (fun F' hF => ?_)
  have HF := hid hF
  clear hF
  refine sg_read (v := .pointer (some ⟨p, 0, none⟩)) _ _ rfl rfl rfl rfl (fun i W _ _ hR => ?_) ?_
  · have q := (hR.blk bs' ns).cell 0
    have q1 := (hR.blk bs' ns).cell 1
    have zq := (hR.blk bs' ns).lt
    simp only [List.getElem?_cons_zero, List.getElem?_cons_succ] at q q1
    clear hR
    go_simp
    try rfl
  simp only [Act.put, List.setIfInBounds_toArray, List.set_cons_zero, List.set_cons_succ]
  refine sg_read (v := .pointer (some ⟨p, 0, none⟩)) _ _ rfl rfl rfl rfl (fun i W _ _ hR => ?_) ?_
  · have q := (hR.blk bs' ns).cell 0
    have q1 := (hR.blk bs' ns).cell 1
    have zq := (hR.blk bs' ns).lt
    simp only [List.getElem?_cons_zero, List.getElem?_cons_succ] at q q1
    clear hR
    go_simp
    try rfl
  simp only [Act.put, List.setIfInBounds_toArray, List.set_cons_zero, List.set_cons_succ]
  refine sg_read (v := cv c) _ _ rfl rfl rfl rfl (fun i W _ _ hR => ?_) ?_
  · have q := (hR.blk bz zF).cell 0
    have q1 := (hR.blk bz zF).cell 1
    have zq := (hR.blk bz zF).lt
    simp only [List.getElem?_cons_zero, List.getElem?_cons_succ] at q q1
    clear hR
    go_simp
    try rfl
  simp only [Act.put, List.setIfInBounds_toArray, List.set_cons_zero, List.set_cons_succ]
  refine sg_turn_call 0 (v := .int .i64 r1) (f := 59) (args := #[.pointer (some ⟨p, 0, none⟩), cv c]) rfl rfl (fun _ => by first | (go_simp; done) | (go_simp; exact ⟨rfl, rfl⟩)) (fun W hR => by
    obtain ⟨Fi, hS, st⟩ := hR
    refine (hOf W Fi hS).mono ?_
    rintro e w' ⟨rfl, F2, t1, t2⟩
    exact ⟨rfl, F2, t1, st.trans t2⟩) ?_
  simp only [Act.put, List.setIfInBounds_toArray, List.set_cons_zero, List.set_cons_succ]
  refine sg_read (v := .int .i64 a) _ _ rfl rfl rfl rfl (fun i W _ _ hR => ?_) ?_
  · have q := (hR.blk ba' na).cell 0
    have q1 := (hR.blk ba' na).cell 1
    have zq := (hR.blk ba' na).lt
    simp only [List.getElem?_cons_zero, List.getElem?_cons_succ] at q q1
    clear hR
    go_simp
    try rfl
  simp only [Act.put, List.setIfInBounds_toArray, List.set_cons_zero, List.set_cons_succ]
  refine sg_turn_call 1 (v := .bool r2) (f := 42) (args := #[.pointer (some ⟨p, 0, none⟩), .int .i64 r1, .int .i64 a]) rfl rfl (fun _ => by first | (go_simp; done) | (go_simp; exact ⟨rfl, rfl⟩)) (fun W hR => by
    obtain ⟨Fi, hS, st⟩ := hR
    refine (hIm W Fi hS).mono ?_
    rintro e w' ⟨rfl, F2, t1, t2⟩
    exact ⟨rfl, F2, t1, st.trans t2⟩) ?_
  simp only [Act.put, List.setIfInBounds_toArray, List.set_cons_zero, List.set_cons_succ]
  (apply sg_any; (focus rfl); (focus rfl); (focus (intro _; go_simp; with_reducible rfl)); simp only [Act.put, List.setIfInBounds_toArray, List.set_cons_zero, List.set_cons_succ])
  refine sg_end (HF.out _ (fun w2 hR => ?_))
  obtain ⟨F2, hS2, st2⟩ := hR
  go_wp2
  go_returns
  exact ⟨rfl, F2, hS2, stV.trans st2⟩
end Go.Proofs.Ytboekafmplomhaa
set_option linter.unusedVariables false
set_option linter.unusedSimpArgs false
namespace Go.Proofs.Ytboekafmplomhaa
open Go.RowKit

theorem andNot_pow {n v : Nat} (hn : n < 18446744073709551616) (hv : v < 64) : bits .andNot .u64 (n : Int) (2 ^ v) = ((clrB n v : Nat) : Int) := by
  have := u64_andNot_nat n (2 ^ v) hn (pow_lt64 hv)
  simpa [clrB] using this

theorem body_gen {P : Program} {fn : Func} {R : Ending → World → Prop} {e : Exit} {a : Act} {w : World} (h : ∀ Z, Z = w → bodyPost P fn R e a Z) : bodyPost P fn R e a w := h w rfl

set_option maxHeartbeats 4000000 in
theorem cprime_live {w : World} {p : Nat} {F : List Nat} {S : Sto} (h : StoIs w p F S) (hG : Gs S) {c : Cu} (hc : CuOk c) (a : Int) :
    Calls Try.prog 61 #[.pointer (some ⟨p, 0, none⟩), .int .i64 a, cv c] w (fun e w' => e = .returned (cv (primeV S a c).2) ∧ Turned w p F (primeV S a c).1 w') := by
  have hmf : ∀ (fn : Fn) (first cap : Array Value) (w : World), (Instr.makeFunc fn first cap).run Try.prog w = .ok (.func fn first cap) w := fun _ _ _ _ => rfl
  go_enter Try.func61, Try.ntmps61
  go_upto_region 2 with (fail)
  refine wp_gen (fun V hV => ?_)
  have hbV : Below w.heap.size w V := by rw [hV]; (repeat' (first | (with_reducible exact Below.refl _ _) | (with_reducible refine Below.ext_mk ?_ ?_ _ _) | (with_reducible refine Below.alloc ?_ ?_ _) | (with_reducible refine Below.drew ?_) | (with_reducible refine Below.setCell ?_ ?_ _) | go_size))
  have bs : Blk V w.heap.size 23 [.pointer (some ⟨p, 0, none⟩)] := by
    rw [hV]; exact (Blk.new w 23 [.pointer (some ⟨p, 0, none⟩)]).below (by (repeat' (first | (with_reducible exact Below.refl _ _) | (with_reducible refine Below.ext_mk ?_ ?_ _ _) | (with_reducible refine Below.alloc ?_ ?_ _) | (with_reducible refine Below.drew ?_) | (with_reducible refine Below.setCell ?_ ?_ _) | go_size)))
  have ba : Blk V (w.heap.size + 1) 3 [.int .i64 a] := by
    rw [hV]
    have := Blk.new (w.alloc (.cells #[.pointer (some ⟨p, 0, none⟩)] 23)) 3 [.int .i64 a]
    rw [World.size_alloc] at this
    exact this.below (by (repeat' (first | (with_reducible exact Below.refl _ _) | (with_reducible refine Below.ext_mk ?_ ?_ _ _) | (with_reducible refine Below.alloc ?_ ?_ _) | (with_reducible refine Below.drew ?_) | (with_reducible refine Below.setCell ?_ ?_ _) | go_size)))
  have bc : Blk V (w.heap.size + 1 + 1) 85 [.int .u64 c.1, .int .u64 c.2] := by
    rw [hV]
    have := Blk.new ((w.alloc (.cells #[.pointer (some ⟨p, 0, none⟩)] 23)).alloc (.cells #[.int .i64 a] 3)) 85 [.int .u64 c.1, .int .u64 c.2]
    rw [World.size_alloc, World.size_alloc] at this
    exact this.below (by (repeat' (first | (with_reducible exact Below.refl _ _) | (with_reducible refine Below.ext_mk ?_ ?_ _ _) | (with_reducible refine Below.alloc ?_ ?_ _) | (with_reducible refine Below.drew ?_) | (with_reducible refine Below.setCell ?_ ?_ _) | go_size)))
  have br : Blk V (w.heap.size + 1 + 1 + 1) 85 [.int .u64 0, .int .u64 0] := by
    rw [hV]
    have := Blk.new (((w.alloc (.cells #[.pointer (some ⟨p, 0, none⟩)] 23)).alloc (.cells #[.int .i64 a] 3)).alloc (.cells #[.int .u64 c.1, .int .u64 c.2] 85)) 85 [.int .u64 0, .int .u64 0]
    rw [World.size_alloc, World.size_alloc, World.size_alloc] at this
    exact this
  clear hV
  have hV := h.below hbV
  have nF : ∀ k, w.heap.size ≤ k → k ∉ F := fun k hk hm => by have := h.lt _ hm; omega
  have stV : StoStep w V F F := StoStep.of_below hbV
  clear h
  have c0 := bc.cell 0
  have c1 := bc.cell 1
  simp only [List.getElem?_cons_zero, List.getElem?_cons_succ] at c0 c1
  have zc := bc.lt
  have r0 := br.cell 0
  have r1 := br.cell 1
  have fr0 := br.free 0
  have fr1 := br.free 1
  simp only [List.getElem?_cons_zero, List.getElem?_cons_succ] at r0 r1
  have zr := br.lt
  by_cases hm : mayC c = true
  · have M := cmay_any hc
    rw [hm] at M
    have P1 := fun W (hb : Below V.heap.size V W) => prime1_live (hV.below hb) hG hc (bs.below hb) (ba.below hb) (nF _ (by omega)) (nF _ (by omega))
    have eP : primeV S a c = if (withinV S a c).2 then (if (primeN a 64 (withinV S a c).1 c).1.full then ((primeN a 64 (withinV S a c).1 c).1, c) else primeN a 64 (withinV S a c).1 c) else ((withinV S a c).1, c) := by
      rw [primeV, if_pos hm]
    have G1 := withinV_gs hG a c
    generalize withinV S a c = R1 at *
    obtain ⟨S1, r1v⟩ := R1
    simp only at P1 eP G1
    have EP := hid eP
    clear eP hm
    refine wp_region_doc (fun F' hF => ?_)
    have HF := hid hF
    clear hF
    iterate 1 (refine doc_val rfl (by first | (go_simp; done) | (go_simp; exact ⟨rfl, rfl⟩) | (go_simp; with_reducible rfl)) ?_; simp only [Act.put, List.setIfInBounds_toArray, List.set_cons_zero, List.set_cons_succ])
    refine doc_call rfl (by first | (go_simp; done) | (go_simp; exact ⟨rfl, rfl⟩) | (go_simp; with_reducible rfl)) ((M _).mono ?_)
    rintro e w' ⟨rfl, m1, d1, rfl⟩
    refine ⟨_, rfl, ?_⟩
    simp only [Act.put, List.setIfInBounds_toArray, List.set_cons_zero, List.set_cons_succ]
    iterate 4 (refine doc_val rfl (by first | (go_simp; done) | (go_simp; exact ⟨rfl, rfl⟩) | (go_simp; with_reducible rfl)) ?_; simp only [Act.put, List.setIfInBounds_toArray, List.set_cons_zero, List.set_cons_succ])
    refine doc_call rfl (by first | (go_simp; done) | (go_simp; exact ⟨rfl, rfl⟩) | (go_simp; with_reducible rfl)) ((P1 _ (by (repeat' (first | (with_reducible exact Below.refl _ _) | (with_reducible refine Below.ext_mk ?_ ?_ _ _) | (with_reducible refine Below.alloc ?_ ?_ _) | (with_reducible refine Below.drew ?_) | (with_reducible refine Below.setCell ?_ ?_ _) | go_size)))).mono ?_)
    rintro e w2 ⟨rfl, F2, hS2, st2⟩
    refine ⟨_, rfl, ?_⟩
    simp only [Act.put, List.setIfInBounds_toArray, List.set_cons_zero, List.set_cons_succ]
    iterate 2 (refine doc_val rfl (by first | (go_simp; done) | (go_simp; exact ⟨rfl, rfl⟩) | (go_simp; with_reducible rfl)) ?_; simp only [Act.put, List.setIfInBounds_toArray, List.set_cons_zero, List.set_cons_succ])
    refine doc_end (HF.out _ _ ?_)
    clear HF F'
    have KB : ∀ k, w.heap.size ≤ k → k < V.heap.size → w2.heap[k]? = V.heap[k]? ∧ k ∉ F2 := fun k h1 h2 =>
      ⟨(st2.block k (by simp; omega) (nF k h1)).trans (World.heap_ext _ _ _ h2), st2.keeps (by simp; omega) (nF k h1)⟩
    have bs2 := bs.keep (KB _ (by omega) bs.lt).1
    have ba2 := ba.keep (KB _ (by omega) ba.lt).1
    have bc2 := bc.keep (KB _ (by omega) bc.lt).1
    have br2 := br.keep (KB _ (by omega) br.lt).1
    have ns2 := (KB _ (by omega) bs.lt).2
    have na2 := (KB _ (by omega) ba.lt).2
    have nc2 := (KB _ (by omega) bc.lt).2
    have nr2 := (KB _ (by omega) br.lt).2
    have st2' : StoStep w w2 F F2 := stV.trans ((StoStep.of_below (by (repeat' (first | (with_reducible exact Below.refl _ _) | (with_reducible refine Below.ext_mk ?_ ?_ _ _) | (with_reducible refine Below.alloc ?_ ?_ _) | (with_reducible refine Below.drew ?_) | (with_reducible refine Below.setCell ?_ ?_ _) | go_size)))).trans st2)
    have G2 : Gs S1 := G1
    clear KB P1 M r0 r1 fr0 fr1 zr c0 c1 zc bs ba bc br hV stV st2
    have c0 := bc2.cell 0
    have c1 := bc2.cell 1
    have r0 := br2.cell 0
    have r1 := br2.cell 1
    have fr0 := br2.free 0
    have fr1 := br2.free 1
    simp only [List.getElem?_cons_zero, List.getElem?_cons_succ] at r0 r1 c0 c1
    have zc := bc2.lt
    have zr := br2.lt
    cases r1v
    · go_wp2
      refine body_gen (fun Z hZ => ?_)
      have bZ : Blk Z (w.heap.size + 1 + 1 + 1) 85 [.int .u64 c.1, .int .u64 c.2] := by rw [hZ]; exact ((br2.set_ 0 _).set_ 1 _)
      have u0 := bZ.cell 0
      have u1 := bZ.cell 1
      simp only [List.getElem?_cons_zero, List.getElem?_cons_succ] at u0 u1
      have uz := bZ.lt
      have hSZ : StoIs Z p F2 S1 := by rw [hZ]; exact ((hS2.poke (b := w.heap.size + 1 + 1 + 1) nr2 0 _).poke (b := w.heap.size + 1 + 1 + 1) nr2 1 _)
      have stZ : StoStep w Z F F2 := by rw [hZ]; exact ((st2'.poke (b := w.heap.size + 1 + 1 + 1) (by omega) 0 _).poke (b := w.heap.size + 1 + 1 + 1) (by omega) 1 _)
      clear hZ
      refine bodyPost_ret (v := cv c) (by simp [results, Try.results61, go_sem, u0, u1]) rfl ?_
      rw [EP.out]
      exact ⟨rfl, F2, hSZ, stZ⟩
    · have EP2 : Hid (primeV S a c = if (primeN a 64 S1 c).1.full then ((primeN a 64 S1 c).1, c) else primeN a 64 S1 c) := hid EP.out
      clear EP
      go_wp2
      have zo : w2.heap.size ∉ F2 := fun hm => Nat.lt_irrefl _ (hS2.lt _ hm)
      go_loopw [23] (fun i wr => ∃ (k : Nat) (S3 : Sto) (F3 : List Nat) (out : Cu), k ≤ 64 ∧ i = .int .i64 ((64 - k : Nat) : Int) ∧ StoIs wr p F3 S3 ∧ Gs S3 ∧ CuOk out ∧ StoStep w2 wr F2 F3 ∧ Blk wr w2.heap.size 85 [.int .u64 out.1, .int .u64 out.2] ∧ w2.heap.size ∉ F3 ∧ primeN a k S3 out = primeN a 64 S1 c) (fun i _ => 64 - (intOf i).toNat)
      case atStart => exact ⟨64, S1, F2, c, by omega, rfl, hS2.below (by (repeat' (first | (with_reducible exact Below.refl _ _) | (with_reducible refine Below.ext_mk ?_ ?_ _ _) | (with_reducible refine Below.alloc ?_ ?_ _) | (with_reducible refine Below.drew ?_) | (with_reducible refine Below.setCell ?_ ?_ _) | go_size))), G2, hc, StoStep.of_below (by (repeat' (first | (with_reducible exact Below.refl _ _) | (with_reducible refine Below.ext_mk ?_ ?_ _ _) | (with_reducible refine Below.alloc ?_ ?_ _) | (with_reducible refine Below.drew ?_) | (with_reducible refine Below.setCell ?_ ?_ _) | go_size))), Blk.new w2 85 [.int .u64 c.1, .int .u64 c.2], zo, rfl⟩
      case round =>
        obtain ⟨k, S3, F3, out, hk, rfl, hS3, G3, ho, st3, bo, no, hpr⟩ := hrel
        have HP := hid hpr
        clear hpr
        have bs3 := bs2.keep (st3.block _ bs2.lt ns2)
        have ba3 := ba2.keep (st3.block _ ba2.lt na2)
        have bc3 := bc2.keep (st3.block _ bc2.lt nc2)
        have br3 := br2.keep (st3.block _ br2.lt nr2)
        have ns3 := st3.keeps bs2.lt ns2
        have na3 := st3.keeps ba2.lt na2
        have nc3 := st3.keeps bc2.lt nc2
        have nr3 := st3.keeps br2.lt nr2
        clear c0 c1 r0 r1 fr0 fr1 zc zr
        have o0 := bo.cell 0
        have o1 := bo.cell 1
        have fo0 := bo.free 0
        have fo1 := bo.free 1
        have zo1 := bo.lt
        have s0 := bs3.cell 0
        have zs := bs3.lt
        simp only [List.getElem?_cons_zero, List.getElem?_cons_succ] at o0 o1 s0
        rcases k with _ | k
        · have FU := full_any hS3 (by have := G3.1.cap2; omega)
          have e1 : ((64 - 0 : Nat) : Int) = 64 := rfl
          rw [e1]
          clear e1
          have c0 := bc3.cell 0
          have c1 := bc3.cell 1
          have r0 := br3.cell 0
          have r1 := br3.cell 1
          have fr0 := br3.free 0
          have fr1 := br3.free 1
          simp only [List.getElem?_cons_zero, List.getElem?_cons_succ] at r0 r1 c0 c1
          have zc := bc3.lt
          have zr := br3.lt
          have eN : primeN a 64 S1 c = (S3, out) := HP.out.symm
          rw [eN] at EP2
          clear eN HP
          by_cases hf : S3.full = true
          · rw [hf] at FU
            go_wp2_with (go_at_call 22; refine FU.mono ?_; rintro e w' ⟨rfl, m1, d1, rfl⟩)
            refine body_gen (fun Z hZ => ?_)
            have bZ : Blk Z (w.heap.size + 1 + 1 + 1) 85 [.int .u64 c.1, .int .u64 c.2] := by rw [hZ]; exact ((br3.set_ 0 _).set_ 1 _).ext _ _
            have u0 := bZ.cell 0
            have u1 := bZ.cell 1
            simp only [List.getElem?_cons_zero, List.getElem?_cons_succ] at u0 u1
            have uz := bZ.lt
            have hSZ : StoIs Z p F3 S3 := by rw [hZ]; exact ((hS3.poke (b := w.heap.size + 1 + 1 + 1) nr3 0 _).poke (b := w.heap.size + 1 + 1 + 1) nr3 1 _).ext _ _
            have stZ : StoStep w Z F F3 := by rw [hZ]; exact (((st2'.trans st3).poke (b := w.heap.size + 1 + 1 + 1) (by omega) 0 _).poke (b := w.heap.size + 1 + 1 + 1) (by omega) 1 _).trans (StoStep.of_below (by (repeat' (first | (with_reducible exact Below.refl _ _) | (with_reducible refine Below.ext_mk ?_ ?_ _ _) | (with_reducible refine Below.alloc ?_ ?_ _) | (with_reducible refine Below.drew ?_) | (with_reducible refine Below.setCell ?_ ?_ _) | go_size))))
            clear hZ
            refine bodyPost_ret (v := cv c) (by simp [results, Try.results61, go_sem, u0, u1]) rfl ?_
            rw [EP2.out]
            simp only [hf, ↓reduceIte]
            exact ⟨trivial, F3, hSZ, stZ⟩
          · have hf' : S3.full = false := by simpa using hf
            rw [hf'] at FU
            go_wp2_with (go_at_call 22; refine FU.mono ?_; rintro e w' ⟨rfl, m1, d1, rfl⟩)
            refine body_gen (fun Z hZ => ?_)
            have bZ : Blk Z (w.heap.size + 1 + 1 + 1) 85 [.int .u64 out.1, .int .u64 out.2] := by rw [hZ]; exact ((br3.set_ 0 _).set_ 1 _).ext _ _
            have u0 := bZ.cell 0
            have u1 := bZ.cell 1
            simp only [List.getElem?_cons_zero, List.getElem?_cons_succ] at u0 u1
            have uz := bZ.lt
            have hSZ : StoIs Z p F3 S3 := by rw [hZ]; exact ((hS3.poke (b := w.heap.size + 1 + 1 + 1) nr3 0 _).poke (b := w.heap.size + 1 + 1 + 1) nr3 1 _).ext _ _
            have stZ : StoStep w Z F F3 := by rw [hZ]; exact (((st2'.trans st3).poke (b := w.heap.size + 1 + 1 + 1) (by omega) 0 _).poke (b := w.heap.size + 1 + 1 + 1) (by omega) 1 _).trans (StoStep.of_below (by (repeat' (first | (with_reducible exact Below.refl _ _) | (with_reducible refine Below.ext_mk ?_ ?_ _ _) | (with_reducible refine Below.alloc ?_ ?_ _) | (with_reducible refine Below.drew ?_) | (with_reducible refine Below.setCell ?_ ?_ _) | go_size))))
            clear hZ
            refine bodyPost_ret (v := cv out) (by simp [results, Try.results61, go_sem, u0, u1]) rfl ?_
            rw [EP2.out]
            simp only [hf', Bool.false_eq_true, ↓reduceIte]
            exact ⟨trivial, F3, hSZ, stZ⟩
        · obtain ⟨v, hv⟩ : ∃ v, v = 63 - k := ⟨_, rfl⟩
          have hv64 : v < 64 := by omega
          have e1 : ((64 - (k + 1) : Nat) : Int) = (v : Int) := by omega
          rw [e1]
          clear e1
          have hv0 : (0 : Int) ≤ (v : Int) := by omega
          have hvl : (v : Int) < 64 := by omega
          have w1 : IntKind.u64.wrap (2 ^ v) = 2 ^ v := wrap_pow hv64
          have a1 := andNot_pow ho.1 hv64
          have a2 := andNot_pow ho.2 hv64
          have hpn : primeN a (k + 1) S3 out = if clrB out.1 v ≠ out.1 then
              if (withinV S3 a (clrB out.1 v, clrB out.2 v)).2 then primeN a k (withinV S3 a (clrB out.1 v, clrB out.2 v)).1 (clrB out.1 v, clrB out.2 v)
              else primeN a k (withinV S3 a (clrB out.1 v, clrB out.2 v)).1 out
            else primeN a k S3 out := by rw [primeN, hv]
          have PN := hid hpn
          have HV := hid hv
          clear hpn hv
          generalize hl1 : clrB out.1 v = l1 at *
          generalize hl2 : clrB out.2 v = l2 at *
          have hlo : CuOk (l1, l2) := ⟨by rw [← hl1]; exact clrB_lt _ ho.1, by rw [← hl2]; exact clrB_lt _ ho.2⟩
          have HL := hid (And.intro hl1 hl2)
          clear hl1 hl2
          go_upto_region 8 with (fail)
          refine wp_region_stage [11, 12] (fun i W => Below wr.heap.size wr W ∧ (i = 0 → W = wr.drew) ∧ (i = 1 → W = wr.drew.alloc (.cells #[.int .u64 0, .int .u64 0] 85)) ∧ (i = 2 → W = wr.drew.alloc (.cells #[.int .u64 l1, .int .u64 l2] 85)))
            (by kernel_rfl) (by kernel_rfl) (by kernel_rfl) (by kernel_rfl) ⟨by (repeat' (first | (with_reducible exact Below.refl _ _) | (with_reducible refine Below.ext_mk ?_ ?_ _ _) | (with_reducible refine Below.alloc ?_ ?_ _) | (with_reducible refine Below.drew ?_) | (with_reducible refine Below.setCell ?_ ?_ _) | go_size)), fun _ => rfl, fun h => by omega, fun h => by omega⟩ (fun F' hF => ?_)
          have HF := hid hF
          clear hF
          (apply sg_any; (focus rfl); (focus rfl); (focus (intro _; go_simp; with_reducible rfl)); simp only [Act.put, List.setIfInBounds_toArray, List.set_cons_zero, List.set_cons_succ])
          refine sg_read (v := .int .u64 out.1) _ _ rfl rfl rfl rfl (fun i W _ _ hR => ?_) ?_
          · have q := (hR.1.cell (p := ⟨w2.heap.size, 0, none⟩) zo1).trans o0
            have zq := Nat.lt_of_lt_of_le zo1 hR.1.size
            clear hR
            go_simp
          simp only [Act.put, List.setIfInBounds_toArray, List.set_cons_zero, List.set_cons_succ]
          (apply sg_any; (focus rfl); (focus rfl); (focus (intro _; go_simp; with_reducible rfl)); simp only [Act.put, List.setIfInBounds_toArray, List.set_cons_zero, List.set_cons_succ])
          (apply sg_any; (focus rfl); (focus rfl); (focus (intro _; go_simp; with_reducible rfl)); simp only [Act.put, List.setIfInBounds_toArray, List.set_cons_zero, List.set_cons_succ])
          (apply sg_any; (focus rfl); (focus rfl); (focus (intro _; go_simp; with_reducible rfl)); simp only [Act.put, List.setIfInBounds_toArray, List.set_cons_zero, List.set_cons_succ])
          (apply sg_any; (focus rfl); (focus rfl); (focus (intro _; go_simp; with_reducible rfl)); simp only [Act.put, List.setIfInBounds_toArray, List.set_cons_zero, List.set_cons_succ])
          refine sg_read (v := .int .u64 out.2) _ _ rfl rfl rfl rfl (fun i W _ _ hR => ?_) ?_
          · have q := (hR.1.cell (p := ⟨w2.heap.size, 1, none⟩) zo1).trans o1
            have zq := Nat.lt_of_lt_of_le zo1 hR.1.size
            clear hR
            go_simp
          simp only [Act.put, List.setIfInBounds_toArray, List.set_cons_zero, List.set_cons_succ]
          (apply sg_any; (focus rfl); (focus rfl); (focus (intro _; go_simp; with_reducible rfl)); simp only [Act.put, List.setIfInBounds_toArray, List.set_cons_zero, List.set_cons_succ])
          (apply sg_any; (focus rfl); (focus rfl); (focus (intro _; go_simp; with_reducible rfl)); simp only [Act.put, List.setIfInBounds_toArray, List.set_cons_zero, List.set_cons_succ])
          (apply sg_any; (focus rfl); (focus rfl); (focus (intro _; go_simp; with_reducible rfl)); simp only [Act.put, List.setIfInBounds_toArray, List.set_cons_zero, List.set_cons_succ])
          (apply sg_any; (focus rfl); (focus rfl); (focus (intro _; go_simp; with_reducible rfl)); simp only [Act.put, List.setIfInBounds_toArray, List.set_cons_zero, List.set_cons_succ])
          refine sg_turn 0 (v := .pointer (some ⟨wr.heap.size, 0, none⟩)) rfl rfl (fun W hR => ⟨wr.drew.alloc (.cells #[.int .u64 0, .int .u64 0] 85), by rw [hR.2.1 rfl]; clear hR; go_simp, by (repeat' (first | (with_reducible exact Below.refl _ _) | (with_reducible refine Below.ext_mk ?_ ?_ _ _) | (with_reducible refine Below.alloc ?_ ?_ _) | (with_reducible refine Below.drew ?_) | (with_reducible refine Below.setCell ?_ ?_ _) | go_size)), fun h => by omega, fun _ => rfl, fun h => by omega⟩) ?_
          simp only [Act.put, List.setIfInBounds_toArray, List.set_cons_zero, List.set_cons_succ]
          refine sg_do 1 rfl rfl (fun W hR => ⟨wr.drew.alloc (.cells #[.int .u64 l1, .int .u64 l2] 85), by rw [hR.2.2.1 rfl]; clear hR; go_simp, by (repeat' (first | (with_reducible exact Below.refl _ _) | (with_reducible refine Below.ext_mk ?_ ?_ _ _) | (with_reducible refine Below.alloc ?_ ?_ _) | (with_reducible refine Below.drew ?_) | (with_reducible refine Below.setCell ?_ ?_ _) | go_size)), fun h => by omega, fun h => by omega, fun _ => rfl⟩) ?_
          simp only [Act.put, List.setIfInBounds_toArray, List.set_cons_zero, List.set_cons_succ]
          refine sg_end (HF.out _ (fun Y hR => ?_))
          obtain ⟨hbY, -, -, hY⟩ := hR
          have bl : Blk Y wr.heap.size 85 [.int .u64 l1, .int .u64 l2] := by
            rw [hY rfl]
            exact Blk.new wr.drew 85 [.int .u64 l1, .int .u64 l2]
          clear hY HF F'
          have boY := bo.below hbY
          have hSY := hS3.below hbY
          have P1 := prime1_live hSY G3 hlo (bs3.below hbY) (ba3.below hbY) ns3 na3
          have GW := withinV_gs G3 a (l1, l2)
          have noY : wr.heap.size ∉ F3 := fun hm => Nat.lt_irrefl _ (hS3.lt _ hm)
          have stY : StoStep w2 Y F2 F3 := st3.trans (StoStep.of_below hbY)
          clear o0 o1 fo0 fo1 zo1 s0 zs
          have o0 := boY.cell 0
          have l0 := bl.cell 0
          have lc1 := bl.cell 1
          simp only [List.getElem?_cons_zero, List.getElem?_cons_succ] at o0 l0 lc1
          have zoY := boY.lt
          have zlY := bl.lt
          have zlY' : wr.heap.size < Y.heap.size := zlY
          go_upto_region 9 with (fail)
          by_cases hne : l1 = out.1
          · have hne' : ((l1 : Int) != (out.1 : Int)) = false := by rw [hne]; simp
            have HN := hid hne
            clear hne
            refine wp_region_doc (fun F' hF => ?_)
            have HF := hid hF
            clear hF
            iterate 6 (refine doc_val rfl (by first | (go_simp; done) | (go_simp; exact ⟨rfl, rfl⟩) | (go_simp; with_reducible rfl)) ?_; simp only [Act.put, List.setIfInBounds_toArray, List.set_cons_zero, List.set_cons_succ])
            iterate 3 (refine doc_not rfl ?_; simp only [Act.put, List.setIfInBounds_toArray, List.set_cons_zero, List.set_cons_succ])
            refine doc_val rfl (by first | (go_simp; done) | (go_simp; exact ⟨rfl, rfl⟩) | (go_simp; with_reducible rfl)) ?_
            simp only [Act.put, List.setIfInBounds_toArray, List.set_cons_zero, List.set_cons_succ]
            refine doc_end (HF.out _ _ ?_)
            clear HF F'
            go_wp2
            go_roundw
            case rel =>
              refine ⟨k, S3, F3, out, by omega, by rw [HV.out]; go_num, hSY, G3, ho, stY, boY, no, ?_⟩
              rw [← HP.out, PN.out, if_neg (by rw [HN.out]; simp)]
            case measure => have := HV.out; simp [intOf]; omega
          · have hne' : ((l1 : Int) != (out.1 : Int)) = true := by simp; omega
            have HN := hid hne
            clear hne
            generalize withinV S3 a (l1, l2) = R4 at *
            obtain ⟨S4, r4⟩ := R4
            simp only at P1 GW
            refine wp_region_doc (fun F' hF => ?_)
            have HF := hid hF
            clear hF
            iterate 8 (refine doc_val rfl (by first | (go_simp; done) | (go_simp; exact ⟨rfl, rfl⟩) | (go_simp; with_reducible rfl)) ?_; simp only [Act.put, List.setIfInBounds_toArray, List.set_cons_zero, List.set_cons_succ])
            refine doc_call rfl (by first | (go_simp; done) | (go_simp; exact ⟨rfl, rfl⟩) | (go_simp; with_reducible rfl)) (P1.mono ?_)
            rintro e w4 ⟨rfl, F4, hS4, st4⟩
            refine ⟨_, rfl, ?_⟩
            simp only [Act.put, List.setIfInBounds_toArray, List.set_cons_zero, List.set_cons_succ]
            refine doc_val rfl (by first | (go_simp; done) | (go_simp; exact ⟨rfl, rfl⟩) | (go_simp; with_reducible rfl)) ?_
            simp only [Act.put, List.setIfInBounds_toArray, List.set_cons_zero, List.set_cons_succ]
            refine doc_end (HF.out _ _ ?_)
            clear HF F'
            have bo4 := boY.keep (st4.block _ zoY no)
            have bl4 := bl.keep (st4.block _ zlY noY)
            have no4 := st4.keeps zoY no
            have st4' := stY.trans st4
            clear o0 l0 lc1 zoY zlY zlY' P1
            cases r4
            · go_wp2
              go_roundw
              case rel =>
                refine ⟨k, S4, F4, out, by omega, by rw [HV.out]; go_num, hS4, GW, ho, st4', bo4, no4, ?_⟩
                rw [← HP.out, PN.out, if_pos HN.out]
                rfl
              case measure => have := HV.out; simp [intOf]; omega
            · have l0 := bl4.cell 0
              have lc1 := bl4.cell 1
              have fo0 := bo4.free 0
              have fo1 := bo4.free 1
              have o0 := bo4.cell 0
              have o1 := bo4.cell 1
              simp only [List.getElem?_cons_zero, List.getElem?_cons_succ] at o0 o1 l0 lc1
              have zo4 := bo4.lt
              have zl4 := bl4.lt
              have zl4' : wr.heap.size < w4.heap.size := zl4
              go_wp2
              go_roundw
              case rel =>
                refine ⟨k, S4, F4, (l1, l2), by omega, by rw [HV.out]; go_num, (hS4.poke no4 0 _).poke no4 1 _, GW, hlo, (st4'.poke (Nat.le_refl _) 0 _).poke (Nat.le_refl _) 1 _, (bo4.set_ 0 _).set_ 1 _, no4, ?_⟩
                rw [← HP.out, PN.out, if_pos HN.out]
                rfl
              case measure => have := HV.out; simp [intOf]; omega
  · have hm' : mayC c = false := by simpa using hm
    have M := cmay_any hc
    rw [hm'] at M
    refine wp_region_doc (fun F hF => ?_)
    have HF := hid hF
    clear hF
    iterate 1 (refine doc_val rfl (by first | (go_simp; done) | (go_simp; exact ⟨rfl, rfl⟩) | (go_simp; with_reducible rfl)) ?_; simp only [Act.put, List.setIfInBounds_toArray, List.set_cons_zero, List.set_cons_succ])
    refine doc_call rfl (by first | (go_simp; done) | (go_simp; exact ⟨rfl, rfl⟩) | (go_simp; with_reducible rfl)) (Calls.mono (M _) ?_)
    rintro _ _ ⟨rfl, mz, dz, rfl⟩
    refine ⟨_, rfl, ?_⟩
    simp only [Act.put, List.setIfInBounds_toArray, List.set_cons_zero, List.set_cons_succ]
    iterate 2 (refine doc_val rfl (by first | (go_simp; done) | (go_simp; exact ⟨rfl, rfl⟩) | (go_simp; with_reducible rfl)) ?_; simp only [Act.put, List.setIfInBounds_toArray, List.set_cons_zero, List.set_cons_succ])
    iterate 4 (refine doc_not rfl ?_; simp only [Act.put, List.setIfInBounds_toArray, List.set_cons_zero, List.set_cons_succ])
    iterate 1 (refine doc_val rfl (by first | (go_simp; done) | (go_simp; exact ⟨rfl, rfl⟩) | (go_simp; with_reducible rfl)) ?_; simp only [Act.put, List.setIfInBounds_toArray, List.set_cons_zero, List.set_cons_succ])
    refine doc_end (HF.out _ _ ?_)
    clear HF F
    go_wp2
    refine body_gen (fun Z hZ => ?_)
    have bZ : Blk Z (w.heap.size + 1 + 1 + 1) 85 [.int .u64 c.1, .int .u64 c.2] := by rw [hZ]; exact ((br.set_ 0 _).set_ 1 _).ext _ _
    have u0 := bZ.cell 0
    have u1 := bZ.cell 1
    simp only [List.getElem?_cons_zero, List.getElem?_cons_succ] at u0 u1
    have uz := bZ.lt
    have hbZ : Below V.heap.size V (V.ext mz dz) := by (repeat' (first | (with_reducible exact Below.refl _ _) | (with_reducible refine Below.ext_mk ?_ ?_ _ _) | (with_reducible refine Below.alloc ?_ ?_ _) | (with_reducible refine Below.drew ?_) | (with_reducible refine Below.setCell ?_ ?_ _) | go_size))
    have hSZ : StoIs Z p F S := by rw [hZ]; exact ((hV.poke (b := w.heap.size + 1 + 1 + 1) (nF _ (by omega)) 0 _).poke (b := w.heap.size + 1 + 1 + 1) (nF _ (by omega)) 1 _).ext _ _
    have stZ : StoStep w Z F F := by rw [hZ]; exact ((stV.poke (b := w.heap.size + 1 + 1 + 1) (by omega) 0 _).poke (b := w.heap.size + 1 + 1 + 1) (by omega) 1 _).trans (StoStep.of_below (by (repeat' (first | (with_reducible exact Below.refl _ _) | (with_reducible refine Below.ext_mk ?_ ?_ _ _) | (with_reducible refine Below.alloc ?_ ?_ _) | (with_reducible refine Below.drew ?_) | (with_reducible refine Below.setCell ?_ ?_ _) | go_size))))
    clear hZ
    refine bodyPost_ret (v := cv c) (by simp [results, Try.results61, go_sem, u0, u1]) rfl ?_
    rw [primeV, if_neg hm]
    exact ⟨rfl, F, hSZ, stZ⟩
end Go.Proofs.Ytboekafmplomhaa
set_option linter.unusedVariables false
set_option linter.unusedSimpArgs false
namespace Go.Proofs.Ytboekafmplomhaa
open Go.RowKit

def gy (c : Bool) (v y : Value) : Value := if c then v else y
theorem gy_true (v y : Value) : gy true v y = v := rfl
theorem gy_false (v y : Value) : gy false v y = y := rfl
theorem up_other {L : Array Bool} (k j : Nat) (h : k ≠ j) : (L.setIfInBounds k true).getD j false = L.getD j false := getD_set_ne false h

theorem not_upC {ops : Array Oper} {L : Array Bool} {i k : Nat} (hd : Down .any ops L) (hk : k ∈ deps .any ops i) (h : L.getD k true = false) : L.getD i false = false := by
  cases hc : L.getD i false with
  | false => rfl
  | true =>
    have := hd i hc k hk
    rw [getD_false_of h] at this; cases this

/-- The list, one cube longer, at the list's new row. -/
structure CvE (Z : World) (p : Nat) (F : List Nat) (S4 : Sto) (G : Option Nat) (l : List Cu) (lb : Nat) (w : World) (v' : Value) : Prop where
  ex : ∃ (F4 : List Nat) (G' : Nat), StoIs w p F4 S4 ∧ RowIs w v' (some G') 85 2 l.length (cus l) ∧ (G = some G' ∨ (Z.heap.size ≤ G' ∧ G' < w.heap.size)) ∧ G' ∉ F4 ∧ StoStep Z w (F ++ G.toList) (F4 ++ [G'])
  form : ∃ a n c, v' = .slice a n c

/-- The worlds of the round's region. -/
def CvR (Z : World) (p : Nat) (F : List Nat) (S4 : Sto) (x' : Cu) (G : Option Nat) (l : List Cu) (lb : Nat) (b : Nat → Bool) (w : World) (q : Nat) (v' : Value) : Prop :=
  (b 4 = false ∧ b 5 = false ∧ b 6 = false ∧ b 7 = false ∧ Below Z.heap.size Z w) ∨
  (b 4 = true ∧ b 5 = false ∧ b 6 = false ∧ b 7 = false ∧ ∃ F4, StoIs w p F4 S4 ∧ StoStep Z w F F4) ∨
  (b 4 = true ∧ b 5 = true ∧ b 6 = false ∧ b 7 = false ∧ ∃ w1 F4, StoIs w1 p F4 S4 ∧ StoStep Z w1 F F4 ∧ w = w1.alloc (.cells #[.int .u64 x'.1, .int .u64 x'.2] 85) ∧ q = w1.heap.size) ∨
  (b 4 = true ∧ b 5 = true ∧ b 6 = true ∧ b 7 = false ∧ CvE Z p F S4 G l lb w v') ∨
  (b 4 = true ∧ b 5 = true ∧ b 6 = true ∧ b 7 = true ∧ ∃ w1, CvE Z p F S4 G l lb w1 v' ∧ w = w1.setCell ⟨lb, 0, none⟩ v')
theorem CvR.congr {Z : World} {p : Nat} {F : List Nat} {S4 : Sto} {x' : Cu} {G : Option Nat} {l : List Cu} {lb : Nat} {b b' : Nat → Bool} {w : World} {q : Nat} {v' : Value} (h : CvR Z p F S4 x' G l lb b w q v')
    (h4 : b' 4 = b 4) (h5 : b' 5 = b 5) (h6 : b' 6 = b 6) (h7 : b' 7 = b 7) : CvR Z p F S4 x' G l lb b' w q v' := by
  unfold CvR at *
  rw [h4, h5, h6, h7]
  exact h
/-- While the list's box is not turned, what lay beside the store and the row lies. -/
theorem CvR.same {Z : World} {p : Nat} {F : List Nat} {S4 : Sto} {x' : Cu} {G : Option Nat} {l : List Cu} {lb : Nat} {b : Nat → Bool} {w : World} {q : Nat} {v' : Value} (h : CvR Z p F S4 x' G l lb b w q v')
    (h7 : b 7 = false) {k : Nat} (hk : k < Z.heap.size) (hn : k ∉ F) (hg : G ≠ some k) : w.heap[k]? = Z.heap[k]? ∧ k < w.heap.size := by
  rcases h with ⟨-, -, -, -, hb⟩ | ⟨-, -, -, -, F4, -, st⟩ | ⟨-, -, -, -, w1, F4, -, st, rfl, -⟩ | ⟨-, -, -, -, hE⟩ | ⟨-, -, -, h, -⟩
  · exact ⟨hb.block k hk, Nat.lt_of_lt_of_le hk hb.size⟩
  · exact ⟨st.block k hk hn, Nat.lt_of_lt_of_le hk st.size⟩
  · have := st.size
    exact ⟨(Below.heap_alloc _ _ _ (by omega)).trans (st.block k hk hn), by simp; omega⟩
  · obtain ⟨F4, G', -, -, -, -, st⟩ := hE.ex
    refine ⟨st.block k hk (fun hm => ?_), Nat.lt_of_lt_of_le hk st.size⟩
    rcases List.mem_append.1 hm with h1 | h1
    · exact hn h1
    · cases G with
      | none => cases h1
      | some g => simp at h1; exact hg (by rw [h1])
  · rw [h7] at h; cases h

/-- The slots of the round. -/
def cvAct (x0 x1 x2 x3 x4 x5 x6 x7 x8 x9 x10 x11 x12 x13 x14 x15 x16 x17 x18 x19 x20 x21 x22 x23 x24 x25 y26 y27 y28 y29 y30 y31 y32 z33 z34 z35 z36 z37 z38 z39 z40 z41 z42 z43 z44 z45 z46 z47 z48 z49 : Value) (ds : List Deferred) (b : Nat → Bool) (v26 v27 v28 v29 v30 v31 v32 : Value) : Act :=
  { tmps := #[x0, x1, x2, x3, x4, x5, x6, x7, x8, x9, x10, x11, x12, x13, x14, x15, x16, x17, x18, x19, x20, x21, x22, x23, x24, x25, gy (b 0) v26 y26, gy (b 1) v27 y27, gy (b 2) v28 y28, gy (b 3) v29 y29, gy (b 4) v30 y30, gy (b 5) v31 y31, gy (b 6) v32 y32, z33, z34, z35, z36, z37, z38, z39, z40, z41, z42, z43, z44, z45, z46, z47, z48, z49], defers := ds }

/-- What holds while Cover works. -/
structure CvI (w : World) (F : List Nat) (p sb ab lb : Nat) (a : Int) (S1 : Sto) (F1 : List Nat) (l : List Cu) (sv : Value) (G : Option Nat) (Ds : List Nat) (W : World) : Prop where
  st : StoIs W p F1 S1
  gs : Gs S1
  step : StoStep w W F F1
  bs : Blk W sb 23 [.pointer (some ⟨p, 0, none⟩)]
  ba : Blk W ab 3 [.int .i64 a]
  bl : Blk W lb 80 [sv]
  row : RowIs W sv G 85 2 l.length (cus l)
  gold : ∀ g, G = some g → w.heap.size ≤ g
  ns : sb ∉ F1
  na : ab ∉ F1
  nl : lb ∉ F1
  ng : ∀ g, G = some g → g ∉ F1
  nd : Ds.Nodup
  marks : ∀ D ∈ Ds, W.heap[D]? = some (.deferred (some [])) ∧ w.heap.size ≤ D ∧ D ∉ F1
  cu : ∀ c ∈ l, CuOk c
/-- Its own blocks. -/
def CvK (sb ab lb : Nat) (G : Option Nat) (Ds F1 : List Nat) : List Nat := sb :: ab :: lb :: (G.toList ++ (Ds ++ F1))
theorem CvI.lt {w : World} {F : List Nat} {p sb ab lb : Nat} {a : Int} {S1 : Sto} {F1 : List Nat} {l : List Cu} {sv : Value} {G : Option Nat} {Ds : List Nat} {W : World} (h : CvI w F p sb ab lb a S1 F1 l sv G Ds W) :
    ∀ k ∈ CvK sb ab lb G Ds F1, k < W.heap.size := by
  intro k hk
  simp only [CvK, List.mem_cons, List.mem_append] at hk
  rcases hk with rfl | rfl | rfl | hk | hk | hk
  · exact h.bs.lt
  · exact h.ba.lt
  · exact h.bl.lt
  · cases G with
    | none => cases hk
    | some g => simp at hk; subst hk; exact h.row.lt _ rfl
  · exact (Array.getElem?_eq_some_iff.1 (h.marks k hk).1).1
  · exact h.st.lt k hk
/-- Other blocks turn. -/
theorem CvI.keep {w : World} {F : List Nat} {p sb ab lb : Nat} {a : Int} {S1 : Sto} {F1 : List Nat} {l : List Cu} {sv : Value} {G : Option Nat} {Ds : List Nat} {W W' : World} (h : CvI w F p sb ab lb a S1 F1 l sv G Ds W)
    {B B' : List Nat} (st : StoStep W W' B B') (hB : ∀ q ∈ B, w.heap.size ≤ q ∧ q ∉ CvK sb ab lb G Ds F1) : CvI w F p sb ab lb a S1 F1 l sv G Ds W' := by
  have hk : ∀ k ∈ CvK sb ab lb G Ds F1, W'.heap[k]? = W.heap[k]? := fun k hk => st.block k (h.lt k hk) (fun hm => (hB k hm).2 hk)
  have hs := h.step
  refine ⟨h.st.keep (fun k hm => hk k (by simp [CvK, hm])), h.gs, ⟨st.os.trans hs.os, st.tape.trans hs.tape, st.output.trans hs.output, Nat.le_trans hs.size st.size, fun k h1 h2 => ?_, fun k hm => ?_⟩,
    h.bs.keep (hk _ (by simp [CvK])), h.ba.keep (hk _ (by simp [CvK])), h.bl.keep (hk _ (by simp [CvK])), h.row.keep (fun g hg => hk g (by simp [CvK, hg])), h.gold, h.ns, h.na, h.nl, h.ng, h.nd, fun D hD => ⟨(hk D (by simp [CvK, hD])).trans (h.marks D hD).1, (h.marks D hD).2⟩, h.cu⟩
  · exact (st.block k (Nat.lt_of_lt_of_le h1 hs.size) (fun hm => by have := (hB k hm).1; omega)).trans (hs.block k h1 h2)
  · exact (hs.fresh k hm).imp id (fun q => ⟨q.1, Nat.lt_of_lt_of_le q.2 st.size⟩)
/-- A call turns the store. -/
theorem CvI.turn {w : World} {F : List Nat} {p sb ab lb : Nat} {a : Int} {S1 : Sto} {F1 : List Nat} {l : List Cu} {sv : Value} {G : Option Nat} {Ds : List Nat} {W W' : World} (h : CvI w F p sb ab lb a S1 F1 l sv G Ds W)
    {S4 : Sto} {F4 : List Nat} (h4 : StoIs W' p F4 S4) (g4 : Gs S4) (st : StoStep W W' F1 F4) : CvI w F p sb ab lb a S4 F4 l sv G Ds W' := by
  have kk : ∀ k, k < W.heap.size → k ∉ F1 → W'.heap[k]? = W.heap[k]? ∧ k ∉ F4 := fun k h1 h2 => ⟨st.block k h1 h2, st.keeps h1 h2⟩
  exact ⟨h4, g4, h.step.trans st, h.bs.keep (kk _ h.bs.lt h.ns).1, h.ba.keep (kk _ h.ba.lt h.na).1, h.bl.keep (kk _ h.bl.lt h.nl).1, h.row.keep (fun g hg => (kk g (h.row.lt g hg) (h.ng g hg)).1), h.gold,
    (kk _ h.bs.lt h.ns).2, (kk _ h.ba.lt h.na).2, (kk _ h.bl.lt h.nl).2, fun g hg => (kk g (h.row.lt g hg) (h.ng g hg)).2, h.nd, fun D hD => by
      obtain ⟨m1, m2, m3⟩ := h.marks D hD
      have := kk D (Array.getElem?_eq_some_iff.1 m1).1 m3
      exact ⟨this.1.trans m1, m2, this.2⟩, h.cu⟩
/-- One mark more. -/
theorem CvI.mark {w : World} {F : List Nat} {p sb ab lb : Nat} {a : Int} {S1 : Sto} {F1 : List Nat} {l : List Cu} {sv : Value} {G : Option Nat} {Ds : List Nat} {W : World} (h : CvI w F p sb ab lb a S1 F1 l sv G Ds W)
    {D : Nat} (hD : W.heap[D]? = some (.deferred (some []))) (hw : w.heap.size ≤ D) (hn : D ∉ CvK sb ab lb G Ds F1) : CvI w F p sb ab lb a S1 F1 l sv G (D :: Ds) W :=
  ⟨h.st, h.gs, h.step, h.bs, h.ba, h.bl, h.row, h.gold, h.ns, h.na, h.nl, h.ng, List.nodup_cons.2 ⟨fun hm => hn (by simp [CvK, hm]), h.nd⟩, fun E hE => by
    rcases List.mem_cons.1 hE with rfl | hE
    · exact ⟨hD, hw, fun hm => hn (by simp [CvK, hm])⟩
    · exact h.marks E hE, h.cu⟩
theorem pathsN_ne {S : Sto} (hW : Wf S) : ∀ (n : Nat) (a : Int) (c : Cu), S.has a → a ≠ 0 → a < n → pathsN S n a c ≠ []
  | 0, a, c, h, h0, hn => by have := h.1; omega
  | n + 1, a, c, h, h0, hn => by
    have hr : rightOf S a = a := by unfold rightOf; rw [if_neg (by have := h.1; have := h.2; omega)]
    by_cases h2 : a < 2
    · have : a = 1 := by have := h.1; omega
      subst this
      have : (atV S 1).2 = false := by unfold atV; rw [hr]; rfl
      rw [pathsN, this]
      simp
    · obtain ⟨i, m, rfl, hm⟩ := has_node h h2
      have ha : atV S ((i : Int) + 2) = (m, true) := by
        unfold atV
        rw [hr, if_neg h2, show ((i : Int) + 2 - 2).toNat = i by omega, hm]
        rfl
      have hch := hW.child hm
      have ok := hW.node i m hm
      rw [pathsN, ha]
      simp only [↓reduceIte]
      intro he
      obtain ⟨e1, e2⟩ := List.append_eq_nil_iff.1 he
      have hlo := ok.lo
      have hhi := ok.hi
      have hne := ok.ne
      by_cases hz : m.2.1 = 0
      · exact pathsN_ne hW n m.2.2 _ hch.2 (by omega) (by omega) e2
      · exact pathsN_ne hW n m.2.1 _ hch.1 hz (by omega) e1
theorem pathsL_ne {S : Sto} (hW : Wf S) {a : Int} (h : S.has a) (h0 : a ≠ 0) : pathsL S a ≠ [] := pathsN_ne hW _ a _ h h0 (by have := h.2; omega)
theorem CvI.gne {w : World} {F : List Nat} {p sb ab lb : Nat} {a : Int} {S1 : Sto} {F1 : List Nat} {l : List Cu} {sv : Value} {G : Option Nat} {Ds : List Nat} {W : World} (h : CvI w F p sb ab lb a S1 F1 l sv G Ds W) :
    (G ≠ some sb ∧ G ≠ some ab ∧ G ≠ some lb ∧ ∀ D ∈ Ds, G ≠ some D) ∧ (∀ D ∈ Ds, D ≠ sb ∧ D ≠ ab ∧ D ≠ lb) := by
  have hr : ∀ g, G = some g → ∃ cur, W.heap[g]? = some (.cells cur 85 (0, 0)) := fun g hg => by
    obtain ⟨-, ⟨-, -, h2⟩ | ⟨g', cap, cur, -, h2, h3, -⟩⟩ := h.row
    · rw [hg] at h2; cases h2
    · rw [hg] at h2; cases h2; exact ⟨cur, h3⟩
  refine ⟨⟨fun e => ?_, fun e => ?_, fun e => ?_, fun D hD e => ?_⟩, fun D hD => ⟨?_, ?_, ?_⟩⟩
  · obtain ⟨cur, h1⟩ := hr _ e; have h2 := h.bs; unfold Blk at h2; rw [h2] at h1; cases h1
  · obtain ⟨cur, h1⟩ := hr _ e; have h2 := h.ba; unfold Blk at h2; rw [h2] at h1; cases h1
  · obtain ⟨cur, h1⟩ := hr _ e; have h2 := h.bl; unfold Blk at h2; rw [h2] at h1; cases h1
  · obtain ⟨cur, h1⟩ := hr _ e; have h2 := (h.marks D hD).1; rw [h2] at h1; cases h1
  · rintro rfl; have h1 := (h.marks _ hD).1; have h2 := h.bs; unfold Blk at h2; rw [h2] at h1; cases h1
  · rintro rfl; have h1 := (h.marks _ hD).1; have h2 := h.ba; unfold Blk at h2; rw [h2] at h1; cases h1
  · rintro rfl; have h1 := (h.marks _ hD).1; have h2 := h.bl; unfold Blk at h2; rw [h2] at h1; cases h1
/-- One cube more in the list. -/
theorem CvI.append {w : World} {F : List Nat} {p sb ab lb : Nat} {a : Int} {S1 S4 : Sto} {F1 : List Nat} {l : List Cu} {sv : Value} {G : Option Nat} {Ds : List Nat} {W w1 : World} {x' : Cu} {v' : Value} (h : CvI w F p sb ab lb a S1 F1 l sv G Ds W)
    (hE : CvE W p F1 S4 G (l ++ [x']) lb w1 v') (g4 : Gs S4) (hx : CuOk x') (hwl : w.heap.size ≤ lb) (hsl : sb ≠ lb) (hal : ab ≠ lb) :
    ∃ F4 G', CvI w F p sb ab lb a S4 F4 (l ++ [x']) v' (some G') Ds (w1.setCell ⟨lb, 0, none⟩ v') ∧
      ∀ q, q < W.heap.size → q ∉ CvK sb ab lb G Ds F1 → q ∉ CvK sb ab lb (some G') Ds F4 ∧ (w1.setCell ⟨lb, 0, none⟩ v').heap[q]? = W.heap[q]? := by
  obtain ⟨F4, G', h4, row, alt, ng, st⟩ := hE.ex
  obtain ⟨⟨gn1, gn2, gn3, gn4⟩, dn⟩ := h.gne
  have hin : ∀ k, k < W.heap.size → k ∉ F1 → G ≠ some k → w1.heap[k]? = W.heap[k]? ∧ k ∉ F4 ∧ k ≠ G' := fun k h1 h2 h3 => by
    have hk : k ∉ F1 ++ G.toList := fun hm => by
      rcases List.mem_append.1 hm with hm | hm
      · exact h2 hm
      · cases G with
        | none => cases hm
        | some g => simp at hm; exact h3 (by rw [hm])
    have h5 := st.keeps h1 hk
    exact ⟨st.block k h1 hk, fun hm => h5 (by simp [hm]), fun e => h5 (by simp [e])⟩
  have hl := hin lb h.bl.lt h.nl gn3
  have hs := hin sb h.bs.lt h.ns gn1
  have ha := hin ab h.ba.lt h.na gn2
  have hd : ∀ D ∈ Ds, w1.heap[D]? = W.heap[D]? ∧ D ∉ F4 ∧ D ≠ G' := fun D hD => by
    obtain ⟨m1, m2, m3⟩ := h.marks D hD
    exact hin D (Array.getElem?_eq_some_iff.1 m1).1 m3 (gn4 D hD)
  have hws := h.step.size
  have stw : StoStep w w1 F F4 := by
    refine ⟨st.os.trans h.step.os, st.tape.trans h.step.tape, st.output.trans h.step.output, Nat.le_trans hws st.size, fun k h1 h2 => ?_, fun k hm => ?_⟩
    · refine (st.block k (by omega) (fun hm => ?_)).trans (h.step.block k h1 h2)
      rcases List.mem_append.1 hm with hm | hm
      · rcases h.step.fresh k hm with h5 | h5
        · exact h2 h5
        · omega
      · cases G with
        | none => cases hm
        | some g => simp at hm; have := h.gold g rfl; omega
    · rcases st.fresh k (List.mem_append_left _ hm) with h5 | h5
      · rcases List.mem_append.1 h5 with h5 | h5
        · rcases h.step.fresh k h5 with h6 | h6
          · exact .inl h6
          · exact .inr ⟨h6.1, Nat.lt_of_lt_of_le h6.2 st.size⟩
        · cases G with
          | none => cases h5
          | some g =>
            simp at h5
            subst h5
            exact .inr ⟨h.gold k rfl, Nat.lt_of_lt_of_le (h.row.lt k rfl) st.size⟩
      · exact .inr ⟨by omega, h5.2⟩
  refine ⟨F4, G', ⟨h4.poke hl.2.1 0 _, g4, stw.poke hwl 0 _, (h.bs.keep hs.1).far (fun e => hsl e.symm) 0 _, (h.ba.keep ha.1).far (fun e => hal e.symm) 0 _, (h.bl.keep hl.1).set_ 0 _, row.keep (fun g hg => by cases hg; exact Below.heap_setCell _ _ _ _ (fun e => hl.2.2 e.symm)),
    fun g hg => ?_, hs.2.1, ha.2.1, hl.2.1, fun g hg => by cases hg; exact ng, h.nd, fun D hD => ⟨(Below.heap_setCell _ _ _ _ (dn D hD).2.2).trans ((hd D hD).1.trans (h.marks D hD).1), (h.marks D hD).2.1, (hd D hD).2.1⟩, fun c hc => ?_⟩, fun q hq hn => ?_⟩
  · cases hg
    rcases alt with e | e
    · exact h.gold G' e
    · omega
  · rcases List.mem_append.1 hc with hc | hc
    · exact h.cu c hc
    · simp at hc; subst hc; exact hx
  · simp only [CvK, List.mem_cons, List.mem_append, not_or, Option.mem_toList] at hn ⊢
    have hq2 := hin q hq hn.2.2.2.2.2 (fun e => hn.2.2.2.1 e)
    refine ⟨⟨hn.1, hn.2.1, hn.2.2.1, fun e => hq2.2.2 (by cases e; rfl), hn.2.2.2.2.1, hq2.2.1⟩, (Below.heap_setCell _ _ _ _ hn.2.2.1).trans hq2.1⟩
/-- The marks among the deferred calls. -/
def markD (D : Nat) : Deferred := { target := .collected D, args := #[] }
theorem leaves_marks {P : Program} {fn : Func} {tmps : Array Value} {R : Ending → World → Prop} : ∀ (Ds : List Nat) (W : World), Ds.Nodup → (∀ D ∈ Ds, W.heap[D]? = some (.deferred (some []))) →
    (∀ W', StoStep W W' Ds Ds → ∃ v, (results fn tmps).run P W' = .ok v W' ∧ R (.returned v) W') → LeavesInM Fence.wide 1 P fn tmps R (Ds.map markD) .returning W
  | [], W, _, _, h => h W (StoStep.refl _ _)
  | D :: Ds, W, hn, hm, h => by
    obtain ⟨h1, h2⟩ := List.nodup_cons.1 hn
    refine ⟨by simp, .inl ⟨D, _, rfl, run_takeDeferred (hm D (by simp)), leaves_marks Ds _ h2 (fun E hE => ?_) (fun W' st => ?_)⟩⟩
    · exact (World.putObj_heap_other (by rintro rfl; exact h1 hE)).trans (hm E (by simp [hE]))
    · refine h W' ?_
      have s1 : StoStep W (W.putObj D (.deferred none)) (D :: Ds) (D :: Ds) := step_putObj W (by simp) _
      exact ⟨st.os.trans s1.os, st.tape.trans s1.tape, st.output.trans s1.output, Nat.le_trans s1.size st.size, fun k hk hq => (st.block k (by have := s1.size; omega) (fun hm => hq (by simp [hm]))).trans (s1.block k hk hq), fun k hk => .inl hk⟩
end Go.Proofs.Ytboekafmplomhaa
set_option linter.unusedVariables false
set_option linter.unusedSimpArgs false
namespace Go.Proofs.Ytboekafmplomhaa
open Go.RowKit

def coverV (S : Sto) (a most : Int) : Sto × List Cu × Bool :=
  if (coverN a (heldV most) ((heldV most).toNat + 1) (andV S a 1).1 (andV S a 1).2 []).2.2 then
    if (coverN a (heldV most) ((heldV most).toNat + 1) (andV S a 1).1 (andV S a 1).2 []).1.full then ((coverN a (heldV most) ((heldV most).toNat + 1) (andV S a 1).1 (andV S a 1).2 []).1, [], false)
    else coverN a (heldV most) ((heldV most).toNat + 1) (andV S a 1).1 (andV S a 1).2 []
  else coverN a (heldV most) ((heldV most).toNat + 1) (andV S a 1).1 (andV S a 1).2 []

/-- How many cubes may come yet. -/
def covM (H lb : Nat) (w : World) : Nat := match w.cell? ⟨lb, 0, none⟩ with | some (.slice _ n _) => H + 1 - n | _ => 0
theorem covM_is {H lb : Nat} {w : World} {a : Option Addr} {n c : Nat} (h : w.cell? ⟨lb, 0, none⟩ = some (.slice a n c)) : covM H lb w = H + 1 - n := by
  unfold covM
  rw [h]
/-- What Cover tells. -/
def CoverAt (w : World) (p : Nat) (F : List Nat) (R : Sto × List Cu × Bool) (e : Ending) (w' : World) : Prop :=
  ∃ sv G F', e = .returned (.tuple #[sv, .bool R.2.2]) ∧ RowIs w' sv G 85 2 R.2.1.length (cus R.2.1) ∧ (∀ g, G = some g → w.heap.size ≤ g ∧ g ∉ F') ∧ StoIs w' p F' R.1 ∧ Gs R.1 ∧ StoStep w w' F F'

theorem andV_has {S : Sto} (h : Gs S) (x y : Int) : (andV S x y).1.has (andV S x y).2 := (iteV_ok h.1 h.2 (below64 h.1) (by omega) x y 0).has

theorem cover_leave {w W : World} {p : Nat} {F : List Nat} {a : Int} {S1 : Sto} {F1 : List Nat} {l : List Cu} {la : Option Addr} {n lc : Nat} {G : Option Nat} {Ds : List Nat} {b : Bool}
    (C : CvI w F p w.heap.size (w.heap.size + 1) (w.heap.size + 1 + 1) a S1 F1 l (.slice la n lc) G Ds W) (R : Sto × List Cu × Bool) (hR : R = (S1, l, b)) (x0 x1 x2 x3 x4 x5 x8 x9 x10 x11 x12 x13 x14 x15 x16 x17 x18 x19 x20 x21 x22 x23 x24 x25 x26 x27 x28 x29 x30 x31 x32 x33 x34 x35 x36 x37 x38 x39 x40 x41 x42 x43 x44 x45 x46 x47 x48 x49 : Value) :
    bodyPostM Fence.wide 1 Try.prog Try.f55 (CoverAt w p F R) .ret { tmps := #[x0, x1, x2, x3, x4, x5, .pointer (some ⟨w.heap.size + 1 + 1, 0, none⟩), .bool b, x8, x9, x10, x11, x12, x13, x14, x15, x16, x17, x18, x19, x20, x21, x22, x23, x24, x25, x26, x27, x28, x29, x30, x31, x32, x33, x34, x35, x36, x37, x38, x39, x40, x41, x42, x43, x44, x45, x46, x47, x48, x49], defers := Ds.map markD } W := by
  subst hR
  refine leaves_marks Ds W C.nd (fun D hD => (C.marks D hD).1) (fun Z st => ?_)
  have hN : ∀ D ∈ Ds, w.heap.size ≤ D ∧ D ∉ CvK w.heap.size (w.heap.size + 1) (w.heap.size + 1 + 1) G [] F1 := fun D hD => by
    obtain ⟨m1, m2, m3⟩ := C.marks D hD
    refine ⟨m2, fun hm => ?_⟩
    simp only [CvK, List.mem_cons, List.mem_append, List.not_mem_nil, false_or] at hm
    rcases hm with e | e | e | hm | hm
    · have := C.bs; rw [← e] at this; unfold Blk at this; rw [this] at m1; cases m1
    · have := C.ba; rw [← e] at this; unfold Blk at this; rw [this] at m1; cases m1
    · have := C.bl; rw [← e] at this; unfold Blk at this; rw [this] at m1; cases m1
    · obtain ⟨-, ⟨-, -, hg⟩ | ⟨g, cap, cur, -, hg, h3, -⟩⟩ := C.row
      · rw [hg] at hm; cases hm
      · rw [hg] at hm; simp at hm; subst hm; rw [h3] at m1; cases m1
    · exact m3 hm
  have C2 : CvI w F p w.heap.size (w.heap.size + 1) (w.heap.size + 1 + 1) a S1 F1 l (.slice la n lc) G [] Z := CvI.keep ⟨C.st, C.gs, C.step, C.bs, C.ba, C.bl, C.row, C.gold, C.ns, C.na, C.nl, C.ng, List.nodup_nil, (fun D hD => by cases hD), C.cu⟩ st hN
  have c0 := C2.bl.cell 0
  simp only [List.getElem?_cons_zero] at c0
  refine ⟨.tuple #[.slice la n lc, .bool b], ?_, _, G, F1, rfl, C2.row, fun g hg => ⟨C2.gold g hg, C2.ng g hg⟩, C2.st, C2.gs, C2.step⟩
  simp [results, Try.results55, go_sem, c0]

set_option maxHeartbeats 8000000 in
set_option maxRecDepth 4000 in
theorem ccover_live {w : World} {p : Nat} {F : List Nat} {S : Sto} (h : StoIs w p F S) (hG : Gs S) (a most : Int) :
    Calls Try.prog 55 #[.pointer (some ⟨p, 0, none⟩), .int .i64 a, .int .i64 most] w (CoverAt w p F (coverV S a most)) := by
  have hFu := hid (fun W F S (h : StoIs W p F S) (hG : Gs S) => full_any h (by have := hG.1.cap2; omega))
  have hNo := hid (fun W F S (h : StoIs W p F S) (hG : Gs S) (v : Int) => not_call h hG.1 v)
  have hAn := hid (fun W F S (h : StoIs W p F S) (hG : Gs S) (x y : Int) => and_call h hG.1 x y)
  unfold Tells at hNo hAn
  obtain ⟨TGT, hT⟩ : ∃ T, T = coverN a (heldV most) ((heldV most).toNat + 1) (andV S a 1).1 (andV S a 1).2 [] := ⟨_, rfl⟩
  have hC : Hid (coverV S a most = if TGT.2.2 then (if TGT.1.full then (TGT.1, [], false) else TGT) else TGT) := hid (by rw [hT]; rfl)
  refine calls_of_marks Try.func55 rfl ?_
  simp only [Try.ntmps55, List.size_toArray, List.length_cons, List.length_nil, Nat.reduceAdd, Nat.reduceSub, Array.replicate_succ, Array.replicate_zero, List.push_toArray, List.append_toArray, List.nil_append, List.cons_append]
  go_upto_region 1 with (fail)
  refine wp_gen (fun V hV => ?_)
  have hbV : Below w.heap.size w V := by rw [hV]; (repeat' (first | (with_reducible exact Below.refl _ _) | (with_reducible refine Below.ext_mk ?_ ?_ _ _) | (with_reducible refine Below.alloc ?_ ?_ _) | (with_reducible refine Below.drew ?_) | (with_reducible refine Below.setCell ?_ ?_ _) | go_size))
  have bs : Blk V w.heap.size 23 [.pointer (some ⟨p, 0, none⟩)] := by
    rw [hV]; exact (Blk.new w 23 [.pointer (some ⟨p, 0, none⟩)]).below (by (repeat' (first | (with_reducible exact Below.refl _ _) | (with_reducible refine Below.ext_mk ?_ ?_ _ _) | (with_reducible refine Below.alloc ?_ ?_ _) | (with_reducible refine Below.drew ?_) | (with_reducible refine Below.setCell ?_ ?_ _) | go_size)))
  have ba : Blk V (w.heap.size + 1) 3 [.int .i64 a] := by
    rw [hV]
    have := Blk.new (w.alloc (.cells #[.pointer (some ⟨p, 0, none⟩)] 23)) 3 [.int .i64 a]
    rw [World.size_alloc] at this
    exact this.below (by (repeat' (first | (with_reducible exact Below.refl _ _) | (with_reducible refine Below.ext_mk ?_ ?_ _ _) | (with_reducible refine Below.alloc ?_ ?_ _) | (with_reducible refine Below.drew ?_) | (with_reducible refine Below.setCell ?_ ?_ _) | go_size)))
  have bl : Blk V (w.heap.size + 1 + 1) 80 [.slice none 0 0] := by
    rw [hV]
    have := Blk.new ((w.alloc (.cells #[.pointer (some ⟨p, 0, none⟩)] 23)).alloc (.cells #[.int .i64 a] 3)) 80 [.slice none 0 0]
    rw [World.size_alloc, World.size_alloc] at this
    exact this
  clear hV
  have nF : ∀ k, w.heap.size ≤ k → k ∉ F := fun k hk hm => by have := h.lt _ hm; omega
  have s0 := bs.cell 0
  have a0 := ba.cell 0
  simp only [List.getElem?_cons_zero] at s0 a0
  have zs := bs.lt
  have za := ba.lt
  have A1 := hAn.out V F S (h.below hbV) hG a 1
  have G1 := andV_gs hG a 1
  have H1 := andV_has hG a 1
  generalize andV S a 1 = R1 at *
  obtain ⟨S1, r1⟩ := R1
  simp only at A1 G1 H1 hT
  go_wp2_with (go_at_call 27; refine A1.mono ?_; rintro e w1 ⟨rfl, F1, hS1, st1⟩)
  have C0 : CvI w F p w.heap.size (w.heap.size + 1) (w.heap.size + 1 + 1) a S F [] (.slice none 0 0) none [] V :=
    ⟨h.below hbV, hG, StoStep.of_below hbV, bs, ba, bl, ⟨rfl, .inl ⟨rfl, rfl, rfl⟩⟩, fun g hg => (by cases hg), nF _ (by omega), nF _ (by omega), nF _ (by omega), fun g hg => (by cases hg), List.nodup_nil, fun D hD => (by cases hD), fun c hc => (by cases hc)⟩
  have C1 := C0.turn hS1 G1 st1
  have HT := hid hT
  clear hT C0 s0 a0 zs za bs ba bl A1 hS1 st1
  refine wp_loop (fun a' wr => ∃ (u9 u10 u11 u12 u13 u14 u15 u16 u17 u18 u19 u20 u21 u22 u23 u24 u25 u26 u27 u28 u29 u30 u31 u32 u33 u34 u35 u36 u37 u38 u39 u40 u41 u42 u43 u44 u45 u46 u47 u48 u49 : Value) (rest : Int) (S1 : Sto) (F1 : List Nat) (l : List Cu) (sv : Value) (G : Option Nat) (Ds : List Nat) (k : Nat), a' = { tmps := #[.pointer (some ⟨p, 0, none⟩), .int .i64 a, .int .i64 most, .pointer (some ⟨w.heap.size, 0, none⟩), .pointer (some ⟨w.heap.size + 1, 0, none⟩), undef, .pointer (some ⟨w.heap.size + 1 + 1, 0, none⟩), .bool false, .int .i64 rest, u9, u10, u11, u12, u13, u14, u15, u16, u17, u18, u19, u20, u21, u22, u23, u24, u25, u26, u27, u28, u29, u30, u31, u32, u33, u34, u35, u36, u37, u38, u39, u40, u41, u42, u43, u44, u45, u46, u47, u48, u49], defers := Ds.map markD } ∧ CvI w F p w.heap.size (w.heap.size + 1) (w.heap.size + 1 + 1) a S1 F1 l sv G Ds wr ∧ S1.has rest ∧ (l.length : Int) + k = heldV most + 1 ∧ 1 ≤ k ∧ coverN a (heldV most) k S1 rest l = TGT) (fun a' wr => covM (heldV most).toNat (w.heap.size + 1 + 1) wr) ?_ ?_
  · have hh : 0 ≤ heldV most := by unfold heldV; omega
    exact ⟨_, _, _, _, _, _, _, _, _, _, _, _, _, _, _, _, _, _, _, _, _, _, _, _, _, _, _, _, _, _, _, _, _, _, _, _, _, _, _, _, _, r1, S1, F1, [], _, none, [], (heldV most).toNat + 1, rfl, C1, H1, (by simp; omega), (by omega), HT.out.symm⟩
  · rintro a' wr ⟨u9, u10, u11, u12, u13, u14, u15, u16, u17, u18, u19, u20, u21, u22, u23, u24, u25, u26, u27, u28, u29, u30, u31, u32, u33, u34, u35, u36, u37, u38, u39, u40, u41, u42, u43, u44, u45, u46, u47, u48, u49, rest, S1, F1, l, sv, G, Ds, k, rfl, C, hr, hk, hk1, hN⟩
    have HC := hid C
    have HN := hid hN
    clear C1 HT H1 G1 hN
    obtain ⟨la, lc, rfl, hlm⟩ := C.row.form
    have c0 := C.bl.cell 0
    have s0 := C.bs.cell 0
    have a0 := C.ba.cell 0
    simp only [List.getElem?_cons_zero] at c0 s0 a0
    have zl := C.bl.lt
    have zs := C.bs.lt
    have za := C.ba.lt
    have FU := hFu.out _ _ _ C.st C.gs
    have f0 := C.bl.free 0
    have e0 := Blk.same1 C.bl
    clear C
    by_cases h0 : rest = 0
    · subst h0
      have eT : TGT = (S1, l, true) := by rw [← HN.out]; cases k <;> simp [coverN]
      cases hf : S1.full
      · rw [hf] at FU
        have hf' := hid hf
        clear hf
        go_wp2_with (go_at_call 22; refine FU.mono ?_; rintro e w' ⟨rfl, m1, d1, rfl⟩)
        exact cover_leave (HC.out.keep (B := []) (B' := []) (step_below (by (repeat' (first | (with_reducible exact Below.refl _ _) | (with_reducible refine Below.ext_mk ?_ ?_ _ _) | (with_reducible refine Below.alloc ?_ ?_ _) | (with_reducible refine Below.drew ?_) | (with_reducible refine Below.setCell ?_ ?_ _) | go_size))) (fun k hk => by cases hk)) (fun q hq => by cases hq)) _ (by rw [hC.out, eT]; simp [hf'.out]) _ _ _ _ _ _ _ _ _ _ _ _ _ _ _ _ _ _ _ _ _ _ _ _ _ _ _ _ _ _ _ _ _ _ _ _ _ _ _ _ _ _ _ _ _ _ _ _
      · rw [hf] at FU
        have hf' := hid hf
        clear hf
        go_wp2_with (go_at_call 22; refine FU.mono ?_; rintro e w' ⟨rfl, m1, d1, rfl⟩)
        have C := HC.out
        have nD : ∀ D ∈ Ds, D ≠ w.heap.size + 1 + 1 := fun D hD e => by
          have m1 := (C.marks D hD).1
          have := C.bl; rw [← e] at this; unfold Blk at this; rw [this] at m1; cases m1
        have C2 : CvI w F p w.heap.size (w.heap.size + 1) (w.heap.size + 1 + 1) a S1 F1 [] (.slice none 0 0) none Ds (wr.setCell ⟨w.heap.size + 1 + 1, 0, none⟩ (.slice none 0 0)) :=
          ⟨C.st.poke C.nl 0 _, C.gs, C.step.poke (by omega) 0 _, C.bs.far (by omega) 0 _, C.ba.far (by omega) 0 _, C.bl.set_ 0 _, ⟨rfl, .inl ⟨rfl, rfl, rfl⟩⟩, fun g hg => (by cases hg), C.ns, C.na, C.nl, fun g hg => (by cases hg), C.nd,
            fun D hD => ⟨(Below.heap_setCell _ _ _ _ (nD D hD)).trans (C.marks D hD).1, (C.marks D hD).2⟩, fun c hc => (by cases hc)⟩
        exact cover_leave (C2.keep (B := []) (B' := []) (step_below (by (repeat' (first | (with_reducible exact Below.refl _ _) | (with_reducible refine Below.ext_mk ?_ ?_ _ _) | (with_reducible refine Below.alloc ?_ ?_ _) | (with_reducible refine Below.drew ?_) | (with_reducible refine Below.setCell ?_ ?_ _) | go_size))) (fun k hk => by cases hk)) (fun q hq => by cases hq)) _ (by rw [hC.out, eT]; simp [hf'.out]) _ _ _ _ _ _ _ _ _ _ _ _ _ _ _ _ _ _ _ _ _ _ _ _ _ _ _ _ _ _ _ _ _ _ _ _ _ _ _ _ _ _ _ _ _ _ _ _
    · have h0' : (rest != 0) = true := by simpa using h0
      by_cases hl : (l.length : Int) = heldV most
      · have hl' : ((l.length : Int) == heldV most) = true := by simpa using hl
        have eT : TGT = (S1, l, false) := by
          obtain rfl : k = 1 := by omega
          rw [← HN.out, coverN, if_neg h0, if_pos hl]
        clear h0 hl
        go_upto_region 3 with (fail)
        refine wp_region_ext (by kernel_rfl) (by kernel_rfl) (fun F hF => ?_)
        have HF := hid hF; clear hF
        repeat (first
          | (apply text_skip; (focus rfl); simp only [Act.put, List.setIfInBounds_toArray, List.set_cons_zero, List.set_cons_succ])
          | (apply text_val; (focus rfl); (focus (intro _ _; go_simp; with_reducible rfl)); simp only [Act.put, List.setIfInBounds_toArray, List.set_cons_zero, List.set_cons_succ])
          | (apply text_call; (focus rfl); (focus (intro _ _; go_simp; exact ⟨rfl, rfl⟩)); (focus (intro _ _; with_reducible (exact held_any _ _))); simp only [Act.put, List.setIfInBounds_toArray, List.set_cons_zero, List.set_cons_succ])
          | (apply text_if; (focus (first | exact wanted_t rfl rfl | exact wanted_f rfl rfl | exact wanted_gt rfl rfl | exact wanted_gf rfl rfl)); (focus (intro hc _ _; (try simp only [Bool.and_eq_true, Bool.not_eq_true', Bool.true_and] at hc); go_simp; with_reducible rfl)); simp only [Act.put, List.setIfInBounds_toArray, List.set_cons_zero, List.set_cons_succ])
          | (apply text_if_call; (focus (first | exact wanted_t rfl rfl | exact wanted_f rfl rfl | exact wanted_gt rfl rfl | exact wanted_gf rfl rfl)); (focus (intro hc _ _; (try simp only [Bool.and_eq_true, Bool.not_eq_true', Bool.true_and] at hc); go_simp; exact ⟨rfl, rfl⟩)); (focus (intro hc _ _; with_reducible (exact held_any _ _))); simp only [Act.put, List.setIfInBounds_toArray, List.set_cons_zero, List.set_cons_succ]))
        refine text_nil (HF.out _ (fun mx dx => ?_))
        clear HF F
        go_wp2
        exact cover_leave (HC.out.keep (B := []) (B' := []) (step_below (by (repeat' (first | (with_reducible exact Below.refl _ _) | (with_reducible refine Below.ext_mk ?_ ?_ _ _) | (with_reducible refine Below.alloc ?_ ?_ _) | (with_reducible refine Below.drew ?_) | (with_reducible refine Below.setCell ?_ ?_ _) | go_size))) (fun k hk => by cases hk)) (fun q hq => by cases hq)) _ (by rw [hC.out, eT]; simp) _ _ _ _ _ _ _ _ _ _ _ _ _ _ _ _ _ _ _ _ _ _ _ _ _ _ _ _ _ _ _ _ _ _ _ _ _ _ _ _ _ _ _ _ _ _ _ _
      · have hl' : ((l.length : Int) == heldV most) = false := by simpa using hl
        obtain ⟨k, rfl⟩ : ∃ k', k = k' + 1 := ⟨k - 1, by omega⟩
        have hkk : 1 ≤ k := by omega
        have HL := hid (And.intro h0 hl)
        clear h0 hl
        go_upto_region 3 with (fail)
        refine wp_region_ext (by kernel_rfl) (by kernel_rfl) (fun F hF => ?_)
        have HF := hid hF; clear hF
        repeat (first
          | (apply text_skip; (focus rfl); simp only [Act.put, List.setIfInBounds_toArray, List.set_cons_zero, List.set_cons_succ])
          | (apply text_val; (focus rfl); (focus (intro _ _; go_simp; with_reducible rfl)); simp only [Act.put, List.setIfInBounds_toArray, List.set_cons_zero, List.set_cons_succ])
          | (apply text_call; (focus rfl); (focus (intro _ _; go_simp; exact ⟨rfl, rfl⟩)); (focus (intro _ _; with_reducible (exact held_any _ _))); simp only [Act.put, List.setIfInBounds_toArray, List.set_cons_zero, List.set_cons_succ])
          | (apply text_if; (focus (first | exact wanted_t rfl rfl | exact wanted_f rfl rfl | exact wanted_gt rfl rfl | exact wanted_gf rfl rfl)); (focus (intro hc _ _; (try simp only [Bool.and_eq_true, Bool.not_eq_true', Bool.true_and] at hc); go_simp; with_reducible rfl)); simp only [Act.put, List.setIfInBounds_toArray, List.set_cons_zero, List.set_cons_succ])
          | (apply text_if_call; (focus (first | exact wanted_t rfl rfl | exact wanted_f rfl rfl | exact wanted_gt rfl rfl | exact wanted_gf rfl rfl)); (focus (intro hc _ _; (try simp only [Bool.and_eq_true, Bool.not_eq_true', Bool.true_and] at hc); go_simp; exact ⟨rfl, rfl⟩)); (focus (intro hc _ _; with_reducible (exact held_any _ _))); simp only [Act.put, List.setIfInBounds_toArray, List.set_cons_zero, List.set_cons_succ]))
        refine text_nil (HF.out _ (fun mx dx => ?_))
        clear HF F
        go_upto_region 5 with (fail)
        have C0 := HC.out.keep (W' := wr.ext mx dx) (B := []) (B' := []) (step_below (by (repeat' (first | (with_reducible exact Below.refl _ _) | (with_reducible refine Below.ext_mk ?_ ?_ _ _) | (with_reducible refine Below.alloc ?_ ?_ _) | (with_reducible refine Below.drew ?_) | (with_reducible refine Below.setCell ?_ ?_ _) | go_size))) (fun k hk => by cases hk)) (fun q hq => by cases hq)
        clear HC s0 a0 zl zs za f0 e0 FU
        generalize wr.ext mx dx = X0 at *
        have s0 := C0.bs.cell 0
        simp only [List.getElem?_cons_zero] at s0
        have zs := C0.bs.lt
        have H0 := hid C0
        clear C0
        go_wp2_with (go_at_call 115; refine (paths_any _ _ _).mono ?_; rintro e X ⟨rfl, z2, hb2, b1, b2, b3⟩)
        have C := H0.out.keep (B := []) (B' := []) (step_below hb2 (fun k hk => by cases hk)) (fun q hq => by cases hq)
        have hsX : w.heap.size ≤ X.heap.size := C.step.size
        have zX0 := H0.out.step.size
        have zl0 := H0.out.bl.lt
        have KX0 := H0.out.lt
        have PW : PathW X X0.heap.size (X0.heap.size + 2) p F1 S1 := ⟨b1, b3, C.st⟩
        have NE := pathsL_ne C.gs.1 hr HL.out.1
        have CX := hid C
        clear H0
        refine wpIn_wide.1 (wpIn_rangeFunc_b (n := 0) (gf := 141) (lb := #[.pointer (some ⟨X0.heap.size + 2, 0, none⟩), .pointer (some ⟨X0.heap.size + 1, 0, none⟩)]) rfl (fun _ _ => by kernel_rfl)
          (paths_seq C.gs.1 rest (X0.heap.size + 1) X PW b2) (fun q hq => by
            simp only [List.mem_cons] at hq
            rcases hq with rfl | hq
            · exact b2.lt
            · exact PW.lt q hq) (fun _ => rfl)
          (fun pre B W => pre = [] ∧ Below X.heap.size X W ∧ ∀ q ∈ B, X.heap.size ≤ q)
          (fun c pre B W => c = .exit 2 ∧ ∃ x F4 sv' G', pre = [x] ∧ CuOk x ∧ CvI w F p w.heap.size (w.heap.size + 1) (w.heap.size + 1 + 1) a (primeV S1 a x).1 F4 (l ++ [(primeV S1 a x).2]) sv' G' Ds W ∧ ∀ q ∈ B, w.heap.size ≤ q ∧ q ∉ CvK w.heap.size (w.heap.size + 1) (w.heap.size + 1 + 1) G' Ds F4)
          ?abi ?abx ⟨rfl, Below.refl _ _, fun q hq => by cases hq⟩
          (fun pre x B a' W => pre = [] ∧ CuOk x ∧ Below X.heap.size X W ∧ (∀ q ∈ B, X.heap.size ≤ q) ∧ ∃ cb, X.heap.size ≤ cb ∧ cb ∉ B ∧ Blk W cb 85 [.int .u64 x.1, .int .u64 x.2] ∧ a' = { tmps := #[.pointer (some ⟨p, 0, none⟩), .int .i64 a, .int .i64 most, .pointer (some ⟨w.heap.size, 0, none⟩), .pointer (some ⟨w.heap.size + 1, 0, none⟩), undef, .pointer (some ⟨w.heap.size + 1 + 1, 0, none⟩), .bool false, .int .i64 rest, .pointer (some ⟨cb, 0, none⟩), u10, u11, u12, u13, .int .i64 rest, .bool true, .slice la l.length lc, .int .i64 (l.length : Int), .int .i64 most, .int .i64 (heldV most), .bool false, u21, .pointer (some ⟨p, 0, none⟩), .int .i64 rest, .func (.func 141) #[] #[.pointer (some ⟨X0.heap.size + 2, 0, none⟩), .pointer (some ⟨X0.heap.size + 1, 0, none⟩)], cv x, u26, u27, u28, u29, u30, u31, u32, u33, u34, u35, u36, u37, u38, u39, u40, u41, u42, u43, u44, u45, u46, u47, u48, u49], defers := [] })
          ?assign ?body ?done ?stop)
        case abi =>
          rintro pre B B' W W' ⟨rfl, hb, hB⟩ st
          exact ⟨rfl, hb.trans (st.below hB hb.size), fun q hq => by
            rcases st.fresh q hq with h1 | h1
            · exact hB q h1
            · have := hb.size; omega⟩
        case abx =>
          rintro c pre B B' W W' ⟨rfl, x, F4, sv', G', rfl, hx, hC4, hB⟩ st
          refine ⟨rfl, x, F4, sv', G', rfl, hx, hC4.keep st hB, fun q hq => ?_⟩
          rcases st.fresh q hq with h1 | h1
          · exact hB q h1
          · exact ⟨by have := hC4.step.size; omega, fun hm => by have := hC4.lt q hm; omega⟩
        case assign =>
          rintro l' pre B x W K ⟨rfl, hb, hBX⟩ hok hl2 hB hK
          rw [fold_one]
          simp only [List.setIfInBounds_toArray, List.set_cons_succ, List.set_cons_zero]
          refine wpIn_region_doc (by kernel_rfl) (fun F' hF0 => ?_)
          have HF := hid hF0
          clear hF0
          refine doc_val rfl (by first | (go_simp; done) | (go_simp; exact ⟨rfl, rfl⟩) | (go_simp; with_reducible rfl)) ?_
          simp only [Act.put, List.setIfInBounds_toArray, List.set_cons_zero, List.set_cons_succ]
          refine doc_skip rfl (by first | (go_simp; done) | (go_simp; exact ⟨rfl, rfl⟩) | (go_simp; with_reducible rfl)) ?_
          simp only [Act.put, List.setIfInBounds_toArray, List.set_cons_zero, List.set_cons_succ]
          refine doc_end (HF.out _ _ ?_)
          clear HF F'
          simp only [Exit.then]
          refine hK _ _ ?_ ?_
          · exact Kept.of_below (by (repeat' (first | (with_reducible exact Below.refl _ _) | (with_reducible refine Below.ext_mk ?_ ?_ _ _) | (with_reducible refine Below.alloc ?_ ?_ _) | (with_reducible refine Below.drew ?_) | (with_reducible refine Below.setCell ?_ ?_ _) | go_size))) (fun q hq => by
              have := hb.size
              rcases List.mem_append.1 hq with h1 | h1
              · simp only [List.mem_cons] at h1
                rcases h1 with rfl | h1
                · have := b2.lt; omega
                · have := PW.lt q h1; omega
              · exact (hB q h1).2)
          · intro W2 st
            have hs := st.size
            have hsz := hb.size
            simp only [World.size_alloc] at hs
            have hnew : W.heap.size ∉ B := fun hm => by have := (hB _ hm).2; omega
            have hb3 : Below X.heap.size X (W.alloc (.cells #[.int .u64 x.1, .int .u64 x.2] 85)) := hb.trans ((Below.refl _ W).alloc hsz _)
            exact ⟨rfl, hok, hb3.trans (st.below hBX (by simp; omega)), hBX, W.heap.size, hsz, hnew, (Blk.new W 85 [.int .u64 x.1, .int .u64 x.2]).keep (st.block _ (by simp) hnew), rfl⟩
        case body =>
          rintro l' pre B x a' W hl2 hloop hB hTB ⟨rfl, hok, hb, hBX, cb, zcb, ncb, bcb, rfl⟩
          have CW := CX.out.keep (B := []) (B' := []) (step_below hb (fun k hk => by cases hk)) (fun q hq => by cases hq)
          have GN := CW.gne
          have KW := CX.out.lt
          have hsW := hb.size
          have ncK : ∀ k ∈ CvK w.heap.size (w.heap.size + 1) (w.heap.size + 1 + 1) G Ds F1, k < X.heap.size := KW
          have ncF : cb ∉ F1 := fun hm => by have := KW cb (by simp [CvK, hm]); omega
          have ncG : G ≠ some cb := fun e => by have := KW cb (by simp [CvK, e]); omega
          have PR0 := fun W' F' (h : StoIs W' p F' S1) => cprime_live h CW.gs hok a
          have GP := primeV_gs CW.gs a x
          have CP := primeV_cu S1 a hok
          generalize hR4 : primeV S1 a x = R4 at PR0 GP CP
          obtain ⟨S4, x'⟩ := R4
          have HR4 := hid hR4
          clear hR4
          simp only at PR0 GP CP
          have PR := hid PR0
          clear PR0
          have HL5 : heldV most ≤ 4096 := by unfold heldV; omega
          have HL4 : Hid ((l.length : Int) ≤ 4096) := hid (by omega)
          clear HL5
          refine wpIn_block ?_
          apply wpIn_seq_k; intro K1 hK1
          refine wpIn_region_invs (fun L a' w' => ∃ (q : Nat) (v' : Value), a' = cvAct (.pointer (some ⟨p, 0, none⟩)) (.int .i64 a) (.int .i64 most) (.pointer (some ⟨w.heap.size, 0, none⟩)) (.pointer (some ⟨w.heap.size + 1, 0, none⟩)) undef (.pointer (some ⟨w.heap.size + 1 + 1, 0, none⟩)) (.bool false) (.int .i64 rest) (.pointer (some ⟨cb, 0, none⟩)) u10 u11 u12 u13 (.int .i64 rest) (.bool true) (.slice la l.length lc) (.int .i64 (l.length : Int)) (.int .i64 most) (.int .i64 (heldV most)) (.bool false) u21 (.pointer (some ⟨p, 0, none⟩)) (.int .i64 rest) (.func (.func 141) #[] #[.pointer (some ⟨X0.heap.size + 2, 0, none⟩), .pointer (some ⟨X0.heap.size + 1, 0, none⟩)]) (cv x) u26 u27 u28 u29 u30 u31 u32 u33 u34 u35 u36 u37 u38 u39 u40 u41 u42 u43 u44 u45 u46 u47 u48 u49 [] (fun i => L.getD i false) (.slice la l.length lc) (.pointer (some ⟨p, 0, none⟩)) (.int .i64 a) (cv x) (cv x') (.slice (some ⟨q, 0, none⟩) 1 1) v' ∧ CvR W p F1 S4 x' G (l ++ [x']) (w.heap.size + 1 + 1) (fun i => L.getD i false) w' q v') (by kernel_rfl) (by kernel_rfl) (by kernel_rfl) ⟨0, undef, rfl, .inl ⟨rfl, rfl, rfl, rfl, by (repeat' (first | (with_reducible exact Below.refl _ _) | (with_reducible refine Below.ext_mk ?_ ?_ _ _) | (with_reducible refine Below.alloc ?_ ?_ _) | (with_reducible refine Below.drew ?_) | (with_reducible refine Below.setCell ?_ ?_ _) | go_size))⟩⟩ ?_ ?_
          · rintro L a' w' hall ⟨q, v', rfl, hR⟩
            have h7 := hall 7 (by decide)
            obtain ⟨w1, hE, rfl⟩ : ∃ w1, CvE W p F1 S4 G (l ++ [x']) (w.heap.size + 1 + 1) w1 v' ∧ w' = w1.setCell ⟨w.heap.size + 1 + 1, 0, none⟩ v' := by
              rcases hR with ⟨-, -, -, h, -⟩ | ⟨-, -, -, h, -⟩ | ⟨-, -, -, h, -⟩ | ⟨-, -, -, h, -⟩ | ⟨-, -, -, -, h⟩
              · simp only at h; rw [h7] at h; cases h
              · simp only at h; rw [h7] at h; cases h
              · simp only at h; rw [h7] at h; cases h
              · simp only at h; rw [h7] at h; cases h
              · exact h
            obtain ⟨F4, G', C4, hq⟩ := CW.append hE GP CP (by omega) (by omega) (by omega)
            have hBq : ∀ q ∈ B, q < W.heap.size ∧ q ∉ CvK w.heap.size (w.heap.size + 1) (w.heap.size + 1 + 1) G Ds F1 := fun q hq' => ⟨(hB q hq').2, fun hm => by have := KW q hm; have := hBX q hq'; omega⟩
            simp only [Exit.then]
            apply hK1
            refine wpIn_exit ?_
            simp only [Exit.inBlock, postB]
            refine ⟨⟨by have := hE.ex; obtain ⟨F4', G'', -, -, -, -, st⟩ := this; have := st.size; simp; omega, fun q hq' => (hq q (hBq q hq').1 (hBq q hq').2).2⟩, trivial, x, F4, v', some G', by simp, hok, ?_, fun q hq' => ⟨by have := hBX q hq'; omega, (hq q (hBq q hq').1 (hBq q hq').2).1⟩⟩
            rw [HR4.out]
            exact C4
          · refine ⟨fun L a' w' hn hI => ?_, ?_⟩
            · obtain ⟨q, v', rfl, hR⟩ := hI
              have hup := getD_up hn.2.1
              have f7 := not_upC hn.2.2.2 (i := 7) (k := 0) (by decide +kernel) hn.2.1
              have hs := hR.same f7 (CW.bl).lt CW.nl GN.1.2.2.1
              have d0 := (cell_same hs.1 0).trans ((CW.bl).cell 0)
              simp only [List.getElem?_cons_zero, List.getElem?_cons_succ] at d0
              have zz := hs.2
              refine st_val (v := .slice la l.length lc) (W1 := w') rfl (by unfold cvAct; go_simp) ?_
              refine ⟨q, v', ?_, hR.congr (up_other 0 4 (by decide)) (up_other 0 5 (by decide)) (up_other 0 6 (by decide)) (up_other 0 7 (by decide))⟩
              unfold cvAct
              simp only [Act.put, List.setIfInBounds_toArray, List.set_cons_zero, List.set_cons_succ, hup, gy_true, up_other 0 1 (by decide), up_other 0 2 (by decide), up_other 0 3 (by decide), up_other 0 4 (by decide), up_other 0 5 (by decide), up_other 0 6 (by decide), up_other 0 7 (by decide)]
            · refine ⟨fun L a' w' hn hI => ?_, ?_⟩
              · obtain ⟨q, v', rfl, hR⟩ := hI
                have hup := getD_up hn.2.1
                have f7 := not_upC hn.2.2.2 (i := 7) (k := 1) (by decide +kernel) hn.2.1
                have hs := hR.same f7 (CW.bs).lt CW.ns GN.1.1
                have d0 := (cell_same hs.1 0).trans ((CW.bs).cell 0)
                simp only [List.getElem?_cons_zero, List.getElem?_cons_succ] at d0
                have zz := hs.2
                refine st_val (v := .pointer (some ⟨p, 0, none⟩)) (W1 := w') rfl (by unfold cvAct; go_simp) ?_
                refine ⟨q, v', ?_, hR.congr (up_other 1 4 (by decide)) (up_other 1 5 (by decide)) (up_other 1 6 (by decide)) (up_other 1 7 (by decide))⟩
                unfold cvAct
                simp only [Act.put, List.setIfInBounds_toArray, List.set_cons_zero, List.set_cons_succ, hup, gy_true, up_other 1 0 (by decide), up_other 1 2 (by decide), up_other 1 3 (by decide), up_other 1 4 (by decide), up_other 1 5 (by decide), up_other 1 6 (by decide), up_other 1 7 (by decide)]
              · refine ⟨fun L a' w' hn hI => ?_, ?_⟩
                · obtain ⟨q, v', rfl, hR⟩ := hI
                  have hup := getD_up hn.2.1
                  have f7 := not_upC hn.2.2.2 (i := 7) (k := 2) (by decide +kernel) hn.2.1
                  have hs := hR.same f7 (CW.ba).lt CW.na GN.1.2.1
                  have d0 := (cell_same hs.1 0).trans ((CW.ba).cell 0)
                  simp only [List.getElem?_cons_zero, List.getElem?_cons_succ] at d0
                  have zz := hs.2
                  refine st_val (v := .int .i64 a) (W1 := w') rfl (by unfold cvAct; go_simp) ?_
                  refine ⟨q, v', ?_, hR.congr (up_other 2 4 (by decide)) (up_other 2 5 (by decide)) (up_other 2 6 (by decide)) (up_other 2 7 (by decide))⟩
                  unfold cvAct
                  simp only [Act.put, List.setIfInBounds_toArray, List.set_cons_zero, List.set_cons_succ, hup, gy_true, up_other 2 0 (by decide), up_other 2 1 (by decide), up_other 2 3 (by decide), up_other 2 4 (by decide), up_other 2 5 (by decide), up_other 2 6 (by decide), up_other 2 7 (by decide)]
                · refine ⟨fun L a' w' hn hI => ?_, ?_⟩
                  · obtain ⟨q, v', rfl, hR⟩ := hI
                    have hup := getD_up hn.2.1
                    have f7 := not_upC hn.2.2.2 (i := 7) (k := 3) (by decide +kernel) hn.2.1
                    have hs := hR.same f7 (bcb).lt ncF ncG
                    have d0 := (cell_same hs.1 0).trans ((bcb).cell 0)
                    have d1 := (cell_same hs.1 1).trans ((bcb).cell 1)
                    simp only [List.getElem?_cons_zero, List.getElem?_cons_succ] at d0 d1
                    have zz := hs.2
                    refine st_val (v := cv x) (W1 := w') rfl (by unfold cvAct; go_simp) ?_
                    refine ⟨q, v', ?_, hR.congr (up_other 3 4 (by decide)) (up_other 3 5 (by decide)) (up_other 3 6 (by decide)) (up_other 3 7 (by decide))⟩
                    unfold cvAct
                    simp only [Act.put, List.setIfInBounds_toArray, List.set_cons_zero, List.set_cons_succ, hup, gy_true, up_other 3 0 (by decide), up_other 3 1 (by decide), up_other 3 2 (by decide), up_other 3 4 (by decide), up_other 3 5 (by decide), up_other 3 6 (by decide), up_other 3 7 (by decide)]
                  · refine ⟨fun L a' w' hn hI => ?_, ?_⟩
                    · obtain ⟨q, v', rfl, hR⟩ := hI
                      have hup := getD_up hn.2.1
                      have d1 : L.getD 1 false = true := hn.2.2.1 1 (by decide +kernel)
                      have d2 : L.getD 2 false = true := hn.2.2.1 2 (by decide +kernel)
                      have d3 : L.getD 3 false = true := hn.2.2.1 3 (by decide +kernel)
                      have f4 := getD_false_of hn.2.1
                      obtain ⟨g5, g6, g7, hbw⟩ : L.getD 5 false = false ∧ L.getD 6 false = false ∧ L.getD 7 false = false ∧ Below W.heap.size W w' := by
                        rcases hR with ⟨-, h5, h6, h7, hb⟩ | ⟨h4, -⟩ | ⟨h4, -⟩ | ⟨h4, -⟩ | ⟨h4, -⟩
                        · exact ⟨h5, h6, h7, hb⟩
                        all_goals (simp only at h4; rw [f4] at h4; cases h4)
                      refine st_call (f := 61) (args := #[.pointer (some ⟨p, 0, none⟩), .int .i64 a, cv x]) (W1 := w') rfl (by unfold cvAct; simp only [gy_true, d1, d2, d3]; first | (go_simp; done) | (go_simp; exact ⟨rfl, rfl⟩)) ((PR.out w' F1 (CW.st.below hbw)).mono ?_)
                      rintro e w2 ⟨rfl, F4, h4, st4⟩
                      refine ⟨_, rfl, q, v', ?_, .inr (.inl ⟨hup, (up_other 4 5 (by decide)).trans g5, (up_other 4 6 (by decide)).trans g6, (up_other 4 7 (by decide)).trans g7, F4, h4, (StoStep.of_below hbw).trans st4⟩)⟩
                      unfold cvAct
                      simp only [Act.put, List.setIfInBounds_toArray, List.set_cons_zero, List.set_cons_succ, hup, gy_true, up_other 4 0 (by decide), up_other 4 1 (by decide), up_other 4 2 (by decide), up_other 4 3 (by decide), up_other 4 5 (by decide), up_other 4 6 (by decide), up_other 4 7 (by decide)]
                    · refine ⟨fun L a' w' hn hI => ?_, ?_⟩
                      · obtain ⟨q, v', rfl, hR⟩ := hI
                        have hup := getD_up hn.2.1
                        have d4 : L.getD 4 false = true := hn.2.2.1 4 (by decide +kernel)
                        have f5 := getD_false_of hn.2.1
                        obtain ⟨g6, g7, F4, h4, st4⟩ : L.getD 6 false = false ∧ L.getD 7 false = false ∧ ∃ F4, StoIs w' p F4 S4 ∧ StoStep W w' F1 F4 := by
                          rcases hR with ⟨h4, -⟩ | ⟨-, -, h6, h7, h⟩ | ⟨-, h5, -⟩ | ⟨-, h5, -⟩ | ⟨-, h5, -⟩
                          · simp only at h4; rw [d4] at h4; cases h4
                          · exact ⟨h6, h7, h⟩
                          all_goals (simp only at h5; rw [f5] at h5; cases h5)
                        refine st_val (v := .slice (some ⟨w'.heap.size, 0, none⟩) 1 1) (W1 := w'.alloc (.cells #[.int .u64 x'.1, .int .u64 x'.2] 85)) rfl (by unfold cvAct; simp only [gy_true, d4]; go_simp) ?_
                        refine ⟨w'.heap.size, v', ?_, .inr (.inr (.inl ⟨(up_other 5 4 (by decide)).trans d4, hup, (up_other 5 6 (by decide)).trans g6, (up_other 5 7 (by decide)).trans g7, w', F4, h4, st4, rfl, rfl⟩))⟩
                        unfold cvAct
                        simp only [f5, gy_false]
                        simp only [Act.put, List.setIfInBounds_toArray, List.set_cons_zero, List.set_cons_succ, hup, gy_true, gy_false, f5, up_other 5 0 (by decide), up_other 5 1 (by decide), up_other 5 2 (by decide), up_other 5 3 (by decide), up_other 5 4 (by decide), up_other 5 6 (by decide), up_other 5 7 (by decide)]
                      · refine ⟨fun L a' w' hn hI => ?_, ?_⟩
                        · obtain ⟨q, v', rfl, hR⟩ := hI
                          have hup := getD_up hn.2.1
                          have d0 : L.getD 0 false = true := hn.2.2.1 0 (by decide +kernel)
                          have d5 : L.getD 5 false = true := hn.2.2.1 5 (by decide +kernel)
                          have f6 := getD_false_of hn.2.1
                          obtain ⟨g4, g7, w1, F4, h4, st4, rfl, rfl⟩ : L.getD 4 false = true ∧ L.getD 7 false = false ∧ ∃ w1 F4, StoIs w1 p F4 S4 ∧ StoStep W w1 F1 F4 ∧ w' = w1.alloc (.cells #[.int .u64 x'.1, .int .u64 x'.2] 85) ∧ q = w1.heap.size := by
                            rcases hR with ⟨-, h5, -⟩ | ⟨-, h5, -⟩ | ⟨h4, -, -, h7, h⟩ | ⟨-, -, h6, -⟩ | ⟨-, -, h6, -⟩
                            · simp only at h5; rw [d5] at h5; cases h5
                            · simp only at h5; rw [d5] at h5; cases h5
                            · exact ⟨h4, h7, h⟩
                            all_goals (simp only at h6; rw [f6] at h6; cases h6)
                          have row1 : RowIs w1 (.slice la l.length lc) G 85 2 l.length (cus l) := CW.row.keep (fun g hg => st4.block g (CW.row.lt g hg) (CW.ng g hg))
                          obtain ⟨v2, G', w2, r1, r2, r3, r4, ro, rt, rp, rz⟩ := cu_one row1 (by have := HL4.out; omega) x'
                          have zw := st4.size
                          refine st_val (v := v2) (W1 := w2) rfl (by unfold cvAct; simp only [gy_true, d0, d5]; exact run_append_op _ _ _ _ _ _ _ _ _ r1) ?_
                          refine ⟨w1.heap.size, v2, ?_, .inr (.inr (.inr (.inl ⟨(up_other 6 4 (by decide)).trans g4, (up_other 6 5 (by decide)).trans d5, hup, (up_other 6 7 (by decide)).trans g7, ⟨F4, G', ?_, r2, ?_, ?_, ?_⟩, ?_⟩)))⟩
                          · unfold cvAct
                            simp only [f6, gy_false]
                            simp only [Act.put, List.setIfInBounds_toArray, List.set_cons_zero, List.set_cons_succ, hup, gy_true, gy_false, f6, up_other 6 0 (by decide), up_other 6 1 (by decide), up_other 6 2 (by decide), up_other 6 3 (by decide), up_other 6 4 (by decide), up_other 6 5 (by decide), up_other 6 7 (by decide)]
                          · exact h4.keep (fun k hk => r4 k (h4.lt k hk) (fun e => st4.keeps (CW.row.lt k e) (CW.ng k e) hk))
                          · rcases r3 with e | e
                            · exact .inl e
                            · exact .inr ⟨by omega, e.2⟩
                          · rcases r3 with e | e
                            · exact st4.keeps (CW.row.lt _ e) (CW.ng _ e)
                            · exact fun hm => by have := h4.lt _ hm; omega
                          · refine ⟨ro.trans st4.os, rt.trans st4.tape, rp.trans st4.output, by omega, fun k h1 h2 => ?_, fun k hk => ?_⟩
                            · exact (r4 k (by omega) (fun e => h2 (by rw [e]; simp))).trans (st4.block k h1 (fun hm => h2 (by simp [hm])))
                            · rcases List.mem_append.1 hk with hk | hk
                              · rcases st4.fresh k hk with h5 | h5
                                · exact .inl (by simp [h5])
                                · exact .inr ⟨h5.1, by omega⟩
                              · simp at hk
                                subst hk
                                rcases r3 with e | e
                                · exact .inl (by rw [e]; simp)
                                · exact .inr ⟨by omega, e.2⟩
                          · obtain ⟨a1, c1, h5, -⟩ := r2.form
                            exact ⟨a1, _, c1, h5⟩
                        · refine ⟨fun L a' w' hn hI => ?_, ?_⟩
                          · obtain ⟨q, v', rfl, hR⟩ := hI
                            have hup := getD_up hn.2.1
                            have d6 : L.getD 6 false = true := hn.2.2.1 6 (by decide +kernel)
                            have f7 := getD_false_of hn.2.1
                            have hs := hR.same f7 CW.bl.lt CW.nl GN.1.2.2.1
                            have d0 := (cell_same hs.1 0).trans (CW.bl.cell 0)
                            have g0 := (frozen_same hs.1 0).trans (CW.bl.free 0)
                            simp only [List.getElem?_cons_zero] at d0
                            have zz := hs.2
                            obtain ⟨g4, g5, hE⟩ : L.getD 4 false = true ∧ L.getD 5 false = true ∧ CvE W p F1 S4 G (l ++ [x']) (w.heap.size + 1 + 1) w' v' := by
                              rcases hR with ⟨-, -, h6, -⟩ | ⟨-, -, h6, -⟩ | ⟨-, -, h6, -⟩ | ⟨h4, h5, -, -, h⟩ | ⟨-, -, -, h7, -⟩
                              · simp only at h6; rw [d6] at h6; cases h6
                              · simp only at h6; rw [d6] at h6; cases h6
                              · simp only at h6; rw [d6] at h6; cases h6
                              · exact ⟨h4, h5, h⟩
                              · simp only at h7; rw [f7] at h7; cases h7
                            obtain ⟨a1, n1, c1, rfl⟩ := hE.form
                            refine st_skip (W1 := w'.setCell ⟨w.heap.size + 1 + 1, 0, none⟩ (.slice a1 n1 c1)) rfl (by unfold cvAct; simp only [gy_true, d6]; go_simp) ?_
                            refine ⟨q, _, ?_, .inr (.inr (.inr (.inr ⟨(up_other 7 4 (by decide)).trans g4, (up_other 7 5 (by decide)).trans g5, (up_other 7 6 (by decide)).trans d6, hup, w', hE, rfl⟩)))⟩
                            unfold cvAct
                            simp only [Act.put, up_other 7 0 (by decide), up_other 7 1 (by decide), up_other 7 2 (by decide), up_other 7 3 (by decide), up_other 7 4 (by decide), up_other 7 5 (by decide), up_other 7 6 (by decide)]
                          · trivial
        case done =>
          rintro D B xs W hD hDB rfl ⟨e, -, -⟩ hK
          exact absurd e NE
        case stop =>
          rintro D B c pre W hD hDB hpre ⟨rfl, x, F4, sv', G', rfl, hx, C4, hBK⟩ hK
          have ehd : (pathsL S1 rest).headD (0, 0) = x := by
            obtain ⟨t, ht⟩ := hpre
            rw [← ht]; rfl
          have GP := primeV_gs CX.out.gs a x
          have CP := primeV_cu S1 a hx
          have eN : coverN a (heldV most) (k + 1) S1 rest l = coverN a (heldV most) k
              (andV (notV (ofV (primeV S1 a x).1 (primeV S1 a x).2).1 (ofV (primeV S1 a x).1 (primeV S1 a x).2).2).1 rest (notV (ofV (primeV S1 a x).1 (primeV S1 a x).2).1 (ofV (primeV S1 a x).1 (primeV S1 a x).2).2).2).1
              (andV (notV (ofV (primeV S1 a x).1 (primeV S1 a x).2).1 (ofV (primeV S1 a x).1 (primeV S1 a x).2).2).1 rest (notV (ofV (primeV S1 a x).1 (primeV S1 a x).2).1 (ofV (primeV S1 a x).1 (primeV S1 a x).2).2).2).2
              (l ++ [(primeV S1 a x).2]) := by
            rw [coverN, if_neg HL.out.1, if_neg HL.out.2, ehd]
          rw [HN.out] at eN
          have C5 := C4.mark hK (hBK D hDB).1 (hBK D hDB).2
          generalize primeV S1 a x = R4 at *
          obtain ⟨S4, x'⟩ := R4
          simp only at GP CP C4 C5 eN
          have O5 := fun W' F' (h : StoIs W' p F' S4) => cof_live h GP CP
          have G5 := ofV_gs GP x'
          unfold Tells at O5
          generalize ofV S4 x' = R5 at *
          obtain ⟨S5, r5⟩ := R5
          simp only at O5 G5 eN
          have N6 := fun W' F' (h : StoIs W' p F' S5) => hNo.out W' F' S5 h G5 r5
          have G6 := notV_gs G5 r5
          generalize notV S5 r5 = R6 at *
          obtain ⟨S6, r6⟩ := R6
          simp only at N6 G6 eN
          have A7 := fun W' F' (h : StoIs W' p F' S6) => hAn.out W' F' S6 h G6 rest r6
          have G7 := andV_gs G6 rest r6
          have H7 := andV_has G6 rest r6
          generalize andV S6 rest r6 = R7 at *
          obtain ⟨S7, r7⟩ := R7
          simp only at A7 G7 H7 eN
          have EN := hid eN
          clear eN ehd NE C4 hBK hK hpre CX PW b1 b2 b3 C
          obtain ⟨la', lc', rfl, hlm'⟩ := C5.row.form
          obtain ⟨g, cap, e1, rfl, k0, kf0⟩ := C5.row.at (i := l.length) (j := 0) (by simp) (by omega)
          obtain ⟨g', cap', e1', e2', k1, kf1⟩ := C5.row.at (i := l.length) (j := 1) (by simp) (by omega)
          cases e2'
          clear e1'
          obtain ⟨t0, t1⟩ := cus_at (l ++ [x']) l.length x' (by simp)
          rw [Nat.add_zero, t0] at k0
          rw [t1] at k1
          have ela : la' = some ⟨g, 0, none⟩ := by injection e1
          subst ela
          have LC := hid C5
          obtain ⟨n, hn⟩ : ∃ n, n = (l ++ [x']).length := ⟨_, rfl⟩
          have hn2 : n = l.length + 1 := by rw [hn]; simp
          have blW := C5.bl
          have bsW := C5.bs
          rw [← hn] at blW
          have wsub : IntKind.i64.wrap ((n : Int) - 1) = (l.length : Int) := by rw [hn2]; exact (IntWalk.i64_in _ (by unfold maxLen at hlm; omega)).trans (by omega)
          have hlt1 : (l.length : Int) < (n : Int) := by omega
          have hlt0 : (0 : Int) ≤ (l.length : Int) := by omega
          have HN2 := hid (And.intro hn hn2)
          have zg := C5.row.lt g rfl
          have ngF := C5.ng g rfl
          have nsF := C5.ns
          have nlF := C5.nl
          have stI := C5.st
          clear hn hn2 e1 t0 t1 C5 kf0 kf1 hlm
          refine wpIn_wide.2 ?_
          go_upto_region 8 with (fail)
          refine wp_region_stage [8, 9] (StgW W p F4 S4 S5 S6) (by kernel_rfl) (by kernel_rfl) (by kernel_rfl) (by kernel_rfl) ⟨F4, stI.below (by (repeat' (first | (with_reducible exact Below.refl _ _) | (with_reducible refine Below.ext_mk ?_ ?_ _ _) | (with_reducible refine Below.alloc ?_ ?_ _) | (with_reducible refine Below.drew ?_) | (with_reducible refine Below.setCell ?_ ?_ _) | go_size))), StoStep.of_below (by (repeat' (first | (with_reducible exact Below.refl _ _) | (with_reducible refine Below.ext_mk ?_ ?_ _ _) | (with_reducible refine Below.alloc ?_ ?_ _) | (with_reducible refine Below.drew ?_) | (with_reducible refine Below.setCell ?_ ?_ _) | go_size)))⟩ (fun F' hF => ?_)
          have HF := hid hF
          clear hF
          refine sg_read (v := .pointer (some ⟨p, 0, none⟩)) _ _ rfl rfl rfl rfl (fun i W' _ _ hR => ?_) ?_
          · have q := (hR.blk bsW nsF).cell 0
            have zq := (hR.blk bsW nsF).lt
            simp only [List.getElem?_cons_zero, List.getElem?_cons_succ] at q
            clear hR
            go_simp
          simp only [Act.put, List.setIfInBounds_toArray, List.set_cons_zero, List.set_cons_succ]
          refine sg_read (v := .pointer (some ⟨p, 0, none⟩)) _ _ rfl rfl rfl rfl (fun i W' _ _ hR => ?_) ?_
          · have q := (hR.blk bsW nsF).cell 0
            have zq := (hR.blk bsW nsF).lt
            simp only [List.getElem?_cons_zero, List.getElem?_cons_succ] at q
            clear hR
            go_simp
          simp only [Act.put, List.setIfInBounds_toArray, List.set_cons_zero, List.set_cons_succ]
          refine sg_read (v := .slice (some ⟨g, 0, none⟩) n lc') _ _ rfl rfl rfl rfl (fun i W' _ _ hR => ?_) ?_
          · have q := (hR.blk blW nlF).cell 0
            have zq := (hR.blk blW nlF).lt
            simp only [List.getElem?_cons_zero, List.getElem?_cons_succ] at q
            clear hR
            go_simp
          simp only [Act.put, List.setIfInBounds_toArray, List.set_cons_zero, List.set_cons_succ]
          refine sg_read (v := .slice (some ⟨g, 0, none⟩) n lc') _ _ rfl rfl rfl rfl (fun i W' _ _ hR => ?_) ?_
          · have q := (hR.blk blW nlF).cell 0
            have zq := (hR.blk blW nlF).lt
            simp only [List.getElem?_cons_zero, List.getElem?_cons_succ] at q
            clear hR
            go_simp
          simp only [Act.put, List.setIfInBounds_toArray, List.set_cons_zero, List.set_cons_succ]
          (apply sg_any; (focus rfl); (focus rfl); (focus (intro _; go_simp; with_reducible rfl)); simp only [Act.put, List.setIfInBounds_toArray, List.set_cons_zero, List.set_cons_succ])
          (apply sg_any; (focus rfl); (focus rfl); (focus (intro _; go_simp; with_reducible rfl)); simp only [Act.put, List.setIfInBounds_toArray, List.set_cons_zero, List.set_cons_succ])
          (apply sg_any; (focus rfl); (focus rfl); (focus (intro _; go_simp; with_reducible rfl)); simp only [Act.put, List.setIfInBounds_toArray, List.set_cons_zero, List.set_cons_succ])
          refine sg_read (v := cv x') _ _ rfl rfl rfl rfl (fun i W' _ _ hR => ?_) ?_
          · have hs := hR.same zg ngF
            have q0 := (cell_same hs.1 (l.length * 2)).trans k0
            have q1 := (cell_same hs.1 (l.length * 2 + 1)).trans k1
            have zq := hs.2
            clear hR
            go_simp
          simp only [Act.put, List.setIfInBounds_toArray, List.set_cons_zero, List.set_cons_succ]
          refine sg_turn_call 0 (v := .int .i64 r5) (f := 59) (args := #[.pointer (some ⟨p, 0, none⟩), cv x']) rfl rfl (fun _ => by first | (go_simp; done) | (go_simp; exact ⟨rfl, rfl⟩)) (fun W' hR => by
            obtain ⟨Fi, hS, st⟩ := hR
            refine (O5 W' Fi hS).mono ?_
            rintro e w' ⟨rfl, F2, t1, t2⟩
            exact ⟨rfl, F2, t1, st.trans t2⟩) ?_
          simp only [Act.put, List.setIfInBounds_toArray, List.set_cons_zero, List.set_cons_succ]
          refine sg_turn_call 1 (v := .int .i64 r6) (f := 26) (args := #[.pointer (some ⟨p, 0, none⟩), .int .i64 r5]) rfl rfl (fun _ => by first | (go_simp; done) | (go_simp; exact ⟨rfl, rfl⟩)) (fun W' hR => by
            obtain ⟨Fi, hS, st⟩ := hR
            refine (N6 W' Fi hS).mono ?_
            rintro e w' ⟨rfl, F2, t1, t2⟩
            exact ⟨rfl, F2, t1, st.trans t2⟩) ?_
          simp only [Act.put, List.setIfInBounds_toArray, List.set_cons_zero, List.set_cons_succ]
          (apply sg_any; (focus rfl); (focus rfl); (focus (intro _; go_simp; with_reducible rfl)); simp only [Act.put, List.setIfInBounds_toArray, List.set_cons_zero, List.set_cons_succ])
          refine sg_end (HF.out _ (fun w2 hR => ?_))
          obtain ⟨F6, hS6, st6⟩ := hR
          have C6 := LC.out.turn hS6 G6 st6
          clear HF F' k0 k1 blW bsW
          have s6 := C6.bs.cell 0
          simp only [List.getElem?_cons_zero] at s6
          have zs6 := C6.bs.lt
          have A8 := A7 _ _ hS6
          go_wp2_with (go_at_call 27; refine A8.mono ?_; rintro e w7 ⟨rfl, F7, hS7, st7⟩; have C7 := C6.turn hS7 G7 st7; have c7 := C7.bl.cell 0; simp only [List.getElem?_cons_zero] at c7)
          refine ⟨⟨_, _, _, _, _, _, _, _, _, _, _, _, _, _, _, _, _, _, _, _, _, _, _, _, _, _, _, _, _, _, _, _, _, _, _, _, _, _, _, _, _, r7, S7, F7, l ++ [x'], _, some g, D :: Ds, k, rfl, C7, H7, ?_, hkk, EN.out.symm⟩, ?_⟩
          · simp only [List.length_append, List.length_cons, List.length_nil]; omega
          · show covM _ _ w7 < covM _ _ wr
            rw [covM_is c7, covM_is c0]
            simp only [List.length_append, List.length_cons, List.length_nil]
            omega
end Go.Proofs.Ytboekafmplomhaa
