/-
  Package cube: whether a cube is within a diagram (Prime's inner function) over a live store.
-/
import Derived.Test.YtboekafmplomhaaZCuD
set_option linter.unusedVariables false
set_option linter.unusedSimpArgs false
namespace Go.Proofs.Ytboekafmplomhaa
open Go.RowKit

/-- Three stores in turn. -/
def stg (S S1 S2 : Sto) : Nat → Sto
  | 0 => S
  | 1 => S1
  | _ => S2
/-- The worlds of a region that turns a store. -/
def StgW (V : World) (p : Nat) (F : List Nat) (S S1 S2 : Sto) (i : Nat) (W : World) : Prop := ∃ Fi, StoIs W p Fi (stg S S1 S2 i) ∧ StoStep V W F Fi
theorem StgW.same {V W : World} {p i : Nat} {F : List Nat} {S S1 S2 : Sto} (h : StgW V p F S S1 S2 i W) {k : Nat} (hk : k < V.heap.size) (hn : k ∉ F) : W.heap[k]? = V.heap[k]? ∧ k < W.heap.size := by
  obtain ⟨Fi, -, st⟩ := h
  exact ⟨st.block k hk hn, Nat.lt_of_lt_of_le hk st.size⟩
theorem StgW.blk {V W : World} {p i : Nat} {F : List Nat} {S S1 S2 : Sto} (h : StgW V p F S S1 S2 i W) {g : Nat} {e : TypeId} {xs : List Value} (b : Blk V g e xs) (hn : g ∉ F) : Blk W g e xs :=
  b.keep (h.same b.lt hn).1

set_option maxHeartbeats 2000000 in
theorem prime1_live {w : World} {p : Nat} {F : List Nat} {S : Sto} (h : StoIs w p F S) (hG : Gs S) {c : Cu} (hc : CuOk c) {sb ab : Nat} {a : Int} (bs : Blk w sb 23 [.pointer (some ⟨p, 0, none⟩)]) (ba : Blk w ab 3 [.int .i64 a]) (ns : sb ∉ F) (na : ab ∉ F) :
    Calls Try.prog 117 #[cv c, .pointer (some ⟨sb, 0, none⟩), .pointer (some ⟨ab, 0, none⟩)] w (fun e w' => e = .returned (.bool (withinV S a c).2) ∧ Turned w p F (withinV S a c).1 w') := by
  have G1 := ofV_gs hG c
  have hOf := fun W F (h : StoIs W p F S) => cof_live h hG hc
  have hIm := fun W F (h : StoIs W p F (ofV S c).1) => implies_live h G1.1 G1.2 (ofV S c).2 a
  unfold Tells at hOf
  unfold withinV
  generalize ofV S c = R1 at *
  obtain ⟨S1, r1⟩ := R1
  generalize impliesV S1 r1 a = R2 at *
  obtain ⟨S2, r2⟩ := R2
  simp only at hOf hIm ⊢
  go_enter Try.func117, Try.ntmps117
  go_upto_region 1 with (fail)
  refine wp_gen (fun V hV => ?_)
  have hbV : Below w.heap.size w V := by rw [hV]; (repeat' (first | (with_reducible exact Below.refl _ _) | (with_reducible refine Below.ext_mk ?_ ?_ _ _) | (with_reducible refine Below.alloc ?_ ?_ _) | (with_reducible refine Below.drew ?_) | (with_reducible refine Below.setCell ?_ ?_ _) | go_size))
  have bz : Blk V w.heap.size 85 [.int .u64 c.1, .int .u64 c.2] := by rw [hV]; exact Blk.new w 85 [.int .u64 c.1, .int .u64 c.2]
  clear hV
  have hV := h.below hbV
  have zF : w.heap.size ∉ F := fun hm => Nat.lt_irrefl _ (h.lt _ hm)
  have stV : StoStep w V F F := StoStep.of_below hbV
  have bs' := bs.below hbV
  have ba' := ba.below hbV
  clear bs ba h
  refine wp_region_stage [3, 5] (StgW V p F S S1 S2) (by kernel_rfl) (by kernel_rfl) (by kernel_rfl) (by kernel_rfl) ⟨F, hV.below (by (repeat' (first | (with_reducible exact Below.refl _ _) | (with_reducible refine Below.ext_mk ?_ ?_ _ _) | (with_reducible refine Below.alloc ?_ ?_ _) | (with_reducible refine Below.drew ?_) | (with_reducible refine Below.setCell ?_ ?_ _) | go_size))), StoStep.of_below (by (repeat' (first | (with_reducible exact Below.refl _ _) | (with_reducible refine Below.ext_mk ?_ ?_ _ _) | (with_reducible refine Below.alloc ?_ ?_ _) | (with_reducible refine Below.drew ?_) | (with_reducible refine Below.setCell ?_ ?_ _) | go_size)))⟩ (fun F' hF => ?_)
  have HF := hid hF
  clear hF
  refine sg_read (v := .pointer (some ⟨p, 0, none⟩)) _ _ rfl rfl rfl rfl (fun i W _ _ hR => ?_) ?_
  · have q := (hR.blk bs' ns).cell 0
    have q1 := (hR.blk bs' ns).cell 1
    have zq := (hR.blk bs' ns).lt
    simp only [List.getElem?_cons_zero, List.getElem?_cons_succ] at q q1
    clear hR
    go_simp
    try rfl
  simp only [Act.put, List.setIfInBounds_toArray, List.set_cons_zero, List.set_cons_succ]
  refine sg_read (v := .pointer (some ⟨p, 0, none⟩)) _ _ rfl rfl rfl rfl (fun i W _ _ hR => ?_) ?_
  · have q := (hR.blk bs' ns).cell 0
    have q1 := (hR.blk bs' ns).cell 1
    have zq := (hR.blk bs' ns).lt
    simp only [List.getElem?_cons_zero, List.getElem?_cons_succ] at q q1
    clear hR
    go_simp
    try rfl
  simp only [Act.put, List.setIfInBounds_toArray, List.set_cons_zero, List.set_cons_succ]
  refine sg_read (v := cv c) _ _ rfl rfl rfl rfl (fun i W _ _ hR => ?_) ?_
  · have q := (hR.blk bz zF).cell 0
    have q1 := (hR.blk bz zF).cell 1
    have zq := (hR.blk bz zF).lt
    simp only [List.getElem?_cons_zero, List.getElem?_cons_succ] at q q1
    clear hR
    go_simp
    try rfl
  simp only [Act.put, List.setIfInBounds_toArray, List.set_cons_zero, List.set_cons_succ]
  refine sg_turn_call 0 (v := .int .i64 r1) (f := 59) (args := #[.pointer (some ⟨p, 0, none⟩), cv c]) rfl rfl (fun _ => by first | (go_simp; done) | (go_simp; exact ⟨rfl, rfl⟩)) (fun W hR => by
    obtain ⟨Fi, hS, st⟩ := hR
    refine (hOf W Fi hS).mono ?_
    rintro e w' ⟨rfl, F2, t1, t2⟩
    exact ⟨rfl, F2, t1, st.trans t2⟩) ?_
  simp only [Act.put, List.setIfInBounds_toArray, List.set_cons_zero, List.set_cons_succ]
  refine sg_read (v := .int .i64 a) _ _ rfl rfl rfl rfl (fun i W _ _ hR => ?_) ?_
  · have q := (hR.blk ba' na).cell 0
    have q1 := (hR.blk ba' na).cell 1
    have zq := (hR.blk ba' na).lt
    simp only [List.getElem?_cons_zero, List.getElem?_cons_succ] at q q1
    clear hR
    go_simp
    try rfl
  simp only [Act.put, List.setIfInBounds_toArray, List.set_cons_zero, List.set_cons_succ]
  refine sg_turn_call 1 (v := .bool r2) (f := 42) (args := #[.pointer (some ⟨p, 0, none⟩), .int .i64 r1, .int .i64 a]) rfl rfl (fun _ => by first | (go_simp; done) | (go_simp; exact ⟨rfl, rfl⟩)) (fun W hR => by
    obtain ⟨Fi, hS, st⟩ := hR
    refine (hIm W Fi hS).mono ?_
    rintro e w' ⟨rfl, F2, t1, t2⟩
    exact ⟨rfl, F2, t1, st.trans t2⟩) ?_
  simp only [Act.put, List.setIfInBounds_toArray, List.set_cons_zero, List.set_cons_succ]
  (apply sg_any; (focus rfl); (focus rfl); (focus (intro _; go_simp; with_reducible rfl)); simp only [Act.put, List.setIfInBounds_toArray, List.set_cons_zero, List.set_cons_succ])
  refine sg_end (HF.out _ (fun w2 hR => ?_))
  obtain ⟨F2, hS2, st2⟩ := hR
  go_wp2
  go_returns
  exact ⟨rfl, F2, hS2, stV.trans st2⟩
end Go.Proofs.Ytboekafmplomhaa
set_option linter.unusedVariables false
set_option linter.unusedSimpArgs false
namespace Go.Proofs.Ytboekafmplomhaa
open Go.RowKit

theorem andNot_pow {n v : Nat} (hn : n < 18446744073709551616) (hv : v < 64) : bits .andNot .u64 (n : Int) (2 ^ v) = ((clrB n v : Nat) : Int) := by
  have := u64_andNot_nat n (2 ^ v) hn (pow_lt64 hv)
  simpa [clrB] using this

theorem body_gen {P : Program} {fn : Func} {R : Ending → World → Prop} {e : Exit} {a : Act} {w : World} (h : ∀ Z, Z = w → bodyPost P fn R e a Z) : bodyPost P fn R e a w := h w rfl

set_option maxHeartbeats 4000000 in
theorem cprime_live {w : World} {p : Nat} {F : List Nat} {S : Sto} (h : StoIs w p F S) (hG : Gs S) {c : Cu} (hc : CuOk c) (a : Int) :
    Calls Try.prog 61 #[.pointer (some ⟨p, 0, none⟩), .int .i64 a, cv c] w (fun e w' => e = .returned (cv (primeV S a c).2) ∧ Turned w p F (primeV S a c).1 w') := by
  have hmf : ∀ (fn : Fn) (first cap : Array Value) (w : World), (Instr.makeFunc fn first cap).run Try.prog w = .ok (.func fn first cap) w := fun _ _ _ _ => rfl
  go_enter Try.func61, Try.ntmps61
  go_upto_region 2 with (fail)
  refine wp_gen (fun V hV => ?_)
  have hbV : Below w.heap.size w V := by rw [hV]; (repeat' (first | (with_reducible exact Below.refl _ _) | (with_reducible refine Below.ext_mk ?_ ?_ _ _) | (with_reducible refine Below.alloc ?_ ?_ _) | (with_reducible refine Below.drew ?_) | (with_reducible refine Below.setCell ?_ ?_ _) | go_size))
  have bs : Blk V w.heap.size 23 [.pointer (some ⟨p, 0, none⟩)] := by
    rw [hV]; exact (Blk.new w 23 [.pointer (some ⟨p, 0, none⟩)]).below (by (repeat' (first | (with_reducible exact Below.refl _ _) | (with_reducible refine Below.ext_mk ?_ ?_ _ _) | (with_reducible refine Below.alloc ?_ ?_ _) | (with_reducible refine Below.drew ?_) | (with_reducible refine Below.setCell ?_ ?_ _) | go_size)))
  have ba : Blk V (w.heap.size + 1) 3 [.int .i64 a] := by
    rw [hV]
    have := Blk.new (w.alloc (.cells #[.pointer (some ⟨p, 0, none⟩)] 23)) 3 [.int .i64 a]
    rw [World.size_alloc] at this
    exact this.below (by (repeat' (first | (with_reducible exact Below.refl _ _) | (with_reducible refine Below.ext_mk ?_ ?_ _ _) | (with_reducible refine Below.alloc ?_ ?_ _) | (with_reducible refine Below.drew ?_) | (with_reducible refine Below.setCell ?_ ?_ _) | go_size)))
  have bc : Blk V (w.heap.size + 1 + 1) 85 [.int .u64 c.1, .int .u64 c.2] := by
    rw [hV]
    have := Blk.new ((w.alloc (.cells #[.pointer (some ⟨p, 0, none⟩)] 23)).alloc (.cells #[.int .i64 a] 3)) 85 [.int .u64 c.1, .int .u64 c.2]
    rw [World.size_alloc, World.size_alloc] at this
    exact this.below (by (repeat' (first | (with_reducible exact Below.refl _ _) | (with_reducible refine Below.ext_mk ?_ ?_ _ _) | (with_reducible refine Below.alloc ?_ ?_ _) | (with_reducible refine Below.drew ?_) | (with_reducible refine Below.setCell ?_ ?_ _) | go_size)))
  have br : Blk V (w.heap.size + 1 + 1 + 1) 85 [.int .u64 0, .int .u64 0] := by
    rw [hV]
    have := Blk.new (((w.alloc (.cells #[.pointer (some ⟨p, 0, none⟩)] 23)).alloc (.cells #[.int .i64 a] 3)).alloc (.cells #[.int .u64 c.1, .int .u64 c.2] 85)) 85 [.int .u64 0, .int .u64 0]
    rw [World.size_alloc, World.size_alloc, World.size_alloc] at this
    exact this
  clear hV
  have hV := h.below hbV
  have nF : ∀ k, w.heap.size ≤ k → k ∉ F := fun k hk hm => by have := h.lt _ hm; omega
  have stV : StoStep w V F F := StoStep.of_below hbV
  clear h
  have c0 := bc.cell 0
  have c1 := bc.cell 1
  simp only [List.getElem?_cons_zero, List.getElem?_cons_succ] at c0 c1
  have zc := bc.lt
  have r0 := br.cell 0
  have r1 := br.cell 1
  have fr0 := br.free 0
  have fr1 := br.free 1
  simp only [List.getElem?_cons_zero, List.getElem?_cons_succ] at r0 r1
  have zr := br.lt
  by_cases hm : mayC c = true
  · have M := cmay_any hc
    rw [hm] at M
    have P1 := fun W (hb : Below V.heap.size V W) => prime1_live (hV.below hb) hG hc (bs.below hb) (ba.below hb) (nF _ (by omega)) (nF _ (by omega))
    have eP : primeV S a c = if (withinV S a c).2 then (if (primeN a 64 (withinV S a c).1 c).1.full then ((primeN a 64 (withinV S a c).1 c).1, c) else primeN a 64 (withinV S a c).1 c) else ((withinV S a c).1, c) := by
      rw [primeV, if_pos hm]
    have G1 := withinV_gs hG a c
    generalize withinV S a c = R1 at *
    obtain ⟨S1, r1v⟩ := R1
    simp only at P1 eP G1
    have EP := hid eP
    clear eP hm
    refine wp_region_doc (fun F' hF => ?_)
    have HF := hid hF
    clear hF
    iterate 1 (refine doc_val rfl (by first | (go_simp; done) | (go_simp; exact ⟨rfl, rfl⟩) | (go_simp; with_reducible rfl)) ?_; simp only [Act.put, List.setIfInBounds_toArray, List.set_cons_zero, List.set_cons_succ])
    refine doc_call rfl (by first | (go_simp; done) | (go_simp; exact ⟨rfl, rfl⟩) | (go_simp; with_reducible rfl)) ((M _).mono ?_)
    rintro e w' ⟨rfl, m1, d1, rfl⟩
    refine ⟨_, rfl, ?_⟩
    simp only [Act.put, List.setIfInBounds_toArray, List.set_cons_zero, List.set_cons_succ]
    iterate 4 (refine doc_val rfl (by first | (go_simp; done) | (go_simp; exact ⟨rfl, rfl⟩) | (go_simp; with_reducible rfl)) ?_; simp only [Act.put, List.setIfInBounds_toArray, List.set_cons_zero, List.set_cons_succ])
    refine doc_call rfl (by first | (go_simp; done) | (go_simp; exact ⟨rfl, rfl⟩) | (go_simp; with_reducible rfl)) ((P1 _ (by (repeat' (first | (with_reducible exact Below.refl _ _) | (with_reducible refine Below.ext_mk ?_ ?_ _ _) | (with_reducible refine Below.alloc ?_ ?_ _) | (with_reducible refine Below.drew ?_) | (with_reducible refine Below.setCell ?_ ?_ _) | go_size)))).mono ?_)
    rintro e w2 ⟨rfl, F2, hS2, st2⟩
    refine ⟨_, rfl, ?_⟩
    simp only [Act.put, List.setIfInBounds_toArray, List.set_cons_zero, List.set_cons_succ]
    iterate 2 (refine doc_val rfl (by first | (go_simp; done) | (go_simp; exact ⟨rfl, rfl⟩) | (go_simp; with_reducible rfl)) ?_; simp only [Act.put, List.setIfInBounds_toArray, List.set_cons_zero, List.set_cons_succ])
    refine doc_end (HF.out _ _ ?_)
    clear HF F'
    have KB : ∀ k, w.heap.size ≤ k → k < V.heap.size → w2.heap[k]? = V.heap[k]? ∧ k ∉ F2 := fun k h1 h2 =>
      ⟨(st2.block k (by simp; omega) (nF k h1)).trans (World.heap_ext _ _ _ h2), st2.keeps (by simp; omega) (nF k h1)⟩
    have bs2 := bs.keep (KB _ (by omega) bs.lt).1
    have ba2 := ba.keep (KB _ (by omega) ba.lt).1
    have bc2 := bc.keep (KB _ (by omega) bc.lt).1
    have br2 := br.keep (KB _ (by omega) br.lt).1
    have ns2 := (KB _ (by omega) bs.lt).2
    have na2 := (KB _ (by omega) ba.lt).2
    have nc2 := (KB _ (by omega) bc.lt).2
    have nr2 := (KB _ (by omega) br.lt).2
    have st2' : StoStep w w2 F F2 := stV.trans ((StoStep.of_below (by (repeat' (first | (with_reducible exact Below.refl _ _) | (with_reducible refine Below.ext_mk ?_ ?_ _ _) | (with_reducible refine Below.alloc ?_ ?_ _) | (with_reducible refine Below.drew ?_) | (with_reducible refine Below.setCell ?_ ?_ _) | go_size)))).trans st2)
    have G2 : Gs S1 := G1
    clear KB P1 M r0 r1 fr0 fr1 zr c0 c1 zc bs ba bc br hV stV st2
    have c0 := bc2.cell 0
    have c1 := bc2.cell 1
    have r0 := br2.cell 0
    have r1 := br2.cell 1
    have fr0 := br2.free 0
    have fr1 := br2.free 1
    simp only [List.getElem?_cons_zero, List.getElem?_cons_succ] at r0 r1 c0 c1
    have zc := bc2.lt
    have zr := br2.lt
    cases r1v
    · go_wp2
      refine body_gen (fun Z hZ => ?_)
      have bZ : Blk Z (w.heap.size + 1 + 1 + 1) 85 [.int .u64 c.1, .int .u64 c.2] := by rw [hZ]; exact ((br2.set_ 0 _).set_ 1 _)
      have u0 := bZ.cell 0
      have u1 := bZ.cell 1
      simp only [List.getElem?_cons_zero, List.getElem?_cons_succ] at u0 u1
      have uz := bZ.lt
      have hSZ : StoIs Z p F2 S1 := by rw [hZ]; exact ((hS2.poke (b := w.heap.size + 1 + 1 + 1) nr2 0 _).poke (b := w.heap.size + 1 + 1 + 1) nr2 1 _)
      have stZ : StoStep w Z F F2 := by rw [hZ]; exact ((st2'.poke (b := w.heap.size + 1 + 1 + 1) (by omega) 0 _).poke (b := w.heap.size + 1 + 1 + 1) (by omega) 1 _)
      clear hZ
      refine bodyPost_ret (v := cv c) (by simp [results, Try.results61, go_sem, u0, u1]) rfl ?_
      rw [EP.out]
      exact ⟨rfl, F2, hSZ, stZ⟩
    · have EP2 : Hid (primeV S a c = if (primeN a 64 S1 c).1.full then ((primeN a 64 S1 c).1, c) else primeN a 64 S1 c) := hid EP.out
      clear EP
      go_wp2
      have zo : w2.heap.size ∉ F2 := fun hm => Nat.lt_irrefl _ (hS2.lt _ hm)
      go_loopw [23] (fun i wr => ∃ (k : Nat) (S3 : Sto) (F3 : List Nat) (out : Cu), k ≤ 64 ∧ i = .int .i64 ((64 - k : Nat) : Int) ∧ StoIs wr p F3 S3 ∧ Gs S3 ∧ CuOk out ∧ StoStep w2 wr F2 F3 ∧ Blk wr w2.heap.size 85 [.int .u64 out.1, .int .u64 out.2] ∧ w2.heap.size ∉ F3 ∧ primeN a k S3 out = primeN a 64 S1 c) (fun i _ => 64 - (intOf i).toNat)
      case atStart => exact ⟨64, S1, F2, c, by omega, rfl, hS2.below (by (repeat' (first | (with_reducible exact Below.refl _ _) | (with_reducible refine Below.ext_mk ?_ ?_ _ _) | (with_reducible refine Below.alloc ?_ ?_ _) | (with_reducible refine Below.drew ?_) | (with_reducible refine Below.setCell ?_ ?_ _) | go_size))), G2, hc, StoStep.of_below (by (repeat' (first | (with_reducible exact Below.refl _ _) | (with_reducible refine Below.ext_mk ?_ ?_ _ _) | (with_reducible refine Below.alloc ?_ ?_ _) | (with_reducible refine Below.drew ?_) | (with_reducible refine Below.setCell ?_ ?_ _) | go_size))), Blk.new w2 85 [.int .u64 c.1, .int .u64 c.2], zo, rfl⟩
      case round =>
        obtain ⟨k, S3, F3, out, hk, rfl, hS3, G3, ho, st3, bo, no, hpr⟩ := hrel
        have HP := hid hpr
        clear hpr
        have bs3 := bs2.keep (st3.block _ bs2.lt ns2)
        have ba3 := ba2.keep (st3.block _ ba2.lt na2)
        have bc3 := bc2.keep (st3.block _ bc2.lt nc2)
        have br3 := br2.keep (st3.block _ br2.lt nr2)
        have ns3 := st3.keeps bs2.lt ns2
        have na3 := st3.keeps ba2.lt na2
        have nc3 := st3.keeps bc2.lt nc2
        have nr3 := st3.keeps br2.lt nr2
        clear c0 c1 r0 r1 fr0 fr1 zc zr
        have o0 := bo.cell 0
        have o1 := bo.cell 1
        have fo0 := bo.free 0
        have fo1 := bo.free 1
        have zo1 := bo.lt
        have s0 := bs3.cell 0
        have zs := bs3.lt
        simp only [List.getElem?_cons_zero, List.getElem?_cons_succ] at o0 o1 s0
        rcases k with _ | k
        · have FU := full_any hS3 (by have := G3.1.cap2; omega)
          have e1 : ((64 - 0 : Nat) : Int) = 64 := rfl
          rw [e1]
          clear e1
          have c0 := bc3.cell 0
          have c1 := bc3.cell 1
          have r0 := br3.cell 0
          have r1 := br3.cell 1
          have fr0 := br3.free 0
          have fr1 := br3.free 1
          simp only [List.getElem?_cons_zero, List.getElem?_cons_succ] at r0 r1 c0 c1
          have zc := bc3.lt
          have zr := br3.lt
          have eN : primeN a 64 S1 c = (S3, out) := HP.out.symm
          rw [eN] at EP2
          clear eN HP
          by_cases hf : S3.full = true
          · rw [hf] at FU
            go_wp2_with (go_at_call 22; refine FU.mono ?_; rintro e w' ⟨rfl, m1, d1, rfl⟩)
            refine body_gen (fun Z hZ => ?_)
            have bZ : Blk Z (w.heap.size + 1 + 1 + 1) 85 [.int .u64 c.1, .int .u64 c.2] := by rw [hZ]; exact ((br3.set_ 0 _).set_ 1 _).ext _ _
            have u0 := bZ.cell 0
            have u1 := bZ.cell 1
            simp only [List.getElem?_cons_zero, List.getElem?_cons_succ] at u0 u1
            have uz := bZ.lt
            have hSZ : StoIs Z p F3 S3 := by rw [hZ]; exact ((hS3.poke (b := w.heap.size + 1 + 1 + 1) nr3 0 _).poke (b := w.heap.size + 1 + 1 + 1) nr3 1 _).ext _ _
            have stZ : StoStep w Z F F3 := by rw [hZ]; exact (((st2'.trans st3).poke (b := w.heap.size + 1 + 1 + 1) (by omega) 0 _).poke (b := w.heap.size + 1 + 1 + 1) (by omega) 1 _).trans (StoStep.of_below (by (repeat' (first | (with_reducible exact Below.refl _ _) | (with_reducible refine Below.ext_mk ?_ ?_ _ _) | (with_reducible refine Below.alloc ?_ ?_ _) | (with_reducible refine Below.drew ?_) | (with_reducible refine Below.setCell ?_ ?_ _) | go_size))))
            clear hZ
            refine bodyPost_ret (v := cv c) (by simp [results, Try.results61, go_sem, u0, u1]) rfl ?_
            rw [EP2.out]
            simp only [hf, ↓reduceIte]
            exact ⟨trivial, F3, hSZ, stZ⟩
          · have hf' : S3.full = false := by simpa using hf
            rw [hf'] at FU
            go_wp2_with (go_at_call 22; refine FU.mono ?_; rintro e w' ⟨rfl, m1, d1, rfl⟩)
            refine body_gen (fun Z hZ => ?_)
            have bZ : Blk Z (w.heap.size + 1 + 1 + 1) 85 [.int .u64 out.1, .int .u64 out.2] := by rw [hZ]; exact ((br3.set_ 0 _).set_ 1 _).ext _ _
            have u0 := bZ.cell 0
            have u1 := bZ.cell 1
            simp only [List.getElem?_cons_zero, List.getElem?_cons_succ] at u0 u1
            have uz := bZ.lt
            have hSZ : StoIs Z p F3 S3 := by rw [hZ]; exact ((hS3.poke (b := w.heap.size + 1 + 1 + 1) nr3 0 _).poke (b := w.heap.size + 1 + 1 + 1) nr3 1 _).ext _ _
            have stZ : StoStep w Z F F3 := by rw [hZ]; exact (((st2'.trans st3).poke (b := w.heap.size + 1 + 1 + 1) (by omega) 0 _).poke (b := w.heap.size + 1 + 1 + 1) (by omega) 1 _).trans (StoStep.of_below (by (repeat' (first | (with_reducible exact Below.refl _ _) | (with_reducible refine Below.ext_mk ?_ ?_ _ _) | (with_reducible refine Below.alloc ?_ ?_ _) | (with_reducible refine Below.drew ?_) | (with_reducible refine Below.setCell ?_ ?_ _) | go_size))))
            clear hZ
            refine bodyPost_ret (v := cv out) (by simp [results, Try.results61, go_sem, u0, u1]) rfl ?_
            rw [EP2.out]
            simp only [hf', Bool.false_eq_true, ↓reduceIte]
            exact ⟨trivial, F3, hSZ, stZ⟩
        · obtain ⟨v, hv⟩ : ∃ v, v = 63 - k := ⟨_, rfl⟩
          have hv64 : v < 64 := by omega
          have e1 : ((64 - (k + 1) : Nat) : Int) = (v : Int) := by omega
          rw [e1]
          clear e1
          have hv0 : (0 : Int) ≤ (v : Int) := by omega
          have hvl : (v : Int) < 64 := by omega
          have w1 : IntKind.u64.wrap (2 ^ v) = 2 ^ v := wrap_pow hv64
          have a1 := andNot_pow ho.1 hv64
          have a2 := andNot_pow ho.2 hv64
          have hpn : primeN a (k + 1) S3 out = if clrB out.1 v ≠ out.1 then
              if (withinV S3 a (clrB out.1 v, clrB out.2 v)).2 then primeN a k (withinV S3 a (clrB out.1 v, clrB out.2 v)).1 (clrB out.1 v, clrB out.2 v)
              else primeN a k (withinV S3 a (clrB out.1 v, clrB out.2 v)).1 out
            else primeN a k S3 out := by rw [primeN, hv]
          have PN := hid hpn
          have HV := hid hv
          clear hpn hv
          generalize hl1 : clrB out.1 v = l1 at *
          generalize hl2 : clrB out.2 v = l2 at *
          have hlo : CuOk (l1, l2) := ⟨by rw [← hl1]; exact clrB_lt _ ho.1, by rw [← hl2]; exact clrB_lt _ ho.2⟩
          have HL := hid (And.intro hl1 hl2)
          clear hl1 hl2
          go_upto_region 8 with (fail)
          refine wp_region_stage [11, 12] (fun i W => Below wr.heap.size wr W ∧ (i = 0 → W = wr.drew) ∧ (i = 1 → W = wr.drew.alloc (.cells #[.int .u64 0, .int .u64 0] 85)) ∧ (i = 2 → W = wr.drew.alloc (.cells #[.int .u64 l1, .int .u64 l2] 85)))
            (by kernel_rfl) (by kernel_rfl) (by kernel_rfl) (by kernel_rfl) ⟨by (repeat' (first | (with_reducible exact Below.refl _ _) | (with_reducible refine Below.ext_mk ?_ ?_ _ _) | (with_reducible refine Below.alloc ?_ ?_ _) | (with_reducible refine Below.drew ?_) | (with_reducible refine Below.setCell ?_ ?_ _) | go_size)), fun _ => rfl, fun h => by omega, fun h => by omega⟩ (fun F' hF => ?_)
          have HF := hid hF
          clear hF
          (apply sg_any; (focus rfl); (focus rfl); (focus (intro _; go_simp; with_reducible rfl)); simp only [Act.put, List.setIfInBounds_toArray, List.set_cons_zero, List.set_cons_succ])
          refine sg_read (v := .int .u64 out.1) _ _ rfl rfl rfl rfl (fun i W _ _ hR => ?_) ?_
          · have q := (hR.1.cell (p := ⟨w2.heap.size, 0, none⟩) zo1).trans o0
            have zq := Nat.lt_of_lt_of_le zo1 hR.1.size
            clear hR
            go_simp
          simp only [Act.put, List.setIfInBounds_toArray, List.set_cons_zero, List.set_cons_succ]
          (apply sg_any; (focus rfl); (focus rfl); (focus (intro _; go_simp; with_reducible rfl)); simp only [Act.put, List.setIfInBounds_toArray, List.set_cons_zero, List.set_cons_succ])
          (apply sg_any; (focus rfl); (focus rfl); (focus (intro _; go_simp; with_reducible rfl)); simp only [Act.put, List.setIfInBounds_toArray, List.set_cons_zero, List.set_cons_succ])
          (apply sg_any; (focus rfl); (focus rfl); (focus (intro _; go_simp; with_reducible rfl)); simp only [Act.put, List.setIfInBounds_toArray, List.set_cons_zero, List.set_cons_succ])
          (apply sg_any; (focus rfl); (focus rfl); (focus (intro _; go_simp; with_reducible rfl)); simp only [Act.put, List.setIfInBounds_toArray, List.set_cons_zero, List.set_cons_succ])
          refine sg_read (v := .int .u64 out.2) _ _ rfl rfl rfl rfl (fun i W _ _ hR => ?_) ?_
          · have q := (hR.1.cell (p := ⟨w2.heap.size, 1, none⟩) zo1).trans o1
            have zq := Nat.lt_of_lt_of_le zo1 hR.1.size
            clear hR
            go_simp
          simp only [Act.put, List.setIfInBounds_toArray, List.set_cons_zero, List.set_cons_succ]
          (apply sg_any; (focus rfl); (focus rfl); (focus (intro _; go_simp; with_reducible rfl)); simp only [Act.put, List.setIfInBounds_toArray, List.set_cons_zero, List.set_cons_succ])
          (apply sg_any; (focus rfl); (focus rfl); (focus (intro _; go_simp; with_reducible rfl)); simp only [Act.put, List.setIfInBounds_toArray, List.set_cons_zero, List.set_cons_succ])
          (apply sg_any; (focus rfl); (focus rfl); (focus (intro _; go_simp; with_reducible rfl)); simp only [Act.put, List.setIfInBounds_toArray, List.set_cons_zero, List.set_cons_succ])
          (apply sg_any; (focus rfl); (focus rfl); (focus (intro _; go_simp; with_reducible rfl)); simp only [Act.put, List.setIfInBounds_toArray, List.set_cons_zero, List.set_cons_succ])
          refine sg_turn 0 (v := .pointer (some ⟨wr.heap.size, 0, none⟩)) rfl rfl (fun W hR => ⟨wr.drew.alloc (.cells #[.int .u64 0, .int .u64 0] 85), by rw [hR.2.1 rfl]; clear hR; go_simp, by (repeat' (first | (with_reducible exact Below.refl _ _) | (with_reducible refine Below.ext_mk ?_ ?_ _ _) | (with_reducible refine Below.alloc ?_ ?_ _) | (with_reducible refine Below.drew ?_) | (with_reducible refine Below.setCell ?_ ?_ _) | go_size)), fun h => by omega, fun _ => rfl, fun h => by omega⟩) ?_
          simp only [Act.put, List.setIfInBounds_toArray, List.set_cons_zero, List.set_cons_succ]
          refine sg_do 1 rfl rfl (fun W hR => ⟨wr.drew.alloc (.cells #[.int .u64 l1, .int .u64 l2] 85), by rw [hR.2.2.1 rfl]; clear hR; go_simp, by (repeat' (first | (with_reducible exact Below.refl _ _) | (with_reducible refine Below.ext_mk ?_ ?_ _ _) | (with_reducible refine Below.alloc ?_ ?_ _) | (with_reducible refine Below.drew ?_) | (with_reducible refine Below.setCell ?_ ?_ _) | go_size)), fun h => by omega, fun h => by omega, fun _ => rfl⟩) ?_
          simp only [Act.put, List.setIfInBounds_toArray, List.set_cons_zero, List.set_cons_succ]
          refine sg_end (HF.out _ (fun Y hR => ?_))
          obtain ⟨hbY, -, -, hY⟩ := hR
          have bl : Blk Y wr.heap.size 85 [.int .u64 l1, .int .u64 l2] := by
            rw [hY rfl]
            exact Blk.new wr.drew 85 [.int .u64 l1, .int .u64 l2]
          clear hY HF F'
          have boY := bo.below hbY
          have hSY := hS3.below hbY
          have P1 := prime1_live hSY G3 hlo (bs3.below hbY) (ba3.below hbY) ns3 na3
          have GW := withinV_gs G3 a (l1, l2)
          have noY : wr.heap.size ∉ F3 := fun hm => Nat.lt_irrefl _ (hS3.lt _ hm)
          have stY : StoStep w2 Y F2 F3 := st3.trans (StoStep.of_below hbY)
          clear o0 o1 fo0 fo1 zo1 s0 zs
          have o0 := boY.cell 0
          have l0 := bl.cell 0
          have lc1 := bl.cell 1
          simp only [List.getElem?_cons_zero, List.getElem?_cons_succ] at o0 l0 lc1
          have zoY := boY.lt
          have zlY := bl.lt
          have zlY' : wr.heap.size < Y.heap.size := zlY
          go_upto_region 9 with (fail)
          by_cases hne : l1 = out.1
          · have hne' : ((l1 : Int) != (out.1 : Int)) = false := by rw [hne]; simp
            have HN := hid hne
            clear hne
            refine wp_region_doc (fun F' hF => ?_)
            have HF := hid hF
            clear hF
            iterate 6 (refine doc_val rfl (by first | (go_simp; done) | (go_simp; exact ⟨rfl, rfl⟩) | (go_simp; with_reducible rfl)) ?_; simp only [Act.put, List.setIfInBounds_toArray, List.set_cons_zero, List.set_cons_succ])
            iterate 3 (refine doc_not rfl ?_; simp only [Act.put, List.setIfInBounds_toArray, List.set_cons_zero, List.set_cons_succ])
            refine doc_val rfl (by first | (go_simp; done) | (go_simp; exact ⟨rfl, rfl⟩) | (go_simp; with_reducible rfl)) ?_
            simp only [Act.put, List.setIfInBounds_toArray, List.set_cons_zero, List.set_cons_succ]
            refine doc_end (HF.out _ _ ?_)
            clear HF F'
            go_wp2
            go_roundw
            case rel =>
              refine ⟨k, S3, F3, out, by omega, by rw [HV.out]; go_num, hSY, G3, ho, stY, boY, no, ?_⟩
              rw [← HP.out, PN.out, if_neg (by rw [HN.out]; simp)]
            case measure => have := HV.out; simp [intOf]; omega
          · have hne' : ((l1 : Int) != (out.1 : Int)) = true := by simp; omega
            have HN := hid hne
            clear hne
            generalize withinV S3 a (l1, l2) = R4 at *
            obtain ⟨S4, r4⟩ := R4
            simp only at P1 GW
            refine wp_region_doc (fun F' hF => ?_)
            have HF := hid hF
            clear hF
            iterate 8 (refine doc_val rfl (by first | (go_simp; done) | (go_simp; exact ⟨rfl, rfl⟩) | (go_simp; with_reducible rfl)) ?_; simp only [Act.put, List.setIfInBounds_toArray, List.set_cons_zero, List.set_cons_succ])
            refine doc_call rfl (by first | (go_simp; done) | (go_simp; exact ⟨rfl, rfl⟩) | (go_simp; with_reducible rfl)) (P1.mono ?_)
            rintro e w4 ⟨rfl, F4, hS4, st4⟩
            refine ⟨_, rfl, ?_⟩
            simp only [Act.put, List.setIfInBounds_toArray, List.set_cons_zero, List.set_cons_succ]
            refine doc_val rfl (by first | (go_simp; done) | (go_simp; exact ⟨rfl, rfl⟩) | (go_simp; with_reducible rfl)) ?_
            simp only [Act.put, List.setIfInBounds_toArray, List.set_cons_zero, List.set_cons_succ]
            refine doc_end (HF.out _ _ ?_)
            clear HF F'
            have bo4 := boY.keep (st4.block _ zoY no)
            have bl4 := bl.keep (st4.block _ zlY noY)
            have no4 := st4.keeps zoY no
            have st4' := stY.trans st4
            clear o0 l0 lc1 zoY zlY zlY' P1
            cases r4
            · go_wp2
              go_roundw
              case rel =>
                refine ⟨k, S4, F4, out, by omega, by rw [HV.out]; go_num, hS4, GW, ho, st4', bo4, no4, ?_⟩
                rw [← HP.out, PN.out, if_pos HN.out]
                rfl
              case measure => have := HV.out; simp [intOf]; omega
            · have l0 := bl4.cell 0
              have lc1 := bl4.cell 1
              have fo0 := bo4.free 0
              have fo1 := bo4.free 1
              have o0 := bo4.cell 0
              have o1 := bo4.cell 1
              simp only [List.getElem?_cons_zero, List.getElem?_cons_succ] at o0 o1 l0 lc1
              have zo4 := bo4.lt
              have zl4 := bl4.lt
              have zl4' : wr.heap.size < w4.heap.size := zl4
              go_wp2
              go_roundw
              case rel =>
                refine ⟨k, S4, F4, (l1, l2), by omega, by rw [HV.out]; go_num, (hS4.poke no4 0 _).poke no4 1 _, GW, hlo, (st4'.poke (Nat.le_refl _) 0 _).poke (Nat.le_refl _) 1 _, (bo4.set_ 0 _).set_ 1 _, no4, ?_⟩
                rw [← HP.out, PN.out, if_pos HN.out]
                rfl
              case measure => have := HV.out; simp [intOf]; omega
  · have hm' : mayC c = false := by simpa using hm
    have M := cmay_any hc
    rw [hm'] at M
    refine wp_region_doc (fun F hF => ?_)
    have HF := hid hF
    clear hF
    iterate 1 (refine doc_val rfl (by first | (go_simp; done) | (go_simp; exact ⟨rfl, rfl⟩) | (go_simp; with_reducible rfl)) ?_; simp only [Act.put, List.setIfInBounds_toArray, List.set_cons_zero, List.set_cons_succ])
    refine doc_call rfl (by first | (go_simp; done) | (go_simp; exact ⟨rfl, rfl⟩) | (go_simp; with_reducible rfl)) (Calls.mono (M _) ?_)
    rintro _ _ ⟨rfl, mz, dz, rfl⟩
    refine ⟨_, rfl, ?_⟩
    simp only [Act.put, List.setIfInBounds_toArray, List.set_cons_zero, List.set_cons_succ]
    iterate 2 (refine doc_val rfl (by first | (go_simp; done) | (go_simp; exact ⟨rfl, rfl⟩) | (go_simp; with_reducible rfl)) ?_; simp only [Act.put, List.setIfInBounds_toArray, List.set_cons_zero, List.set_cons_succ])
    iterate 4 (refine doc_not rfl ?_; simp only [Act.put, List.setIfInBounds_toArray, List.set_cons_zero, List.set_cons_succ])
    iterate 1 (refine doc_val rfl (by first | (go_simp; done) | (go_simp; exact ⟨rfl, rfl⟩) | (go_simp; with_reducible rfl)) ?_; simp only [Act.put, List.setIfInBounds_toArray, List.set_cons_zero, List.set_cons_succ])
    refine doc_end (HF.out _ _ ?_)
    clear HF F
    go_wp2
    refine body_gen (fun Z hZ => ?_)
    have bZ : Blk Z (w.heap.size + 1 + 1 + 1) 85 [.int .u64 c.1, .int .u64 c.2] := by rw [hZ]; exact ((br.set_ 0 _).set_ 1 _).ext _ _
    have u0 := bZ.cell 0
    have u1 := bZ.cell 1
    simp only [List.getElem?_cons_zero, List.getElem?_cons_succ] at u0 u1
    have uz := bZ.lt
    have hbZ : Below V.heap.size V (V.ext mz dz) := by (repeat' (first | (with_reducible exact Below.refl _ _) | (with_reducible refine Below.ext_mk ?_ ?_ _ _) | (with_reducible refine Below.alloc ?_ ?_ _) | (with_reducible refine Below.drew ?_) | (with_reducible refine Below.setCell ?_ ?_ _) | go_size))
    have hSZ : StoIs Z p F S := by rw [hZ]; exact ((hV.poke (b := w.heap.size + 1 + 1 + 1) (nF _ (by omega)) 0 _).poke (b := w.heap.size + 1 + 1 + 1) (nF _ (by omega)) 1 _).ext _ _
    have stZ : StoStep w Z F F := by rw [hZ]; exact ((stV.poke (b := w.heap.size + 1 + 1 + 1) (by omega) 0 _).poke (b := w.heap.size + 1 + 1 + 1) (by omega) 1 _).trans (StoStep.of_below (by (repeat' (first | (with_reducible exact Below.refl _ _) | (with_reducible refine Below.ext_mk ?_ ?_ _ _) | (with_reducible refine Below.alloc ?_ ?_ _) | (with_reducible refine Below.drew ?_) | (with_reducible refine Below.setCell ?_ ?_ _) | go_size))))
    clear hZ
    refine bodyPost_ret (v := cv c) (by simp [results, Try.results61, go_sem, u0, u1]) rfl ?_
    rw [primeV, if_neg hm]
    exact ⟨rfl, F, hSZ, stZ⟩
end Go.Proofs.Ytboekafmplomhaa
