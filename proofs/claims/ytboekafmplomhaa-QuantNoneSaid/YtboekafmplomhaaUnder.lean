/-
  Under: the closure, and the call.
-/
import Derived.Test.YtboekafmplomhaaUnW2
set_option linter.unusedVariables false
set_option linter.unusedSimpArgs false
namespace Go.Proofs.Ytboekafmplomhaa
open Go.RowKit

theorem StoStep.drop {w V w' : World} {F F' : List Nat} {km : Nat} (hb : Below w.heap.size w V) (h : StoStep V w' (km :: F) (km :: F')) (h1 : w.heap.size ≤ km) (h2 : km < V.heap.size) (hF : ∀ k ∈ F, k < w.heap.size) (hn : km ∉ F') : StoStep w w' F F' :=
  ⟨h.os.trans hb.os, h.tape.trans hb.tape, h.output.trans hb.output, Nat.le_trans hb.size h.size,
   fun k hk hn => (h.block k (Nat.lt_of_lt_of_le hk hb.size) (fun hm => by
     rcases List.mem_cons.1 hm with rfl | hm
     · omega
     · exact hn hm)).trans (hb.block k hk),
   fun k hk => by
     rcases h.fresh k (List.mem_cons_of_mem _ hk) with q | q
     · rcases List.mem_cons.1 q with rfl | q
       · exact (hn hk).elim
       · exact .inl q
     · exact .inr ⟨by have := hb.size; omega, q.2⟩⟩

theorem under1_any {w : World} {p : Nat} {F : List Nat} {S : Sto} (h : StoIs w p F S) (hW : Wf S) (hs : Sated S) (x v : Int) (on : Bool) (i0 i1 i2 i3 : Nat)
    (h0 : i0 < w.heap.size) (h1 : i1 < w.heap.size) (h2 : i2 < w.heap.size) (h3 : i3 < w.heap.size)
    (c0 : w.cell? ⟨i0, 0, none⟩ = some (.pointer (some ⟨p, 0, none⟩))) (c1 : w.cell? ⟨i1, 0, none⟩ = some (.int .i64 x)) (c2 : w.cell? ⟨i2, 0, none⟩ = some (.int .i64 v)) (c3 : w.cell? ⟨i3, 0, none⟩ = some (.bool on)) :
    Calls Try.prog 89 #[.pointer (some ⟨i0, 0, none⟩), .pointer (some ⟨i1, 0, none⟩), .pointer (some ⟨i2, 0, none⟩), .pointer (some ⟨i3, 0, none⟩)] w
      (fun e w' => e = endOf (underR S x v on).2 ∧ Turned w p F (underR S x v on).1 w') := by
  have hmm := @run_makeMap Try.prog
  have hl1 : S.nodes.length ≤ 1048576 := by have := hW.len; have := hW.cap; omega
  have hlt := h.lt
  have R1 := fun d => right_same (h.ext #[] d) hl1 x
  have hb2 : Below w.heap.size w (w.alloc (.map #[] 0)) := by (repeat' (first | (with_reducible exact Below.refl _ _) | (with_reducible refine Below.ext_mk ?_ ?_ _ _) | (with_reducible refine Below.alloc ?_ ?_ _) | (with_reducible refine Below.drew ?_) | (with_reducible refine Below.setCell ?_ ?_ _) | go_size))
  have R2 := fun d => right_same ((h.below hb2).ext #[] d) hl1 x
  have e1 : ∀ d, (w.ext #[] d).alloc (.map #[] 0) = (w.alloc (.map #[] 0)).ext #[] d := fun d => by unfold World.ext World.alloc; simp
  have H := hid h
  go_enter Try.func89, Try.ntmps89
  go_upto_region 1 with (fail)
  refine wp_region_make 6 7 (w.alloc (.map #[] 0)) (by kernel_rfl) (by kernel_rfl) (by kernel_rfl) (by kernel_rfl) (by kernel_rfl) (fun F' hF => ?_)
  simp only [List.take_succ_cons, List.take_zero, List.drop_succ_cons, List.drop_zero] at hF ⊢
  have HF := hid hF
  clear hF
  repeat (first
    | (refine make_val rfl rfl (fun _ => by go_simp; with_reducible rfl) (fun _ => by first | (go_simp; done) | (go_simp; with_reducible rfl)) ?_; simp only [Act.put, List.setIfInBounds_toArray, List.set_cons_zero, List.set_cons_succ])
    | (refine make_call rfl rfl (fun _ => by first | (go_simp; done) | (go_simp; exact ⟨rfl, rfl⟩)) R1 R2 ?_; simp only [Act.put, List.setIfInBounds_toArray, List.set_cons_zero, List.set_cons_succ])
    | (refine make_make (v := .map (some w.heap.size)) rfl (fun d => ⟨d, by rw [← e1 d]; go_simp⟩) ?_; simp only [Act.put, List.setIfInBounds_toArray, List.set_cons_zero, List.set_cons_succ]))
  refine make_nil (HF.out _ (fun d => ?_))
  clear HF
  have hw : (Exit.normal = Exit.normal) := rfl
  generalize hV : (w.alloc (.map #[] 0)).ext #[] d = V
  have hbV : Below w.heap.size w V := by rw [← hV]; (repeat' (first | (with_reducible exact Below.refl _ _) | (with_reducible refine Below.ext_mk ?_ ?_ _ _) | (with_reducible refine Below.alloc ?_ ?_ _) | (with_reducible refine Below.drew ?_) | (with_reducible refine Below.setCell ?_ ?_ _) | go_size))
  have zV : w.heap.size < V.heap.size := by rw [← hV]; simp
  have hmV : MapIs ki V w.heap.size [] := by
    rw [← hV]
    refine MapIs.ext ⟨#[], 0, World.heap_alloc_last w _, rfl⟩ #[] d
  clear hV hw e1 R1 R2 hb2 hmm c0 c1 c2 c3 h0 h1 h2 h3
  have hkm : w.heap.size ∉ F := fun hm => Nat.lt_irrefl _ (hlt _ hm)
  have N := under_any v on 65 V p w.heap.size F S [] (rightOf S x) (h.below hbV) hmV hkm hW hs (KOk.nil S v on) (has_right x) (by have := topOf_ge hW (has_right (S := S) x); omega)
  rcases hR : underN v on 65 S [] (rightOf S x) with ⟨S', K', _ | r⟩
  · rw [hR] at N
    unfold UnPost at N
    simp only [endOf] at N
    have HR := hid hR
    clear hR
    go_wp2_with (go_at_call 90; refine N.mono ?_; rintro e w' ⟨rfl, F', t1, t2, t3, t4⟩)
    unfold underR
    rw [HR.out]
    exact ⟨rfl, rfl, F', t1, StoStep.drop hbV t4 (Nat.le_refl _) zV hlt t3⟩
  · rw [hR] at N
    unfold UnPost at N
    simp only [endOf] at N
    have HR := hid hR
    clear hR
    go_wp2_with (go_at_call 90; refine N.mono ?_; rintro e w' ⟨rfl, F', t1, t2, t3, t4⟩)
    go_returns
    unfold underR
    rw [HR.out]
    exact ⟨rfl, F', t1, StoStep.drop hbV t4 (Nat.le_refl _) zV hlt t3⟩

theorem under_call {w : World} {p : Nat} {F : List Nat} {S : Sto} (h : StoIs w p F S) (hW : Wf S) (hs : Sated S) (x v : Int) (on : Bool) :
    Tells 30 #[.pointer (some ⟨p, 0, none⟩), .int .i64 x, .int .i64 v, .bool on] w p F (underV S x v on) := by
  have hmf : ∀ (fn : Fn) (first cap : Array Value) (w : World), (Instr.makeFunc fn first cap).run Try.prog w = .ok (.func fn first cap) w := fun _ _ _ _ => rfl
  have hc : S.cap ≠ 0 := by have := hW.cap2; omega
  go_enter Try.func30, Try.ntmps30
  go_upto_region 1 with (fail)
  refine wp_gen (fun V hV => ?_)
  have hbV : Below w.heap.size w V := by rw [hV]; ((repeat' (first | (with_reducible exact Below.refl _ _) | (with_reducible refine Below.ext_mk ?_ ?_ _ _) | (with_reducible refine Below.alloc ?_ ?_ _) | (with_reducible refine Below.drew ?_) | (with_reducible refine Below.setCell ?_ ?_ _) | go_size)))
  have zV0 : w.heap.size < V.heap.size := by rw [hV]; first | (simp; done) | (simp; omega)
  have cV0_0 : V.cell? ⟨w.heap.size, 0, none⟩ = some (.pointer (some ⟨p, 0, none⟩)) := by rw [hV]; first | (go_simp; done) | (rw [World.cell?_alloc_past _ _ _ (by first | (simp; done) | (simp; omega))]; go_simp)
  have zV1 : w.heap.size + 1 < V.heap.size := by rw [hV]; first | (simp; done) | (simp; omega)
  have cV1_0 : V.cell? ⟨w.heap.size + 1, 0, none⟩ = some (.int .i64 x) := by rw [hV]; first | (go_simp; done) | (rw [World.cell?_alloc_past _ _ _ (by first | (simp; done) | (simp; omega))]; go_simp)
  have zV2 : w.heap.size + 2 < V.heap.size := by rw [hV]; first | (simp; done) | (simp; omega)
  have cV2_0 : V.cell? ⟨w.heap.size + 2, 0, none⟩ = some (.int .i64 v) := by rw [hV]; first | (go_simp; done) | (rw [World.cell?_alloc_past _ _ _ (by first | (simp; done) | (simp; omega))]; go_simp)
  have zV3 : w.heap.size + 3 < V.heap.size := by rw [hV]; first | (simp; done) | (simp; omega)
  have cV3_0 : V.cell? ⟨w.heap.size + 3, 0, none⟩ = some (.bool on) := by rw [hV]; first | (go_simp; done) | (rw [World.cell?_alloc_past _ _ _ (by first | (simp; done) | (simp; omega))]; go_simp)
  clear hV
  have hV := h.below hbV
  have M := made_any hV hc 89 #[.pointer (some ⟨w.heap.size, 0, none⟩), .pointer (some ⟨w.heap.size + 1, 0, none⟩), .pointer (some ⟨w.heap.size + 2, 0, none⟩), .pointer (some ⟨w.heap.size + 3, 0, none⟩)] (fun _ => by kernel_rfl) (underR S x v on)
    (fun w' hb hS => under1_any hS hW hs x v on _ _ _ _ (Nat.lt_of_lt_of_le zV0 hb.size) (Nat.lt_of_lt_of_le zV1 hb.size) (Nat.lt_of_lt_of_le zV2 hb.size) (Nat.lt_of_lt_of_le zV3 hb.size)
      ((cell_of_heap 0 (hb.block _ zV0)).trans cV0_0) ((cell_of_heap 0 (hb.block _ zV1)).trans cV1_0) ((cell_of_heap 0 (hb.block _ zV2)).trans cV2_0) ((cell_of_heap 0 (hb.block _ zV3)).trans cV3_0))
  have st : StoStep w V F F := StoStep.of_below hbV
  unfold Tells at M
  go_wp2_with (go_at_call 84; refine M.mono ?_; rintro e w' ⟨rfl, hT⟩)
  go_returns
  exact ⟨rfl, hT.after st⟩
end Go.Proofs.Ytboekafmplomhaa
