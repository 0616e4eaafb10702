/-
  Package tidy: each goes over the nodes of diagrams, in their order (whatever store, whatever is done at each).
-/
import Derived.Test.YtboekafmplomhaaZSup
set_option linter.unusedVariables false
set_option linter.unusedSimpArgs false
namespace Go.Proofs.Ytboekafmplomhaa
open Go.RowKit

theorem load_struct_op {w : World} (a : Act) (dst : Option Tmp) (ty t : TypeId) (x : Operand) (pos : String) (after : Array Edge) (guard : Option (Nat × Bool)) {g : Nat} {e : TypeId} {xs : List Value} {fs : _}
    (hu : Try.prog.underlying ty = some (.struct fs)) (hi : (Try.prog.info? ty).map (·.size) = some xs.length) (hx : a.eval x = .pointer (some ⟨g, 0, none⟩)) (hg : Blk w g e xs) :
    (execOp a.eval { dst, op := .load ty x, type := t, pos, after, guard }).run Try.prog w = .ok (.value (.agg xs.toArray)) w := by
  have h := run_loadVar_row (P := Try.prog) w g e ty xs.toArray (0, 0) _ hg hu rfl (by simpa using hi)
  unfold execOp
  simp only [hx, Instr.loadAt, Instr.sureAddr, Sem.run_bind, Sem.run_pure, Result.andThen_ok, h]

/-- What a walk has seen, and done, in its order. -/
def eachN (at_ : Int → Nd × Bool) : Nat → List (Int × Int) → List Int → Int → List (Int × Int) × List Int
  | 0, K, L, _ => (K, L)
  | n + 1, K, L, a =>
    if (at_ a).2 = false ∨ 0 < (aget K a).getD 0 then (K, L) else
    ((eachN at_ n (eachN at_ n (aput K a 1) L (at_ a).1.2.1).1 (eachN at_ n (aput K a 1) L (at_ a).1.2.1).2 (at_ a).1.2.2).1,
     (eachN at_ n (eachN at_ n (aput K a 1) L (at_ a).1.2.1).1 (eachN at_ n (aput K a 1) L (at_ a).1.2.1).2 (at_ a).1.2.2).2 ++ [a])

def nd3 (n : Nd) : Value := .agg #[.int .i64 n.1, .int .i64 n.2.1, .int .i64 n.2.2]
structure Src (q : Option Addr) (F : List Nat) (St : World → Prop) (at_ : Int → Nd × Bool) (rk : Int → Nat) : Prop where
  keep : ∀ w w', St w → (∀ k ∈ F, w'.heap[k]? = w.heap[k]?) → St w'
  lt : ∀ w, St w → ∀ k ∈ F, k < w.heap.size
  call : ∀ w, St w → ∀ a, Calls Try.prog 21 #[.pointer q, .int .i64 a] w (Pure (.tuple #[.agg #[.int .i64 (at_ a).1.1, .int .i64 (at_ a).1.2.1, .int .i64 (at_ a).1.2.2], .bool (at_ a).2]) w)
  lo : ∀ a, (at_ a).2 = true → rk (at_ a).1.2.1 < rk a
  hi : ∀ a, (at_ a).2 = true → rk (at_ a).1.2.2 < rk a
structure Doer (kf : FuncId) (cap : Array Value) (at_ : Int → Nd × Bool) (I : List Nat → List Int → World → Prop) : Prop where
  keep : ∀ M L w w', I M L w → (∀ k ∈ M, w'.heap[k]? = w.heap[k]?) → I M L w'
  lt : ∀ M L w, I M L w → ∀ k ∈ M, k < w.heap.size
  enter : ∀ args w, (callFunc kf args).run Try.prog w = .ok (.enter kf args) w
  call : ∀ M L w a, (at_ a).2 = true → I M L w → Calls Try.prog kf (#[.int .i64 a, .agg #[.int .i64 (at_ a).1.1, .int .i64 (at_ a).1.2.1, .int .i64 (at_ a).1.2.2]] ++ cap) w
    (fun e w' => e = .returned (.tuple #[]) ∧ ∃ M', I M' (L ++ [a]) w' ∧ StoStep w w' M M')

structure EachW (q : Option Addr) (F : List Nat) (St : World → Prop) (dv : Value) (w : World) (km i0 i1 i3 i4 : Nat) (K : List (Int × Int)) (M : List Nat) : Prop where
  st : St w
  map : MapIs ki w km K
  fm : km ∉ F
  mm : km ∉ M
  FM : ∀ k ∈ F, k ∉ M
  z0 : i0 < w.heap.size
  z1 : i1 < w.heap.size
  z3 : i3 < w.heap.size
  z4 : i4 < w.heap.size
  m0 : i0 ≠ km
  m1 : i1 ≠ km
  m3 : i3 ≠ km
  m4 : i4 ≠ km
  n0 : i0 ∉ M
  n1 : i1 ∉ M
  n3 : i3 ∉ M
  n4 : i4 ∉ M
  c0 : w.cell? ⟨i0, 0, none⟩ = some (.pointer q)
  c1 : w.cell? ⟨i1, 0, none⟩ = some (.map (some km))
  c3 : w.cell? ⟨i3, 0, none⟩ = some (.func (.func 136) #[] #[.pointer (some ⟨i0, 0, none⟩), .pointer (some ⟨i1, 0, none⟩), .pointer (some ⟨i3, 0, none⟩), .pointer (some ⟨i4, 0, none⟩)])
  c4 : w.cell? ⟨i4, 0, none⟩ = some dv

section
variable {q : Option Addr} {F : List Nat} {St : World → Prop} {at_ : Int → Nd × Bool} {rk : Int → Nat} {kf : FuncId} {cap : Array Value} {I : List Nat → List Int → World → Prop}
variable {w w' : World} {dv : Value} {km i0 i1 i3 i4 : Nat} {K K' : List (Int × Int)} {M M' : List Nat}
theorem EachW.step (h : EachW q F St dv w km i0 i1 i3 i4 K M) (hs : Src q F St at_ rk) (st : StoStep w w' (km :: M) (km :: M')) (hm : MapIs ki w' km K') (mm : km ∉ M') : EachW q F St dv w' km i0 i1 i3 i4 K' M' :=
  have hk : ∀ k, k < w.heap.size → k ≠ km → k ∉ M → w'.heap[k]? = w.heap[k]? := fun k h1 h2 h3 => st.block k h1 (by simp [h2, h3])
  have hn : ∀ k, k < w.heap.size → k ≠ km → k ∉ M → k ∉ M' := fun k h1 h2 h3 h4 => st.keeps h1 (by simp [h2, h3]) (List.mem_cons_of_mem _ h4)
  { st := hs.keep w w' h.st (fun k hk' => hk k (hs.lt w h.st k hk') (fun e => h.fm (e ▸ hk')) (h.FM k hk'))
    map := hm, fm := h.fm, mm := mm
    FM := fun k hk' => hn k (hs.lt w h.st k hk') (fun e => h.fm (e ▸ hk')) (h.FM k hk')
    z0 := Nat.lt_of_lt_of_le h.z0 st.size, z1 := Nat.lt_of_lt_of_le h.z1 st.size, z3 := Nat.lt_of_lt_of_le h.z3 st.size, z4 := Nat.lt_of_lt_of_le h.z4 st.size
    m0 := h.m0, m1 := h.m1, m3 := h.m3, m4 := h.m4
    n0 := hn _ h.z0 h.m0 h.n0, n1 := hn _ h.z1 h.m1 h.n1, n3 := hn _ h.z3 h.m3 h.n3, n4 := hn _ h.z4 h.m4 h.n4
    c0 := (cell_of_heap 0 (hk _ h.z0 h.m0 h.n0)).trans h.c0
    c1 := (cell_of_heap 0 (hk _ h.z1 h.m1 h.n1)).trans h.c1
    c3 := (cell_of_heap 0 (hk _ h.z3 h.m3 h.n3)).trans h.c3
    c4 := (cell_of_heap 0 (hk _ h.z4 h.m4 h.n4)).trans h.c4 }
theorem EachW.below (h : EachW q F St dv w km i0 i1 i3 i4 K M) (hs : Src q F St at_ rk) (hb : Below w.heap.size w w') : EachW q F St dv w' km i0 i1 i3 i4 K M :=
  h.step hs (StoStep.of_below hb) (MapIs.keep h.map (hb.block _ (MapIs.lt h.map))) h.mm
theorem EachW.put (h : EachW q F St dv w km i0 i1 i3 i4 K M) (hs : Src q F St at_ rk) (o : Obj) (hm : MapIs ki (w.putObj km o) km K') : EachW q F St dv (w.putObj km o) km i0 i1 i3 i4 K' M ∧ StoStep w (w.putObj km o) (km :: M) (km :: M) :=
  have s1 : StoStep w (w.putObj km o) (km :: M) (km :: M) := StoStep.put (by simp) o
  ⟨h.step hs s1 hm h.mm, s1⟩

set_option maxHeartbeats 4000000 in
theorem each_no (hs : Src q F St at_ rk) {a : Int} (h : EachW q F St dv w km i0 i1 i3 i4 K M) (hno : (at_ a).2 = false ∨ 0 < (aget K a).getD 0) :
    Calls Try.prog 136 #[.int .i64 a, .pointer (some ⟨i0, 0, none⟩), .pointer (some ⟨i1, 0, none⟩), .pointer (some ⟨i3, 0, none⟩), .pointer (some ⟨i4, 0, none⟩)] w (Pure (.tuple #[]) w) := by
  have A := hid (hs.call w h.st a)
  have H := hid h
  have z0 := h.z0
  have c0 := h.c0
  clear h
  generalize (at_ a).1.1 = x1 at *
  generalize (at_ a).1.2.1 = x2 at *
  generalize (at_ a).1.2.2 = x3 at *
  cases ha : (at_ a).2 with
  | false =>
    rw [ha] at A
    clear hno ha
    go_enter Try.func136, Try.ntmps136
    go_upto_region 0 with (fail)
    refine wp_region_doc (fun F' hF => ?_)
    have HF := hid hF
    clear hF
    repeat (refine doc_val rfl (by first | (go_simp; done) | (go_simp; exact ⟨rfl, rfl⟩) | (go_simp; with_reducible rfl)) ?_; simp only [Act.put, List.setIfInBounds_toArray, List.set_cons_zero, List.set_cons_succ])
    refine doc_call rfl (by first | (go_simp; done) | (go_simp; exact ⟨rfl, rfl⟩) | (go_simp; with_reducible rfl)) ((A.out).mono ?_)
    rintro e w1 ⟨rfl, m1, d1, rfl⟩
    refine ⟨_, rfl, ?_⟩
    simp only [Act.put, List.setIfInBounds_toArray, List.set_cons_zero, List.set_cons_succ]
    repeat (refine doc_val rfl (by first | (go_simp; done) | (go_simp; exact ⟨rfl, rfl⟩) | (go_simp; with_reducible rfl)) ?_; simp only [Act.put, List.setIfInBounds_toArray, List.set_cons_zero, List.set_cons_succ])
    refine doc_skip rfl (store_row_op (xs := [.int .i64 0, .int .i64 0, .int .i64 0]) (ys := [.int .i64 x1, .int .i64 x2, .int .i64 x3]) _ _ _ _ _ _ _ _ _ (branchy_size _ _ _) rfl rfl rfl rfl (by have h := Blk.new (w.ext m1 d1) 39 [.int .i64 0, .int .i64 0, .int .i64 0]; rw [World.size_ext] at h; exact h)) ?_
    simp only [Act.put, List.setIfInBounds_toArray, List.set_cons_zero, List.set_cons_succ]
    repeat (refine doc_val rfl (by first | (go_simp; done) | (go_simp; exact ⟨rfl, rfl⟩) | (go_simp; with_reducible rfl)) ?_; simp only [Act.put, List.setIfInBounds_toArray, List.set_cons_zero, List.set_cons_succ])
    refine doc_end (HF.out _ _ ?_)
    clear HF F'
    go_upto_region 1 with (fail)
    refine wp_gen (fun U hU => ?_)
    have hbU : Below w.heap.size w U := by
      rw [hU]; exact Below.setRow (Below.alloc (Below.ext_mk (Below.refl _ _) (Nat.le_refl _) _ _) (by first | (simp; done) | (simp; omega)) _) (by omega) _
    have bU : Blk U (w.heap.size + m1.size) 39 [.int .i64 x1, .int .i64 x2, .int .i64 x3] := by
      rw [hU]
      have h := Blk.new (w.ext m1 d1) 39 [.int .i64 0, .int .i64 0, .int .i64 0]
      rw [World.size_ext] at h
      exact h.row _
    have hB : w.heap.size ≤ w.heap.size + m1.size := by omega
    generalize w.heap.size + m1.size = B at *
    clear hU
    have H1 := H.out.below hs hbU
    have z1 := H1.z1
    have z3 := H1.z3
    have z4 := H1.z4
    have c1 := H1.c1
    have c3 := H1.c3
    have c4 := H1.c4
    go_wp2_with fail
    go_returns
    exact Pure.of rfl (by first | exact hbU | exact Below.ext_mk hbU hbU.size _ _)
  | true =>
    rw [ha] at A hno
    have hk : 0 < (aget K a).getD 0 := by simpa using hno
    clear hno ha
    go_enter Try.func136, Try.ntmps136
    go_upto_region 0 with (fail)
    refine wp_region_doc (fun F' hF => ?_)
    have HF := hid hF
    clear hF
    repeat (refine doc_val rfl (by first | (go_simp; done) | (go_simp; exact ⟨rfl, rfl⟩) | (go_simp; with_reducible rfl)) ?_; simp only [Act.put, List.setIfInBounds_toArray, List.set_cons_zero, List.set_cons_succ])
    refine doc_call rfl (by first | (go_simp; done) | (go_simp; exact ⟨rfl, rfl⟩) | (go_simp; with_reducible rfl)) ((A.out).mono ?_)
    rintro e w1 ⟨rfl, m1, d1, rfl⟩
    refine ⟨_, rfl, ?_⟩
    simp only [Act.put, List.setIfInBounds_toArray, List.set_cons_zero, List.set_cons_succ]
    repeat (refine doc_val rfl (by first | (go_simp; done) | (go_simp; exact ⟨rfl, rfl⟩) | (go_simp; with_reducible rfl)) ?_; simp only [Act.put, List.setIfInBounds_toArray, List.set_cons_zero, List.set_cons_succ])
    refine doc_skip rfl (store_row_op (xs := [.int .i64 0, .int .i64 0, .int .i64 0]) (ys := [.int .i64 x1, .int .i64 x2, .int .i64 x3]) _ _ _ _ _ _ _ _ _ (branchy_size _ _ _) rfl rfl rfl rfl (by have h := Blk.new (w.ext m1 d1) 39 [.int .i64 0, .int .i64 0, .int .i64 0]; rw [World.size_ext] at h; exact h)) ?_
    simp only [Act.put, List.setIfInBounds_toArray, List.set_cons_zero, List.set_cons_succ]
    repeat (refine doc_val rfl (by first | (go_simp; done) | (go_simp; exact ⟨rfl, rfl⟩) | (go_simp; with_reducible rfl)) ?_; simp only [Act.put, List.setIfInBounds_toArray, List.set_cons_zero, List.set_cons_succ])
    refine doc_end (HF.out _ _ ?_)
    clear HF F'
    go_upto_region 1 with (fail)
    refine wp_gen (fun U hU => ?_)
    have hbU : Below w.heap.size w U := by
      rw [hU]; exact Below.setRow (Below.alloc (Below.ext_mk (Below.refl _ _) (Nat.le_refl _) _ _) (by first | (simp; done) | (simp; omega)) _) (by omega) _
    have bU : Blk U (w.heap.size + m1.size) 39 [.int .i64 x1, .int .i64 x2, .int .i64 x3] := by
      rw [hU]
      have h := Blk.new (w.ext m1 d1) 39 [.int .i64 0, .int .i64 0, .int .i64 0]
      rw [World.size_ext] at h
      exact h.row _
    have hB : w.heap.size ≤ w.heap.size + m1.size := by omega
    generalize w.heap.size + m1.size = B at *
    clear hU
    have H1 := H.out.below hs hbU
    have z1 := H1.z1
    have z3 := H1.z3
    have z4 := H1.z4
    have c1 := H1.c1
    have c3 := H1.c3
    have c4 := H1.c4
    have hlook := fun m d => lookup_run (w := U.ext m d) key_int Try.underlying115 (zero_int _) (MapIs.ext H1.map m d) a false
    simp only [Bool.false_eq_true, if_false] at hlook
    generalize (aget K a).getD 0 = kk at *
    refine wp_region_seq (fun F hF => ?_)
    have HF := hid hF; clear hF
    repeat (first
      | (apply text_skip; (focus rfl); simp only [Act.put, List.setIfInBounds_toArray, List.set_cons_zero, List.set_cons_succ])
      | (apply text_val; (focus rfl); (focus (intro _ _; go_simp; with_reducible rfl)); simp only [Act.put, List.setIfInBounds_toArray, List.set_cons_zero, List.set_cons_succ])
      | (apply text_if; (focus (first | exact wanted_t rfl rfl | exact wanted_f rfl rfl | exact wanted_gt rfl rfl | exact wanted_gf rfl rfl)); (focus (intro hc _ _; (try simp only [Bool.and_eq_true, Bool.not_eq_true', Bool.true_and] at hc); go_simp; with_reducible rfl)); simp only [Act.put, List.setIfInBounds_toArray, List.set_cons_zero, List.set_cons_succ]))
    refine text_nil (HF.out _ (fun mx dx => ?_))
    clear HF F
    go_wp2_with fail
    go_returns
    exact Pure.of rfl (by first | exact hbU | exact Below.ext_mk hbU hbU.size _ _)

set_option maxHeartbeats 8000000 in
theorem each1_any (hs : Src q F St at_ rk) (hd : Doer kf cap at_ I) (hdv : dv = .func (.func kf) #[] cap) : ∀ (n : Nat) (w : World) (K : List (Int × Int)) (L : List Int) (M : List Nat) (a : Int), EachW q F St dv w km i0 i1 i3 i4 K M → I M L w → rk a < n →
    Calls Try.prog 136 #[.int .i64 a, .pointer (some ⟨i0, 0, none⟩), .pointer (some ⟨i1, 0, none⟩), .pointer (some ⟨i3, 0, none⟩), .pointer (some ⟨i4, 0, none⟩)] w
      (fun e w' => e = .returned (.tuple #[]) ∧ ∃ M', EachW q F St dv w' km i0 i1 i3 i4 (eachN at_ n K L a).1 M' ∧ I M' (eachN at_ n K L a).2 w' ∧ StoStep w w' (km :: M) (km :: M')) := by
  intro n
  induction n with
  | zero => intro w K L M a _ _ hn; omega
  | succ n ih =>
    intro w K L M a h hI hn
    by_cases hno : (at_ a).2 = false ∨ 0 < (aget K a).getD 0
    · refine (each_no hs h hno).mono ?_
      rintro e w' ⟨rfl, m, d, rfl⟩
      unfold eachN
      rw [if_pos hno]
      have hb : Below w.heap.size w (w.ext m d) := Below.ext_mk (Below.refl _ _) (Nat.le_refl _) _ _
      exact ⟨rfl, M, h.below hs hb, hd.keep _ _ _ _ hI (fun k hk => hb.block k (hd.lt _ _ _ hI k hk)), StoStep.of_below hb⟩
    · have hsn : eachN at_ (n + 1) K L a = ((eachN at_ n (eachN at_ n (aput K a 1) L (at_ a).1.2.1).1 (eachN at_ n (aput K a 1) L (at_ a).1.2.1).2 (at_ a).1.2.2).1,
          (eachN at_ n (eachN at_ n (aput K a 1) L (at_ a).1.2.1).1 (eachN at_ n (aput K a 1) L (at_ a).1.2.1).2 (at_ a).1.2.2).2 ++ [a]) := by
        rw [eachN, if_neg hno]
      rw [hsn]
      clear hsn
      have hy : (at_ a).2 = true := by
        cases hq : (at_ a).2 with
        | true => rfl
        | false => exact (hno (.inl hq)).elim
      have hk : ¬ 0 < (aget K a).getD 0 := fun q => hno (.inr q)
      have A := hid (hs.call w h.st a)
      rw [hy] at A
      have H := hid h
      have HI := hid hI
      have z0 := h.z0
      have c0 := h.c0
      have lt1 : rk (at_ a).1.2.1 < n := by have := hs.lo a hy; omega
      have lt2 : rk (at_ a).1.2.2 < n := by have := hs.hi a hy; omega
      have DC := hid (fun M L W => hd.call M L W a hy)
      clear hno hy h hn hI
      generalize (at_ a).1.1 = x1 at *
      generalize (at_ a).1.2.1 = x2 at *
      generalize (at_ a).1.2.2 = x3 at *
      go_enter Try.func136, Try.ntmps136
      go_upto_region 0 with (fail)
      refine wp_region_doc (fun F' hF => ?_)
      have HF := hid hF
      clear hF
      repeat (refine doc_val rfl (by first | (go_simp; done) | (go_simp; exact ⟨rfl, rfl⟩) | (go_simp; with_reducible rfl)) ?_; simp only [Act.put, List.setIfInBounds_toArray, List.set_cons_zero, List.set_cons_succ])
      refine doc_call rfl (by first | (go_simp; done) | (go_simp; exact ⟨rfl, rfl⟩) | (go_simp; with_reducible rfl)) ((A.out).mono ?_)
      rintro e w1 ⟨rfl, m1, d1, rfl⟩
      refine ⟨_, rfl, ?_⟩
      simp only [Act.put, List.setIfInBounds_toArray, List.set_cons_zero, List.set_cons_succ]
      repeat (refine doc_val rfl (by first | (go_simp; done) | (go_simp; exact ⟨rfl, rfl⟩) | (go_simp; with_reducible rfl)) ?_; simp only [Act.put, List.setIfInBounds_toArray, List.set_cons_zero, List.set_cons_succ])
      refine doc_skip rfl (store_row_op (xs := [.int .i64 0, .int .i64 0, .int .i64 0]) (ys := [.int .i64 x1, .int .i64 x2, .int .i64 x3]) _ _ _ _ _ _ _ _ _ (branchy_size _ _ _) rfl rfl rfl rfl (by have h := Blk.new (w.ext m1 d1) 39 [.int .i64 0, .int .i64 0, .int .i64 0]; rw [World.size_ext] at h; exact h)) ?_
      simp only [Act.put, List.setIfInBounds_toArray, List.set_cons_zero, List.set_cons_succ]
      repeat (refine doc_val rfl (by first | (go_simp; done) | (go_simp; exact ⟨rfl, rfl⟩) | (go_simp; with_reducible rfl)) ?_; simp only [Act.put, List.setIfInBounds_toArray, List.set_cons_zero, List.set_cons_succ])
      refine doc_end (HF.out _ _ ?_)
      clear HF F'
      go_upto_region 1 with (fail)
      refine wp_gen (fun U hU => ?_)
      have hbU : Below w.heap.size w U := by
        rw [hU]; exact Below.setRow (Below.alloc (Below.ext_mk (Below.refl _ _) (Nat.le_refl _) _ _) (by first | (simp; done) | (simp; omega)) _) (by omega) _
      have bU : Blk U (w.heap.size + m1.size) 39 [.int .i64 x1, .int .i64 x2, .int .i64 x3] := by
        rw [hU]
        have h := Blk.new (w.ext m1 d1) 39 [.int .i64 0, .int .i64 0, .int .i64 0]
        rw [World.size_ext] at h
        exact h.row _
      have hB : w.heap.size ≤ w.heap.size + m1.size := by omega
      generalize w.heap.size + m1.size = B at *
      clear hU
      have H1 := H.out.below hs hbU
      have z1 := H1.z1
      have z3 := H1.z3
      have z4 := H1.z4
      have c1 := H1.c1
      have c3 := H1.c3
      have c4 := H1.c4
      have hlook := fun m d => lookup_run (w := U.ext m d) key_int Try.underlying115 (zero_int _) (MapIs.ext H1.map m d) a false
      simp only [Bool.false_eq_true, if_false] at hlook
      generalize (aget K a).getD 0 = kk at *
      refine wp_region_seq (fun F hF => ?_)
      have HF := hid hF; clear hF
      repeat (first
        | (apply text_skip; (focus rfl); simp only [Act.put, List.setIfInBounds_toArray, List.set_cons_zero, List.set_cons_succ])
        | (apply text_val; (focus rfl); (focus (intro _ _; go_simp; with_reducible rfl)); simp only [Act.put, List.setIfInBounds_toArray, List.set_cons_zero, List.set_cons_succ])
        | (apply text_if; (focus (first | exact wanted_t rfl rfl | exact wanted_f rfl rfl | exact wanted_gt rfl rfl | exact wanted_gf rfl rfl)); (focus (intro hc _ _; (try simp only [Bool.and_eq_true, Bool.not_eq_true', Bool.true_and] at hc); go_simp; with_reducible rfl)); simp only [Act.put, List.setIfInBounds_toArray, List.set_cons_zero, List.set_cons_succ]))
      refine text_nil (HF.out _ (fun mx dx => ?_))
      clear HF F
      go_upto_region 2 with (fail)
      refine wp_gen (fun X hX => ?_)
      have hbX : Below U.heap.size U X := by rw [hX]; (repeat' (first | (with_reducible exact Below.refl _ _) | (with_reducible refine Below.ext_mk ?_ ?_ _ _) | (with_reducible refine Below.alloc ?_ ?_ _) | (with_reducible refine Below.drew ?_) | (with_reducible refine Below.setCell ?_ ?_ _) | go_size))
      clear hX hlook
      have H2 := H1.below hs hbX
      have bX := bU.below hbX
      have zB := bX.lt
      have hBm : B ≠ km := fun e => by have := MapIs.lt H.out.map; omega
      have hBM : B ∉ M := fun e => by have := hd.lt _ _ _ HI.out B e; omega
      obtain ⟨o, u1, u2⟩ := update_run (t := 115) key_int Try.underlying115 H2.map a 1
      have y1 := H2.c1
      have zY := H2.z1
      have hPP := H2.put hs o u2
      have HPP := hid hPP
      have hbwX : Below w.heap.size w X := hbU.trans (hbX.mono hbU.size)
      have HI2 : I M L (X.putObj km o) := hd.keep _ _ _ _ HI.out (fun k hk => (World.heap_putObj_ne _ _ (fun e => H.out.mm (by subst e; exact hk))).trans (hbwX.block k (hd.lt _ _ _ HI.out k hk)))
      have HI2 := hid HI2
      have st03 := hid (show StoStep w (X.putObj km o) (km :: M) (km :: M) from (StoStep.of_below hbwX).trans hPP.2)
      clear hPP u2 hBM
      refine wp_region_doc (fun F' hF => ?_)
      have HF := hid hF
      clear hF
      iterate 2 (refine doc_val rfl (by first | (go_simp; done) | (go_simp; exact ⟨rfl, rfl⟩) | (go_simp; with_reducible rfl)) ?_; simp only [Act.put, List.setIfInBounds_toArray, List.set_cons_zero, List.set_cons_succ])
      refine doc_skip rfl (by first | (go_simp; done) | (go_simp; exact ⟨rfl, rfl⟩) | (go_simp; with_reducible rfl)) ?_
      simp only [Act.put, List.setIfInBounds_toArray, List.set_cons_zero, List.set_cons_succ]
      refine doc_end (HF.out _ _ ?_)
      clear HF F'
      have bZ0 : Blk (X.putObj km o) B 39 [.int .i64 x1, .int .i64 x2, .int .i64 x3] := bX.keep (World.heap_putObj_ne _ _ hBm)
      have H3 := HPP.out.1
      have I1 := ih _ _ L M x2 H3 HI2.out lt1
      obtain ⟨Z, hZ⟩ : ∃ Z, X.putObj km o = Z := ⟨_, rfl⟩
      rw [hZ] at bZ0 H3 I1 st03 ⊢
      have w3 := H3.c3
      have zz3 := H3.z3
      have e1 := bZ0.cell 1
      simp only [List.getElem?_cons_zero, List.getElem?_cons_succ] at e1
      have zB' := bZ0.lt
      clear hZ HPP HI2 y1 zY u1 z0 c0 z1 z3 z4 c1 c3 c4 hbX hbwX bX zB
      go_upto_region 4 with ((with_reducible refine I1.mono ?_); rintro e w1 ⟨rfl, M4, H4, HI4, st4⟩)
      have hBM' : B ∉ km :: M := by
        simp only [List.mem_cons, not_or]
        exact ⟨hBm, fun e => by have := hd.lt _ _ _ HI.out B e; omega⟩
      have b4 := bZ0.keep (st4.block B zB' hBM')
      have g3 := H4.c3
      have gz3 := H4.z3
      have g2 := b4.cell 2
      simp only [List.getElem?_cons_zero, List.getElem?_cons_succ] at g2
      have gB := b4.lt
      have nB4 := st4.keeps zB' hBM'
      have I2 := ih _ _ _ M4 x3 H4 HI4 lt2
      clear I1 w3 zz3 e1 bZ0 ih
      go_upto_region 5 with ((with_reducible refine I2.mono ?_); rintro e w2 ⟨rfl, M5, H5, HI5, st5⟩)
      have b5 := b4.keep (st5.block B gB nB4)
      have f4 := H5.c4
      have fz4 := H5.z4
      rw [hdv] at f4
      have ent := hd.enter
      have D5 := DC.out _ _ _ HI5
      have st35 := (st03.out.trans st4).trans st5
      clear I2 g3 gz3 g2 b4
      refine wp_region_doc (fun F' hF => ?_)
      have HF := hid hF
      clear hF
      iterate 2 (refine doc_val rfl (by first | (go_simp; done) | (go_simp; exact ⟨rfl, rfl⟩) | (go_simp; with_reducible rfl)) ?_; simp only [Act.put, List.setIfInBounds_toArray, List.set_cons_zero, List.set_cons_succ])
      refine doc_val rfl (load_struct_op _ _ _ _ _ _ _ _ Try.underlying39 (branchy_size _ _ _) rfl b5) ?_
      simp only [Act.put, List.setIfInBounds_toArray, List.set_cons_zero, List.set_cons_succ]
      refine doc_call rfl (by first | (go_simp; done) | (go_simp; exact ⟨rfl, rfl⟩) | (go_simp; with_reducible rfl)) (D5.mono ?_)
      rintro _ w3 ⟨rfl, M6, HI6, st6⟩
      refine ⟨_, rfl, ?_⟩
      simp only [Act.put, List.setIfInBounds_toArray, List.set_cons_zero, List.set_cons_succ]
      refine doc_end (HF.out _ _ ?_)
      clear HF F' D5
      go_wp2_with fail
      go_returns
      have lk := MapIs.lt H5.map
      have st6' : StoStep w2 w3 (km :: M5) (km :: M6) := by
        refine ⟨st6.os, st6.tape, st6.output, st6.size, fun k h1 h2 => st6.block k h1 (fun hm => h2 (List.mem_cons_of_mem _ hm)), fun k hk => ?_⟩
        rcases List.mem_cons.1 hk with rfl | hk
        · exact .inl (List.mem_cons_self ..)
        · exact (st6.fresh k hk).imp (fun h => List.mem_cons_of_mem _ h) id
      have kM6 : km ∉ M6 := st6.keeps lk H5.mm
      exact ⟨rfl, M6, H5.step hs st6' (MapIs.keep H5.map (st6.block _ lk H5.mm)) kM6, HI6, st35.trans st6'⟩
end
end Go.Proofs.Ytboekafmplomhaa
