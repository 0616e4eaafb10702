/-
  Package frozen: order.
-/
import Derived.Test.YtboekafmplomhaaZFzO
import Derived.Test.YtboekafmplomhaaZMoveB
set_option linter.unusedVariables false
set_option linter.unusedSimpArgs false
namespace Go.Proofs.Ytboekafmplomhaa
open Go.RowKit

def ordL (at_ : Int → Nd × Bool) (N : Nat) : List (Int × Int) → List Nd → List Int → List Int → List Nd × List Int
  | K, ns, rs, [] => (ns, rs)
  | K, ns, rs, a :: l => ordL at_ N (ordN at_ N K ns a).1 (ordN at_ N K ns a).2.1 (rs ++ [(ordN at_ N K ns a).2.2]) l
theorem ordL_len (at_ : Int → Nd × Bool) (N : Nat) : ∀ (l : List Int) (K : List (Int × Int)) (ns : List Nd) (rs : List Int), ns.length ≤ (ordL at_ N K ns rs l).1.length ∧ (ordL at_ N K ns rs l).2.length = rs.length + l.length
  | [], K, ns, rs => ⟨Nat.le_refl _, by simp [ordL]⟩
  | a :: l, K, ns, rs => by
    have h := ordL_len at_ N l (ordN at_ N K ns a).1 (ordN at_ N K ns a).2.1 (rs ++ [(ordN at_ N K ns a).2.2])
    have h1 := ordN_len at_ N K ns a
    rw [ordL]
    simp only [List.length_append, List.length_cons, List.length_nil] at h ⊢
    omega
theorem Blk.set_same {w : World} {g : Nat} {e : TypeId} {v : Value} (h : Blk w g e [v]) : w.setCell ⟨g, 0, none⟩ v = w := by
  unfold Blk at h
  simp only [World.setCell]
  congr 1
  apply Array.ext_getElem?
  intro i
  rw [Array.getElem?_modify]
  by_cases e : g = i
  · subst e
    rw [if_pos rfl, h]
    rfl
  · rw [if_neg e]
/-- One more number at a row's end. -/
theorem int_one {w : World} {sv : Value} {G : Option Nat} {l : List Int} (h : RowIs w sv G 3 1 l.length (ints l)) (hk : l.length ≤ 8388608) (x : Int) :
    ∃ (v' : Value) (w1 : World) (G' : Nat), (Builtin.append_ #[28, 28] 28 #[sv, .slice (some ⟨w.heap.size, 0, none⟩) 1 1]).run Try.prog (w.alloc (.cells #[.int .i64 x] 3)) = .ok v' w1 ∧
      RowIs w1 v' (some G') 3 1 (l ++ [x]).length (ints (l ++ [x])) ∧ (G = some G' ∨ w.heap.size ≤ G') ∧ StoStep w w1 G.toList [G'] := by
  have lit : (w.alloc (.cells #[.int .i64 x] 3)).heap[w.heap.size]? = some (.cells #[.int .i64 x] 3 (0, 0)) := World.heap_alloc_last w _
  have row : RowIs (w.alloc (.cells #[.int .i64 x] 3)) sv G 3 1 l.length (ints l) := RowIs.keep h (fun g' hg => Below.heap_alloc _ _ _ (RowIs.lt h g' hg))
  obtain ⟨v', w1, G', r1, r2, r3, r4⟩ := append_row (P := Try.prog) 28 28 infoInt (.int .i64 0) 8 Try.underlying28 infoInt_is infoInt_zero infoInt_size infoInt_bytes rfl (by omega) row
    ⟨w.heap.size, 0, none⟩ 1 1 [.int .i64 x] rfl (fun j u hu => by
      rcases j with _ | j
      · simp at hu; subst hu
        show (w.alloc (.cells #[.int .i64 x] 3)).cell? ⟨w.heap.size, 0, none⟩ = _
        simp only [World.cell?]
        rw [lit]; rfl
      · simp at hu) (by simp [Value.oneCell']) (by omega) (by unfold maxLen; omega) (by omega)
  have e : ints (l ++ [x]) = ints l ++ [.int .i64 x] := by simp [ints]
  have hlt := RowIs.lt r2 G' rfl
  refine ⟨v', w1, G', r1, ?_, ?_, r3.os, r3.tape, r3.output, by have := r3.size; simp at this; omega, fun k hk hn => ?_, fun k hk => ?_⟩
  · rw [e, List.length_append]; exact r2
  · rcases r4 with e | ⟨e, _⟩
    · exact .inl e
    · simp at e; exact .inr (by omega)
  · exact (r3.block k (by simp; omega) (fun e => hn (by subst e; simp))).trans (Below.heap_alloc _ _ _ hk)
  · simp only [List.mem_singleton] at hk
    subst hk
    rcases r4 with e | ⟨e, _⟩
    · exact .inl (by rw [e]; simp)
    · simp at e; exact .inr ⟨by omega, hlt⟩
theorem OrdW.away {av : Value} {fa : FuncId} {first cap : Array Value} {F : List Nat} {St : World → Prop} {at_ : Int → Nd × Bool} {rk : Int → Nat} {ok : Int → Prop} {tp : Nat} {w w' : World} {km nb i1 i2 i3 : Nat} {K : List (Int × Int)} {ns : List Nd} {sv : Value} {G : Option Nat}
    (h : OrdW av F St tp w km nb i1 i3 i2 K ns sv G) (hs : AtSrc fa first cap F St at_ rk ok) {A A' : List Nat} (st : StoStep w w' A A') (hA : ∀ k ∈ A, tp ≤ k) (hG : ∀ g, G = some g → g ∉ A) : OrdW av F St tp w' km nb i1 i3 i2 K ns sv G :=
  have hk : ∀ k, k < tp → w'.heap[k]? = w.heap[k]? := fun k h1 => st.block k (Nat.lt_of_lt_of_le h1 h.tw) (fun hm => by have := hA k hm; omega)
  { st := hs.keep w w' h.st (fun k hk' => hk k (h.tF k hk'))
    map := MapIs.keep h.map (hk _ h.tm), blk := h.blk.keep (hk _ h.tn), row := RowIs.keep h.row (fun g hg => st.block g (RowIs.lt h.row g hg) (hG g hg)), gt := h.gt, tw := Nat.le_trans h.tw st.size
    tF := h.tF, tm := h.tm, tn := h.tn, t1 := h.t1, t2 := h.t2, t3 := h.t3, fm := h.fm, fn := h.fn, ne := h.ne
    m1 := h.m1, m2 := h.m2, m3 := h.m3, n1 := h.n1, n2 := h.n2, n3 := h.n3
    c1 := (cell_of_heap 0 (hk _ h.t1)).trans h.c1
    c2 := (cell_of_heap 0 (hk _ h.t2)).trans h.c2
    c3 := (cell_of_heap 0 (hk _ h.t3)).trans h.c3 }
section
variable {av : Value} {fa : FuncId} {first cap : Array Value} {F : List Nat} {St : World → Prop} {at_ : Int → Nd × Bool} {rk : Int → Nat} {ok : Int → Prop}
set_option maxRecDepth 100000 in
set_option maxHeartbeats 16000000 in
theorem order_any (hs : AtSrc fa first cap F St at_ rk ok) (hav : av = .func (.func fa) first cap) {w : World} (hSt : St w) {sv : Value} {l : List Int} (hl : Rd w 1 sv (ints l)) (hlen : l.length ≤ 1000) (N : Nat) (hN : ∀ a ∈ l, rk a < N ∧ ok a)
    (hbnd : (ordL at_ N [(1, 1)] [] [] l).1.length ≤ 8388608) :
    Calls Try.prog 125 #[sv, av] w
      (fun e w' => ∃ s1 s2, e = .returned (.tuple #[s1, s2]) ∧ Rd w' 3 s1 (flat (ordL at_ N [(1, 1)] [] [] l).1) ∧ Rd w' 1 s2 (ints (ordL at_ N [(1, 1)] [] [] l).2) ∧ Below w.heap.size w w') := by
  have hmf : ∀ (fn : Fn) (first cap : Array Value) (w : World), (Instr.makeFunc fn first cap).run Try.prog w = .ok (.func fn first cap) w := fun _ _ _ _ => rfl
  have hmm := @run_makeMap Try.prog
  obtain ⟨la, lc, rfl, hlc, hlm⟩ := hl.len
  have HL := hid hl
  have HN := hid hN
  have HS := hid hSt
  have hF0 := hs.lt _ hSt
  have HBN := hid hbnd
  clear hl hN hSt hbnd
  go_enter Try.func125, Try.ntmps125
  go_upto_region 1 with (fail)
  refine wp_gen (fun U hU => ?_)
  have hbU : Below w.heap.size w U := by rw [hU]; (repeat' (first | (with_reducible exact Below.refl _ _) | (with_reducible refine Below.ext_mk ?_ ?_ _ _) | (with_reducible refine Below.alloc ?_ ?_ _) | (with_reducible refine Below.drew ?_) | (with_reducible refine Below.setCell ?_ ?_ _) | go_size))
  have c1U : U.cell? ⟨w.heap.size, 0, none⟩ = some av := by rw [hU]; go_simp
  have bnU : Blk U (w.heap.size + 1) 43 [.slice none 0 0] := by
    rw [hU]
    have h := World.heap_alloc_last (w.alloc (.cells #[.func (.func fa) first cap] 41)) (.cells #[.slice none 0 0] 43)
    rw [World.size_alloc] at h
    exact h
  have zU : w.heap.size + 1 < U.heap.size := by rw [hU]; simp
  clear hU
  have m0 : MapIs ki (U.alloc (.map #[] 0)) U.heap.size [] := ⟨#[], 0, World.heap_alloc_last U _, rfl⟩
  obtain ⟨o, u1, u2⟩ := update_run (t := 115) key_int Try.underlying115 m0 1 1
  have HU2 := hid u2
  clear u2 m0
  refine wp_region_doc (fun F' hF => ?_)
  have HF := hid hF
  clear hF
  refine doc_val rfl (by first | (go_simp; done) | (go_simp; exact ⟨rfl, rfl⟩) | (go_simp; with_reducible rfl)) ?_
  simp only [Act.put, List.setIfInBounds_toArray, List.set_cons_zero, List.set_cons_succ]
  refine doc_skip rfl (by first | (go_simp; done) | (go_simp; exact ⟨rfl, rfl⟩) | (go_simp; with_reducible rfl)) ?_
  simp only [Act.put, List.setIfInBounds_toArray, List.set_cons_zero, List.set_cons_succ]
  iterate 2 (refine doc_val rfl (by first | (go_simp; done) | (go_simp; exact ⟨rfl, rfl⟩) | (go_simp; with_reducible rfl)) ?_; simp only [Act.put, List.setIfInBounds_toArray, List.set_cons_zero, List.set_cons_succ])
  refine doc_skip rfl (by first | (go_simp; done) | (go_simp; exact ⟨rfl, rfl⟩) | (go_simp; with_reducible rfl)) ?_
  simp only [Act.put, List.setIfInBounds_toArray, List.set_cons_zero, List.set_cons_succ]
  refine doc_end (HF.out _ _ ?_)
  clear HF F' u1
  go_upto_region 4 with (fail)
  refine wp_gen (fun V hV => ?_)
  have m1 : MapIs ki ((U.alloc (.map #[] 0)).putObj U.heap.size o) U.heap.size (aput [] 1 1) := HU2.out
  have zp : ((U.alloc (.map #[] 0)).putObj U.heap.size o).heap.size = U.heap.size + 1 := by simp [World.putObj]
  have hbP : Below U.heap.size U ((U.alloc (.map #[] 0)).putObj U.heap.size o) := by
    refine (Below.alloc (Below.refl _ _) (Nat.le_refl _) _).trans ((StoStep.put (F := [U.heap.size]) (by simp) o).below (fun k hk => by simp at hk; omega) (by simp))
  obtain ⟨Pw, hPw⟩ : ∃ P, (U.alloc (.map #[] 0)).putObj U.heap.size o = P := ⟨_, rfl⟩
  rw [hPw] at m1 zp hbP hV
  have hbV : Below U.heap.size U V := by rw [hV]; exact (hbP.alloc (by omega) _).alloc (by simp; omega) _
  have kM : MapIs ki V U.heap.size [(1, 1)] := by
    have q : MapIs ki V U.heap.size (aput [] 1 1) := by rw [hV]; exact MapIs.keep m1 ((Below.heap_alloc _ _ _ (by simp; omega)).trans (Below.heap_alloc _ _ _ (by omega)))
    exact q
  have k2 : V.cell? ⟨U.heap.size + 1, 0, none⟩ = some (.map (some U.heap.size)) := by
    rw [hV]
    have h := World.heap_alloc_last Pw (.cells #[.map (some U.heap.size)] 115)
    rw [zp] at h
    simp only [World.cell?]
    rw [Below.heap_alloc _ _ _ (by simp; omega), h]
    rfl
  have k3 : V.cell? ⟨U.heap.size + 1 + 1, 0, none⟩ = some (.func (.func 145) #[] #[.pointer (some ⟨w.heap.size, 0, none⟩), .pointer (some ⟨U.heap.size + 1, 0, none⟩), .pointer (some ⟨U.heap.size + 1 + 1, 0, none⟩), .pointer (some ⟨w.heap.size + 1, 0, none⟩)]) := by
    rw [hV]
    have h := World.heap_alloc_last (Pw.alloc (.cells #[.map (some U.heap.size)] 115)) (.cells #[.func (.func 145) #[] #[.pointer (some ⟨w.heap.size, 0, none⟩), .pointer (some ⟨U.heap.size + 1, 0, none⟩), .pointer (some ⟨U.heap.size + 1 + 1, 0, none⟩), .pointer (some ⟨w.heap.size + 1, 0, none⟩)]] 51)
    rw [World.size_alloc, zp] at h
    simp only [World.cell?]
    rw [h]
    rfl
  have zV : V.heap.size = U.heap.size + 1 + 1 + 1 := by rw [hV]; simp [zp]
  have hbwV : Below w.heap.size w V := hbU.trans (hbV.mono hbU.size)
  have hsz := hbU.size
  have hE : OrdW av F St V.heap.size V U.heap.size (w.heap.size + 1) w.heap.size (U.heap.size + 1 + 1) (U.heap.size + 1) [(1, 1)] [] (.slice none 0 0) none :=
    { st := hs.keep _ _ HS.out (fun k hk => hbwV.block k (hF0 k hk)), map := kM, blk := bnU.below hbV, row := ⟨rfl, .inl ⟨rfl, rfl, rfl⟩⟩
      gt := fun g hg => by cases hg
      tw := Nat.le_refl _, tF := fun k hk => by have := hF0 k hk; omega, tm := by omega, tn := by omega, t1 := by omega, t2 := by omega, t3 := by omega
      fm := fun h => by have := hF0 _ h; omega, fn := fun h => by have := hF0 _ h; omega, ne := by omega
      m1 := by omega, m2 := by omega, m3 := by omega, n1 := by omega, n2 := by omega, n3 := by omega
      c1 := (hbV.cell (p := ⟨w.heap.size, 0, none⟩) (show w.heap.size < U.heap.size by omega)).trans c1U, c2 := k2, c3 := k3 }
  have HE := hid hE
  have HBV := hid (And.intro hbwV (show w.heap.size ≤ U.heap.size from hsz))
  have htp : w.heap.size ≤ V.heap.size := hbwV.size
  clear hV m1 zp hbP hPw hbV kM k2 k3 hE hbwV hbU c1U bnU zU HU2 hmm hmf hF0 HS
  obtain ⟨i1, hi1⟩ : ∃ i, i = w.heap.size := ⟨_, rfl⟩
  obtain ⟨nb, hnb⟩ : ∃ i, i = i1 + 1 := ⟨_, rfl⟩
  obtain ⟨km, hkm⟩ : ∃ i, i = U.heap.size := ⟨_, rfl⟩
  obtain ⟨i2, hi2⟩ : ∃ i, i = km + 1 := ⟨_, rfl⟩
  obtain ⟨i3, hi3⟩ : ∃ i, i = i2 + 1 := ⟨_, rfl⟩
  obtain ⟨tp, htp0⟩ : ∃ i, i = V.heap.size := ⟨_, rfl⟩
  rw [← hi1, ← hnb, ← hkm, ← hi2, ← hi3] at HE ⊢
  rw [← htp0] at HE htp
  have HI := hid (And.intro hi1 (And.intro hnb (And.intro hkm hsz)))
  have HTP := hid htp
  clear hi1 hnb hkm hi2 hi3 htp0 hsz htp
  go_wp2_with fail
  go_loopw [5, 15] (fun ov iv wr => ∃ (j : Nat) (K : List (Int × Int)) (ns : List Nd) (rs : List Int) (sn : Value) (G Go : Option Nat), j ≤ l.length ∧ iv = .int .i64 j ∧ OrdW av F St tp wr km nb i1 i3 i2 K ns sn G ∧
      RowIs wr ov Go 3 1 rs.length (ints rs) ∧ (∀ g, Go = some g → tp ≤ g ∧ G ≠ some g) ∧ rs.length = j ∧ Below w.heap.size w wr ∧ ordL at_ N K ns rs (l.drop j) = ordL at_ N [(1, 1)] [] [] l) (fun _ iv _ => l.length - (intOf iv).toNat)
  case atStart => exact ⟨0, [(1, 1)], [], [], .slice none 0 0, none, none, by omega, rfl, HE.out, ⟨rfl, .inl ⟨rfl, rfl, rfl⟩⟩, (fun g hg => by cases hg), rfl, HBV.out.1, rfl⟩
  case round =>
    obtain ⟨j, K, ns, rs, sn, G, Go, hj, rfl, hW, hrow, hGo, hrl, hb, heq⟩ := hrel
    have HW := hid hW
    have HROW := hid hrow
    have HGO := hid hGo
    have HRL := hid hrl
    have HB := hid hb
    have HEQ := hid heq
    clear hW hrow hGo hrl hb heq
    by_cases hlt : j < l.length
    · have hj1 : (j : Int) < (l.length : Int) := by omega
      have L1 := HL.out.below HB.out
      obtain ⟨b, off, rfl, hb1, c⟩ := Rd.intAt L1 hlt
      obtain ⟨v, hv⟩ : ∃ v, v = l[j] := ⟨_, rfl⟩
      have rkv : rk v < N ∧ ok v := HN.out v (by rw [hv]; exact List.getElem_mem _)
      rw [← hv] at c
      clear L1
      have ev : (l.drop j) = v :: l.drop (j + 1) := by rw [hv]; exact List.drop_eq_getElem_cons hlt
      have hlen2 : (ordN at_ N K ns v).2.1.length ≤ 8388608 := by
        have h1 := HEQ.out
        rw [ev, ordL] at h1
        have h2 := (ordL_len at_ N (l.drop (j + 1)) (ordN at_ N K ns v).1 (ordN at_ N K ns v).2.1 (rs ++ [(ordN at_ N K ns v).2.2])).1
        rw [h1] at h2
        have := HBN.out
        omega
      clear hv
      have HEV := hid ev
      clear ev
      have c3 := HW.out.c3
      have z3 : i3 < wr.heap.size := Nat.lt_of_lt_of_le HW.out.t3 HW.out.tw
      have C := hid (ord1_any hs hav N wr K ns sn G v HW.out rkv.2 rkv.1 hlen2)
      obtain ⟨so, sc, rfl, _⟩ := RowIs.form HROW.out
      obtain ⟨R, hR⟩ : ∃ R, ordN at_ N K ns v = R := ⟨_, rfl⟩
      have HR := hid hR
      rw [hR] at C
      obtain ⟨K1, ns1, r1⟩ := R
      simp only at C
      clear rkv hlen2 hR
      go_upto_region 7 with (fail)
      refine wp_region_doc (fun F' hF => ?_)
      have HF := hid hF
      clear hF
      iterate 3 (refine doc_val rfl (by first | (go_simp; done) | (go_simp; exact ⟨rfl, rfl⟩) | (go_simp; with_reducible rfl)) ?_; simp only [Act.put, List.setIfInBounds_toArray, List.set_cons_zero, List.set_cons_succ])
      refine doc_call rfl (by first | (go_simp; done) | (go_simp; exact ⟨rfl, rfl⟩) | (go_simp; with_reducible rfl)) ((C.out).mono ?_)
      rintro _ w2 ⟨rfl, sn1, G1, H4, st4⟩
      refine ⟨_, rfl, ?_⟩
      simp only [Act.put, List.setIfInBounds_toArray, List.set_cons_zero, List.set_cons_succ]
      have hnot : ∀ g, Go = some g → g ∉ km :: nb :: G.toList := fun g hg hm => by
        obtain ⟨h1, h2⟩ := HGO.out g hg
        have h3 := HW.out.tm
        have h4 := HW.out.tn
        simp only [List.mem_cons, Option.mem_toList] at hm
        rcases hm with e | e | e
        · omega
        · omega
        · exact h2 e
      have row2 : RowIs w2 (.slice so rs.length sc) Go 3 1 rs.length (ints rs) := RowIs.keep HROW.out (fun g hg => st4.block g (RowIs.lt HROW.out g hg) (hnot g hg))
      have hG1 : ∀ g, Go = some g → G1 ≠ some g := fun g hg e => st4.keeps (RowIs.lt HROW.out g hg) (hnot g hg) (by rw [e]; simp)
      obtain ⟨v', w3, Go', q1, q2, q3, q4⟩ := int_one row2 (by have := HRL.out; omega) r1
      have H5 := hid (H4.away hs q4 (fun k hk => by simp at hk; exact (HGO.out k hk).1) (fun g hg hm => by simp at hm; exact hG1 g hm hg))
      have hGo' : ∀ g, some Go' = some g → tp ≤ g ∧ G1 ≠ some g := fun g hg => by
        cases hg
        rcases q3 with e | e
        · exact ⟨(HGO.out _ e).1, hG1 _ e⟩
        · refine ⟨?_, fun h => ?_⟩
          · have := H4.tw; omega
          · have := RowIs.lt H4.row _ h; omega
      have hb2 : Below w.heap.size w w2 := HB.out.trans (st4.below (fun k hk => by
        have h1 := HI.out
        have h2 := HTP.out
        simp only [List.mem_cons, Option.mem_toList] at hk
        rcases hk with e | e | e
        · omega
        · omega
        · have := HW.out.gt k e; omega) HB.out.size)
      have hb3 : Below w.heap.size w w3 := hb2.trans (q4.below (fun k hk => by
        simp at hk
        have := (HGO.out k hk).1
        have := HTP.out
        omega) hb2.size)
      have Q1 := hid q1
      have Q2 := hid q2
      have HB3 := hid hb3
      have HGO2 := hid hGo'
      clear q1 q2 q3 q4 row2 hb2 hb3 hGo' hG1 hnot H4 st4 C c3 z3
      refine doc_val rfl (by first | (go_simp; done) | (go_simp; exact ⟨rfl, rfl⟩) | (go_simp; with_reducible rfl)) ?_
      simp only [Act.put, List.setIfInBounds_toArray, List.set_cons_zero, List.set_cons_succ]
      refine doc_val rfl (run_append_op _ _ _ _ _ _ _ _ _ Q1.out) ?_
      simp only [Act.put, List.setIfInBounds_toArray, List.set_cons_zero, List.set_cons_succ]
      refine doc_val rfl (by first | (go_simp; done) | (go_simp; exact ⟨rfl, rfl⟩) | (go_simp; with_reducible rfl)) ?_
      simp only [Act.put, List.setIfInBounds_toArray, List.set_cons_zero, List.set_cons_succ]
      refine doc_end (HF.out _ _ ?_)
      clear HF F' Q1
      go_wp2_with fail
      go_roundw
      case rel =>
        refine ⟨j + 1, K1, ns1, rs ++ [r1], sn1, G1, some Go', by omega, by go_num, H5.out, Q2.out, HGO2.out, by have := HRL.out; simp; omega, HB3.out, ?_⟩
        have h1 := HEQ.out
        rw [HEV.out, ordL, HR.out] at h1
        exact h1
      case measure => simp [intOf]; omega
    · obtain rfl : j = l.length := by omega
      have HX := hid (show ordL at_ N [(1, 1)] [] [] l = (ns, rs) by have := HEQ.out; rw [List.drop_length, ordL] at this; exact this.symm)
      have cc := HW.out.blk.cell 0
      have ff := HW.out.blk.free 0
      have zz := HW.out.blk.lt
      have e0 := Blk.set_same HW.out.blk
      simp only [List.getElem?_cons_zero] at cc
      obtain ⟨so, sc, rfl, _⟩ := RowIs.form HROW.out
      obtain ⟨sa, sac, rfl, _⟩ := RowIs.form HW.out.row
      go_wp2_with fail
      refine bodyPost_ret (v := .tuple #[.slice sa ns.length sac, .slice so rs.length sc]) (by simp [results, Try.results125, go_sem, cc]) rfl ?_
      refine ⟨_, _, rfl, ?_, ?_, HB.out⟩
      · rw [HX.out]; exact RowIs.rd HW.out.row
      · rw [HX.out]; exact RowIs.rd HROW.out
end
end Go.Proofs.Ytboekafmplomhaa
