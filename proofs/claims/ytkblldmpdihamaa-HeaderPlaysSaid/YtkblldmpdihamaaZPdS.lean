/-
  Packets in plain Lean, and what the program's and the document's packets hold.
-/
import Derived.Test.YtkblldmpdihamaaZBackN
import Derived.Test.YtkblldmpdihamaaZLawHF
set_option linter.unusedVariables false
set_option linter.unusedSimpArgs false
namespace Go.Proofs.Ytkblldmpdihamaa
open Go.RowKit

/-- A packet: its bytes, which headers are valid, the fields, whether an invalid one was read. -/
structure PD where
  l : List Nat
  va : List Bool
  nss : List (List (BitVec 128))
  acc : Bool
structure PD.Ok (S : PD) (hs : List (SL × List Int)) : Prop where
  va : S.va.length = hs.length
  nss : S.nss.map List.length = hs.map (fun x => x.2.length)
  few : S.l.length ≤ 400
  bytes : ∀ x ∈ S.l, x < 256
theorem PD.Ok.nl {S : PD} {hs : List (SL × List Int)} (h : S.Ok hs) : S.nss.length = hs.length := by have := congrArg List.length h.nss; simpa using this
theorem PD.Ok.at {S : PD} {hs : List (SL × List Int)} (h : S.Ok hs) {i : Nat} {ns : List (BitVec 128)} (hi : S.nss[i]? = some ns) : ∃ x, hs[i]? = some x ∧ ns.length = x.2.length := by
  have h1 := (List.getElem?_eq_some_iff.1 hi).1
  have h2 : i < hs.length := by have := h.nl; omega
  have h3 := congrArg (fun l => l[i]?) h.nss
  simp only [List.getElem?_map, hi, List.getElem?_eq_getElem h2, Option.map_some] at h3
  exact ⟨hs[i], List.getElem?_eq_getElem h2, by simpa using h3⟩

/-- A slice of some elements that lies in none of these blocks. -/
def AwayN (s : SL) (L : List Nat) : Prop := 0 < s.n → Away s L
/-- A packet that is only read, away from some blocks. -/
structure DocIs (w : World) (L : List Nat) (k : PK) (l : List Nat) (va : List Bool) (fs : NumRows) (mt : List (BitVec 128)) : Prop where
  rest : RdS w 1 k.rest (byts l)
  valid : RdS w 1 k.valid (bools va)
  frd : FieldsAre w k.fields fs
  metas : RdS w 2 k.metas (nums mt)
  a1 : AwayN k.rest L
  a2 : AwayN k.valid L
  a3 : AwayN k.fields L
  a4 : AwayN k.metas L
  a5 : ∀ x ∈ fs, AwayN x.1 L
section
variable {w w' : World} {L L' : List Nat} {k : PK} {l : List Nat} {va : List Bool} {fs : NumRows} {mt : List (BitVec 128)}
theorem Away.sub {s : SL} (h : Away s L) (hs : ∀ q ∈ L', q ∈ L) : Away s L' := fun b off e hm => h b off e (hs b hm)
theorem AwayN.sub {s : SL} (h : AwayN s L) (hs : ∀ q ∈ L', q ∈ L) : AwayN s L' := fun h0 => (h h0).sub hs
theorem Turn.rdN (t : Turn w w' L') {n : Nat} {s : SL} {xs : List Value} (r : RdS w n s xs) (ha : AwayN s L') : RdS w' n s xs := by
  rcases Nat.eq_zero_or_pos s.n with h0 | h0
  · exact ⟨r.1, r.2.1, r.2.2.1, fun h => by omega⟩
  · exact t.rd r (ha h0)
theorem RdS.awayN {n : Nat} {s : SL} {xs : List Value} (r : RdS w n s xs) (h : ∀ q ∈ L, w.heap.size ≤ q) : AwayN s L := fun h0 b off e hm => by
  obtain ⟨b', o', e', hb, _⟩ := r.2.2.2 h0
  rw [e] at e'
  cases e'
  have := h _ hm
  omega
theorem DocIs.turn (D : DocIs w L k l va fs mt) (t : Turn w w' L') (hs : ∀ q ∈ L', q ∈ L) : DocIs w' L k l va fs mt :=
  ⟨t.rdN D.rest (D.a1.sub hs), t.rdN D.valid (D.a2.sub hs), ⟨t.rdN D.frd.row (D.a3.sub hs), fun x hx => t.rdN (D.frd.each x hx) ((D.a5 x hx).sub hs)⟩, t.rdN D.metas (D.a4.sub hs), D.a1, D.a2, D.a3, D.a4, D.a5⟩
/-- More blocks, that were not there when the packet was read first. -/
theorem DocIs.more {w0 : World} (D0 : DocIs w0 L k l va fs mt) (D : DocIs w L k l va fs mt) (h : ∀ q ∈ L', w0.heap.size ≤ q) : DocIs w (L' ++ L) k l va fs mt := by
  have ap : ∀ {s : SL}, AwayN s L' → AwayN s L → AwayN s (L' ++ L) := fun h1 h2 h0 b off e hm => by
    rcases List.mem_append.1 hm with hm | hm
    · exact h1 h0 b off e hm
    · exact h2 h0 b off e hm
  exact ⟨D.rest, D.valid, D.frd, D.metas, ap (D0.rest.awayN h) D.a1, ap (D0.valid.awayN h) D.a2, ap (D0.frd.row.awayN h) D.a3, ap (D0.metas.awayN h) D.a4, fun x hx => ap ((D0.frd.each x hx).awayN h) (D.a5 x hx)⟩
theorem DocIs.below (D : DocIs w L k l va fs mt) (hb : Below w.heap.size w w') : DocIs w' L k l va fs mt := D.turn (Turn.of_below hb : Turn w w' []) (fun q hq => by simp at hq)
end
/-- The document's packet. -/
def Doc (w : World) (L : List Nat) (port : Int) (mt : List (BitVec 128)) (S : PD) (k : PK) : Prop :=
  ∃ fs : NumRows, DocIs w L k S.l S.va fs mt ∧ fs.map (fun x => x.2) = S.nss ∧ k.port = port ∧ k.dropped = false ∧ k.sent = false ∧ k.egress = 0 ∧ k.access = S.acc
theorem Doc.turn {w w' : World} {L L' : List Nat} {port : Int} {mt : List (BitVec 128)} {S : PD} {k : PK} (D : Doc w L port mt S k) (t : Turn w w' L') (hs : ∀ q ∈ L', q ∈ L) : Doc w' L port mt S k := by
  obtain ⟨fs, h, r⟩ := D
  exact ⟨fs, h.turn t hs, r⟩
theorem Doc.below {w w' : World} {L : List Nat} {port : Int} {mt : List (BitVec 128)} {S : PD} {k : PK} (D : Doc w L port mt S k) (hb : Below w.heap.size w w') : Doc w' L port mt S k := by
  obtain ⟨fs, h, r⟩ := D
  exact ⟨fs, h.below hb, r⟩
/-- The program's packet; its bytes, its row of fields, its metadata lie in none of the blocks M. -/
def Prg (w : World) (M : List Nat) (b vb : Nat) (gs : List Nat) (port : Int) (mt : List (BitVec 128)) (S : PD) : Prop :=
  ∃ k : PK, PktIs w b vb gs k S.l S.va S.nss mt ∧ (AwayN k.rest M ∧ AwayN k.fields M ∧ AwayN k.metas M) ∧ k.port = port ∧ k.dropped = false ∧ k.sent = false ∧ k.egress = 0 ∧ k.access = S.acc
theorem Prg.below {w w' : World} {M : List Nat} {b vb : Nat} {gs : List Nat} {port : Int} {mt : List (BitVec 128)} {S : PD} (D : Prg w M b vb gs port mt S) (hb : Below w.heap.size w w') : Prg w' M b vb gs port mt S := by
  obtain ⟨k, h, r⟩ := D
  exact ⟨k, h.below hb, r⟩
theorem Prg.turn {w w' : World} {M M' : List Nat} {b vb : Nat} {gs : List Nat} {port : Int} {mt : List (BitVec 128)} {S : PD} (D : Prg w M b vb gs port mt S) (t : Turn w w' M') (hs : ∀ q ∈ M', q ∈ M) (hd : ∀ q ∈ M', q ∉ b :: vb :: gs) : Prg w' M b vb gs port mt S := by
  obtain ⟨k, P, ⟨a1, a2, a3⟩, r⟩ := D
  have hn : ∀ q ∈ b :: vb :: gs, q ∉ M' := fun q hq hm => hd q hm hq
  refine ⟨k, ⟨t.blk P.blk (hn _ (by simp)), t.rdN P.rest (a1.sub hs), P.bytes, P.valid, t.blk P.vblk (hn _ (by simp)), t.rdN P.row (a2.sub hs), P.len, fun i g ns hg hn' => t.blk (P.each i g ns hg hn') (hn _ (by simp [List.mem_of_getElem? hg])), t.rdN P.metas (a3.sub hs), P.nodup, P.few, P.aRest, P.aRow, P.aMet⟩, ⟨a1, a2, a3⟩, r⟩

/-- Is there such a field? -/
def thereB (nss : List (List (BitVec 128))) (h f : Int) : Bool := decide (0 ≤ h) && (decide (h < (nss.length : Int)) && (decide (0 ≤ f) && decide (f < ((nss.getD h.toNat []).length : Int))))
def PD.take (hs : List (SL × List Int)) (S : PD) (h : Int) : Option PD :=
  if 0 ≤ h ∧ h < (hs.length : Int) ∧ S.va.getD h.toNat true = false ∧ (headAt hs h).2.sum / 8 ≤ (S.l.length : Int) then
    some { S with l := S.l.drop ((headAt hs h).2.sum / 8).toNat, va := S.va.set h.toNat true, nss := S.nss.set h.toNat (takeN S.l 0 (headAt hs h).2) }
  else none
def PD.get (S : PD) (h f : Int) : BitVec 128 × PD :=
  if thereB S.nss h f = true then (if S.va.getD h.toNat false = true then ((S.nss.getD h.toNat []).getD f.toNat 0#128, S) else (((S.nss.getD h.toNat []).getD f.toNat 0#128), { S with acc := true })) else (0#128, S)
def PD.set (hs : List (SL × List Int)) (S : PD) (h f : Int) (n : BitVec 128) : PD :=
  if thereB S.nss h f = true then (if S.va.getD h.toNat false = true then { S with nss := S.nss.set h.toNat ((S.nss.getD h.toNat []).set f.toNat (n &&& maskOf ((headAt hs h).2.getD f.toNat 0))) } else { S with acc := true }) else S
def PD.on (S : PD) (h : Int) (on : Bool) : PD :=
  if 0 ≤ h ∧ h < (S.va.length : Int) ∧ S.va.getD h.toNat on ≠ on then { S with va := S.va.set h.toNat on, nss := S.nss.set h.toNat (List.replicate (S.nss.getD h.toNat []).length 0#128) } else S

theorem takeN_lt (l : List Nat) : True := trivial
section
variable {S : PD} {hs : List (SL × List Int)}
theorem PD.Ok.setN {h : Nat} {ns ns' : List (BitVec 128)} {va' : List Bool} {acc : Bool} (O : S.Ok hs) (hn : S.nss[h]? = some ns) (hl : ns'.length = ns.length) (hv : va'.length = S.va.length) : PD.Ok ⟨S.l, va', S.nss.set h ns', acc⟩ hs :=
  ⟨by rw [← O.va]; exact hv, by rw [← O.nss]; exact set_lengths hn hl, O.few, O.bytes⟩
theorem PD.Ok.acc (O : S.Ok hs) (b : Bool) : PD.Ok { S with acc := b } hs := ⟨O.va, O.nss, O.few, O.bytes⟩
theorem PD.Ok.get (O : S.Ok hs) (h f : Int) : (S.get h f).2.Ok hs := by
  unfold PD.get
  split
  · split
    · exact O
    · exact O.acc true
  · exact O
theorem thereB_at {nss : List (List (BitVec 128))} {h f : Int} (ht : thereB nss h f = true) : ∃ (i j : Nat) (ns : List (BitVec 128)), h = (i : Int) ∧ f = (j : Int) ∧ nss[i]? = some ns ∧ j < ns.length := by
  unfold thereB at ht
  simp only [Bool.and_eq_true, decide_eq_true_eq] at ht
  obtain ⟨h0, h1, f0, f1⟩ := ht
  have hi : h.toNat < nss.length := by omega
  refine ⟨h.toNat, f.toNat, nss[h.toNat], by omega, by omega, List.getElem?_eq_getElem hi, ?_⟩
  rw [List.getD_eq_getElem?_getD, List.getElem?_eq_getElem hi] at f1
  simp only [Option.getD_some] at f1
  omega
theorem PD.Ok.set (O : S.Ok hs) (h f : Int) (n : BitVec 128) : (S.set hs h f n).Ok hs := by
  unfold PD.set
  split
  · rename_i ht
    obtain ⟨i, j, ns, rfl, rfl, hn, hj⟩ := thereB_at ht
    split
    · refine O.setN (ns := ns) (by simpa using hn) ?_ rfl
      rw [List.getD_eq_getElem?_getD, Int.toNat_natCast, hn]; simp
    · exact O.acc true
  · exact O
theorem PD.Ok.on (O : S.Ok hs) (h : Int) (on : Bool) : (S.on h on).Ok hs := by
  unfold PD.on
  split
  · rename_i ht
    obtain ⟨h0, h1, _⟩ := ht
    have hi : h.toNat < S.nss.length := by have := O.nl; have := O.va; omega
    refine O.setN (List.getElem?_eq_getElem hi) ?_ (by simp)
    rw [List.length_replicate, List.getD_eq_getElem?_getD, List.getElem?_eq_getElem hi]; rfl
  · exact O
theorem PD.Ok.take (O : S.Ok hs) (h : Int) {S' : PD} (e : S.take hs h = some S') : S'.Ok hs := by
  unfold PD.take at e
  split at e
  · rename_i ht
    obtain ⟨h0, h1, _⟩ := ht
    cases e
    have hi : h.toNat < S.nss.length := by have := O.nl; omega
    obtain ⟨x, hx, hl⟩ := O.at (List.getElem?_eq_getElem hi)
    have hA : headAt hs h = x := by unfold headAt; rw [if_neg (by omega), hx]; rfl
    exact ⟨by simp [O.va], by simp only; rw [← O.nss]; exact set_lengths (List.getElem?_eq_getElem hi) (by rw [takeN_length, hA, hl]), by simp only [List.length_drop]; have := O.few; omega, fun y hy => O.bytes y (List.mem_of_mem_drop hy)⟩
  · cases e
end

section
variable {w : World} {k : PK} {fs : NumRows} {nss : List (List (BitVec 128))}
set_option maxRecDepth 100000 in
theorem there_any (F : FieldsAre w k.fields fs) (hfs : fs.map (fun x => x.2) = nss) (h f : Int) :
    Calls Try.prog 56 #[k.v, .int .i64 h, .int .i64 f] w (Pure (.bool (thereB nss h f)) w) := by
  have hl : k.fields.n = nss.length := by rw [F.len, ← hfs]; simp
  have FH := hid F
  clear F
  obtain ⟨port, rest, vl, ⟨fa, fn, fc⟩, mt, dr, se, eg, ac⟩ := k
  simp only at hl
  subst hl
  by_cases h0 : 0 ≤ h
  · by_cases h1 : h < (nss.length : Int)
    · obtain ⟨i, rfl⟩ : ∃ i : Nat, h = (i : Int) := ⟨h.toNat, by omega⟩
      have hi : i < nss.length := by omega
      obtain ⟨s, hs⟩ := fmap_at hfs hi
      obtain ⟨rb, ro, er, zr, _, cr⟩ := FH.out.row.one (i := i) (u := s.v) (by rw [List.getElem?_map, hs]; rfl)
      have hn := (FH.out.each _ (List.mem_of_getElem? hs)).2.2.1
      rw [nums_length] at hn
      simp only at er hn
      subst er
      have e : thereB nss (i : Int) f = (decide (0 ≤ f) && decide (f < (s.n : Int))) := by
        unfold thereB
        rw [decide_eq_true h0, decide_eq_true h1, Int.toNat_natCast, List.getD_eq_getElem?_getD, List.getElem?_eq_getElem hi]
        simp only [Option.getD_some, Bool.true_and, show nss[i].length = s.n by omega]
      rw [e]
      clear e hs hn hfs FH
      obtain ⟨sa, sn, sc⟩ := s
      simp only [SL.v_mk] at cr ⊢
      by_cases h2 : 0 ≤ f <;> by_cases h3 : f < (sn : Int)
      all_goals
        go_enter Try.func56, Try.ntmps56
        go_upto_region 1 with (fail)
        refine wp_region_seq (fun F hF => ?_)
        have HF := hid hF; clear hF
        repeat (first
          | (apply text_skip; (focus rfl); simp only [Act.put, List.setIfInBounds_toArray, List.set_cons_zero, List.set_cons_succ])
          | (apply text_val; (focus rfl); (focus (intro _ _; go_simp; with_reducible rfl)); simp only [Act.put, List.setIfInBounds_toArray, List.set_cons_zero, List.set_cons_succ])
          | (apply text_if; (focus (first | exact wanted_t rfl rfl | exact wanted_f rfl rfl | exact wanted_gt rfl rfl | exact wanted_gf rfl rfl)); (focus (intro hc _ _; (try simp only [Bool.and_eq_true, Bool.not_eq_true', Bool.true_and] at hc); go_simp; with_reducible rfl)); simp only [Act.put, List.setIfInBounds_toArray, List.set_cons_zero, List.set_cons_succ]))
        refine text_nil (HF.out _ (fun mx dx => ?_))
        clear HF F
        go_wp2_with fail
        go_returns
        exact Pure.of (by simp [h2, h3]) (by (repeat' (first | (with_reducible exact Below.refl _ _) | (with_reducible refine Below.ext_mk ?_ ?_ _ _) | (with_reducible refine Below.alloc ?_ ?_ _) | (with_reducible refine Below.drew ?_) | (with_reducible refine Below.setCell ?_ ?_ _) | go_size)))
    · have e : thereB nss h f = false := by unfold thereB; simp [h1]
      rw [e]
      clear e hfs FH
      go_enter Try.func56, Try.ntmps56
      go_upto_region 1 with (fail)
      refine wp_region_seq (fun F hF => ?_)
      have HF := hid hF; clear hF
      repeat (first
        | (apply text_skip; (focus rfl); simp only [Act.put, List.setIfInBounds_toArray, List.set_cons_zero, List.set_cons_succ])
        | (apply text_val; (focus rfl); (focus (intro _ _; go_simp; with_reducible rfl)); simp only [Act.put, List.setIfInBounds_toArray, List.set_cons_zero, List.set_cons_succ])
        | (apply text_if; (focus (first | exact wanted_t rfl rfl | exact wanted_f rfl rfl | exact wanted_gt rfl rfl | exact wanted_gf rfl rfl)); (focus (intro hc _ _; (try simp only [Bool.and_eq_true, Bool.not_eq_true', Bool.true_and] at hc); go_simp; with_reducible rfl)); simp only [Act.put, List.setIfInBounds_toArray, List.set_cons_zero, List.set_cons_succ]))
      refine text_nil (HF.out _ (fun mx dx => ?_))
      clear HF F
      go_wp2_with fail
      go_returns
      exact Pure.of rfl (by (repeat' (first | (with_reducible exact Below.refl _ _) | (with_reducible refine Below.ext_mk ?_ ?_ _ _) | (with_reducible refine Below.alloc ?_ ?_ _) | (with_reducible refine Below.drew ?_) | (with_reducible refine Below.setCell ?_ ?_ _) | go_size)))
  · have e : thereB nss h f = false := by unfold thereB; simp [h0]
    rw [e]
    clear e hfs FH
    go_enter Try.func56, Try.ntmps56
    go_upto_region 1 with (fail)
    refine wp_region_seq (fun F hF => ?_)
    have HF := hid hF; clear hF
    repeat (first
      | (apply text_skip; (focus rfl); simp only [Act.put, List.setIfInBounds_toArray, List.set_cons_zero, List.set_cons_succ])
      | (apply text_val; (focus rfl); (focus (intro _ _; go_simp; with_reducible rfl)); simp only [Act.put, List.setIfInBounds_toArray, List.set_cons_zero, List.set_cons_succ])
      | (apply text_if; (focus (first | exact wanted_t rfl rfl | exact wanted_f rfl rfl | exact wanted_gt rfl rfl | exact wanted_gf rfl rfl)); (focus (intro hc _ _; (try simp only [Bool.and_eq_true, Bool.not_eq_true', Bool.true_and] at hc); go_simp; with_reducible rfl)); simp only [Act.put, List.setIfInBounds_toArray, List.set_cons_zero, List.set_cons_succ]))
    refine text_nil (HF.out _ (fun mx dx => ?_))
    clear HF F
    go_wp2_with fail
    go_returns
    exact Pure.of rfl (by (repeat' (first | (with_reducible exact Below.refl _ _) | (with_reducible refine Below.ext_mk ?_ ?_ _ _) | (with_reducible refine Below.alloc ?_ ?_ _) | (with_reducible refine Below.drew ?_) | (with_reducible refine Below.setCell ?_ ?_ _) | go_size)))
theorem rsize_any {p : PG} {hs : List (SL × List Int)} (H : HeadsAre w p.heads hs) (h : Int) (hF : Few (headAt hs h).2) :
    Calls Try.prog 22 #[p.v, .int .i64 h] w (Pure (.int .i64 ((headAt hs h).2.sum / 8)) w) := by
  have B := hid (fun V (hb : Below w.heap.size w V) => rbits19_any (H.below hb) h hF)
  have s0 := hF.sum
  have s1 := sum_mono hF.pos (headAt hs h).2.length
  rw [List.take_length] at s1
  generalize (headAt hs h).2.sum = y at *
  have bP := Blk.new w 33 [p.heads.v, p.metas.v, p.steps.v, p.acts.v, p.tabs.v, p.control.v, p.emit.v, p.n0.v, p.n1.v, p.n2.v, p.n3.v, p.n4.v]
  have e8 : y.tdiv 8 = y / 8 := Int.tdiv_eq_ediv_of_nonneg s1.1
  have e9 : IntKind.i64.wrap (y / 8) = y / 8 := IntWalk.i64_in _ (by omega)
  go_enter Try.func22, Try.ntmps22
  go_upto_region 1 with (fail)
  refine wp_region_doc (fun F hF => ?_)
  have HF := hid hF
  clear hF
  refine doc_val rfl (load_agg_op _ _ _ _ _ _ _ _ Try.underlying33 (prog_size _ rfl) rfl bP) ?_
  simp only [Act.put, List.setIfInBounds_toArray, List.set_cons_zero, List.set_cons_succ]
  refine doc_val rfl (by first | (go_simp; done) | (go_simp; exact ⟨rfl, rfl⟩) | (go_simp; with_reducible rfl)) ?_
  simp only [Act.put, List.setIfInBounds_toArray, List.set_cons_zero, List.set_cons_succ]
  refine doc_call (f := 26) (args := #[p.v, .int .i64 h]) rfl (by first | (go_simp; done) | (go_simp; exact ⟨rfl, rfl⟩) | (go_simp; with_reducible rfl)) ((B.out _ (by (repeat' (first | (with_reducible exact Below.refl _ _) | (with_reducible refine Below.ext_mk ?_ ?_ _ _) | (with_reducible refine Below.alloc ?_ ?_ _) | (with_reducible refine Below.drew ?_) | (with_reducible refine Below.setCell ?_ ?_ _) | go_size)))).mono ?_)
  rintro _ _ ⟨rfl, m, d, rfl⟩
  refine ⟨_, rfl, ?_⟩
  simp only [Act.put, List.setIfInBounds_toArray, List.set_cons_zero, List.set_cons_succ]
  iterate 2 (refine doc_val rfl (by first | (go_simp; done) | (go_simp; exact ⟨rfl, rfl⟩) | (go_simp; with_reducible rfl)) ?_; simp only [Act.put, List.setIfInBounds_toArray, List.set_cons_zero, List.set_cons_succ])
  refine doc_end (HF.out _ _ ?_)
  clear HF F
  go_wp2_with fail
  go_returns
  exact Pure.of rfl (by (repeat' (first | (with_reducible exact Below.refl _ _) | (with_reducible refine Below.ext_mk ?_ ?_ _ _) | (with_reducible refine Below.alloc ?_ ?_ _) | (with_reducible refine Below.drew ?_) | (with_reducible refine Below.setCell ?_ ?_ _) | go_size)))
end
end Go.Proofs.Ytkblldmpdihamaa
set_option linter.unusedVariables false
set_option linter.unusedSimpArgs false
namespace Go.Proofs.Ytkblldmpdihamaa
open Go.RowKit

theorem res_cell2 {w : World} {fn : Func} {p q : Tmp} {tmps : Array Value} {t u e1 e2 : TypeId} {f1 f2 : _} {g1 g2 : Nat} {xs ys : List Value} (h : fn.results = #[.cell p t, .cell q u])
    (hp : tmps.getD p undef = .pointer (some ⟨g1, 0, none⟩)) (hq : tmps.getD q undef = .pointer (some ⟨g2, 0, none⟩)) (h1 : Blk w g1 e1 xs) (h2 : Blk w g2 e2 ys)
    (u1 : Try.prog.underlying t = some (.struct f1)) (u2 : Try.prog.underlying u = some (.struct f2)) (i1 : (Try.prog.info? t).map (·.size) = some xs.length) (i2 : (Try.prog.info? u).map (·.size) = some ys.length) :
    (results fn tmps).run Try.prog w = .ok (.tuple #[.agg xs.toArray, .agg ys.toArray]) w := by
  have a1 := run_loadVar_row (P := Try.prog) w g1 e1 t xs.toArray (0, 0) _ h1 u1 rfl (by simpa using i1)
  have a2 := run_loadVar_row (P := Try.prog) w g2 e2 u ys.toArray (0, 0) _ h2 u2 rfl (by simpa using i2)
  unfold results
  rw [h]
  have hp' : tmps[p]?.getD undef = .pointer (some ⟨g1, 0, none⟩) := by simpa using hp
  have hq' : tmps[q]?.getD undef = .pointer (some ⟨g2, 0, none⟩) := by simpa using hq
  simp [hp', hq', asAddr, a1, a2]
theorem res_cellT {w : World} {fn : Func} {p q : Tmp} {tmps : Array Value} {t e1 : TypeId} {f1 : _} {g1 : Nat} {xs : List Value} {v : Value} (h : fn.results = #[.cell p t, .tmp q])
    (hp : tmps.getD p undef = .pointer (some ⟨g1, 0, none⟩)) (hq : tmps.getD q undef = v) (h1 : Blk w g1 e1 xs)
    (u1 : Try.prog.underlying t = some (.struct f1)) (i1 : (Try.prog.info? t).map (·.size) = some xs.length) :
    (results fn tmps).run Try.prog w = .ok (.tuple #[.agg xs.toArray, v]) w := by
  have a1 := run_loadVar_row (P := Try.prog) w g1 e1 t xs.toArray (0, 0) _ h1 u1 rfl (by simpa using i1)
  unfold results
  rw [h]
  have hp' : tmps[p]?.getD undef = .pointer (some ⟨g1, 0, none⟩) := by simpa using hp
  have hq' : tmps[q]?.getD undef = v := by simpa using hq
  simp [hp', hq', asAddr, a1]

section
variable {w : World} {L : List Nat} {port : Int} {mt : List (BitVec 128)} {S : PD} {k : PK} {hs : List (SL × List Int)} {p : PG}
/-- Behind a read: the packet's own cells may hold that an invalid header was read. -/
theorem DocIs.acc {l : List Nat} {va : List Bool} {fs : NumRows} (D : DocIs w L k l va fs mt) (b : Bool) : DocIs w L { k with access := b } l va fs mt := ⟨D.rest, D.valid, D.frd, D.metas, D.a1, D.a2, D.a3, D.a4, D.a5⟩

/-- The last region's worlds: a number and a packet are laid into the results. -/
def GetR (w : World) (k1 : PK) (n : BitVec 128) (i : Nat) (W : World) : Prop :=
  Below w.heap.size w W ∧ Blk W w.heap.size 39 k1.cs ∧ Blk W (w.heap.size + 1) 45 (if i = 0 then [.int .u64 0, .int .u64 0] else [.int .u64 (hi n), .int .u64 (lo n)]) ∧ Blk W (w.heap.size + 1 + 1) 39 (if i ≤ 1 then zeroCs else k1.cs)
theorem GetR.zero {U : World} {k1 : PK} (n : BitVec 128) (h1 : Below w.heap.size w U) (h2 : Blk U w.heap.size 39 k1.cs) (h3 : Blk U (w.heap.size + 1) 45 [.int .u64 0, .int .u64 0]) (h4 : Blk U (w.heap.size + 1 + 1) 39 zeroCs) : GetR w k1 n 0 U.drew := by
  have hs := h1.size
  exact ⟨by (repeat' (first | (with_reducible exact h1) | (with_reducible exact Below.refl _ _) | (with_reducible refine Below.ext_mk ?_ ?_ _ _) | (with_reducible refine Below.alloc ?_ ?_ _) | (with_reducible refine Below.drew ?_) | (with_reducible refine Below.setCell ?_ ?_ _) | go_size)), h2.below (by (repeat' (first | (with_reducible exact Below.refl _ _) | (with_reducible refine Below.ext_mk ?_ ?_ _ _) | (with_reducible refine Below.alloc ?_ ?_ _) | (with_reducible refine Below.drew ?_) | (with_reducible refine Below.setCell ?_ ?_ _) | go_size))), h3.below (by (repeat' (first | (with_reducible exact Below.refl _ _) | (with_reducible refine Below.ext_mk ?_ ?_ _ _) | (with_reducible refine Below.alloc ?_ ?_ _) | (with_reducible refine Below.drew ?_) | (with_reducible refine Below.setCell ?_ ?_ _) | go_size))), h4.below (by (repeat' (first | (with_reducible exact Below.refl _ _) | (with_reducible refine Below.ext_mk ?_ ?_ _ _) | (with_reducible refine Below.alloc ?_ ?_ _) | (with_reducible refine Below.drew ?_) | (with_reducible refine Below.setCell ?_ ?_ _) | go_size)))⟩
theorem GetR.one {k1 : PK} {n : BitVec 128} (a : Act) (dst : Option Tmp) (t : TypeId) (x y : Operand) (pos : String) (after : Array Edge) (guard : Option (Nat × Bool)) {W : World} (hx : a.eval x = .pointer (some ⟨w.heap.size + 1, 0, none⟩)) (hy : a.eval y = nv n)
    (hR : GetR w k1 n 0 W) : ∃ w', (execOp a.eval { dst, op := .store 45 x y, type := t, pos, after, guard }).run Try.prog W = .ok .skip w' ∧ GetR w k1 n (0 + 1) w' := by
  obtain ⟨r1, r2, r3, r4⟩ := hR
  rw [if_pos rfl] at r3
  rw [if_pos (by omega)] at r4
  refine ⟨_, hstore_num a dst t x y pos after guard hx hy r3, Below.setRow r1 (by omega) _, r2.farRow (by omega) _, ?_, ?_⟩
  · rw [if_neg (by omega)]; exact r3.row _
  · rw [if_pos (by omega)]; exact r4.farRow (by omega) _
theorem GetR.two {k1 : PK} {n : BitVec 128} (a : Act) (dst : Option Tmp) (t : TypeId) (x y : Operand) (pos : String) (after : Array Edge) (guard : Option (Nat × Bool)) {W : World} (hx : a.eval x = .pointer (some ⟨w.heap.size + 1 + 1, 0, none⟩)) (hy : a.eval y = k1.v)
    (hR : GetR w k1 n 1 W) : ∃ w', (execOp a.eval { dst, op := .store 39 x y, type := t, pos, after, guard }).run Try.prog W = .ok .skip w' ∧ GetR w k1 n (1 + 1) w' := by
  obtain ⟨r1, r2, r3, r4⟩ := hR
  rw [if_neg (by omega)] at r3
  rw [if_pos (by omega)] at r4
  refine ⟨_, store_row_op (xs := zeroCs) (ys := k1.cs) a dst _ t x y pos after guard (pk_size _ rfl) rfl (by simp [Value.oneCell']) hx hy r4, Below.setRow r1 (by omega) _, r2.farRow (by omega) _, ?_, ?_⟩
  · rw [if_neg (by omega)]; exact r3.farRow (by omega) _
  · rw [if_neg (by omega)]; exact r4.row _

set_option maxRecDepth 100000 in
set_option maxHeartbeats 4000000 in
theorem rget_any (D : Doc w L port mt S k) (O : S.Ok hs) (h f : Int) :
    Calls Try.prog 44 #[k.v, .int .i64 h, .int .i64 f] w
      (fun e w' => ∃ k' : PK, e = .returned (.tuple #[nv (S.get h f).1, k'.v]) ∧ Below w.heap.size w w' ∧ Doc w' L port mt (S.get h f).2 k') := by
  obtain ⟨fs, D, hfs, s1, s2, s3, s4, s5⟩ := D
  have TH := hid (fun V (hb : Below w.heap.size w V) => there_any (D.frd.below hb) hfs h f)
  go_enter Try.func44, Try.ntmps44
  go_upto_region 1 with (fail)
  refine wp_gen (fun V hV => ?_)
  have hbV : Below w.heap.size w V := by rw [hV]; (repeat' (first | (with_reducible exact Below.refl _ _) | (with_reducible refine Below.ext_mk ?_ ?_ _ _) | (with_reducible refine Below.alloc ?_ ?_ _) | (with_reducible refine Below.drew ?_) | (with_reducible refine Below.setCell ?_ ?_ _) | go_size))
  have bk : Blk V w.heap.size 39 k.cs := by
    rw [hV]
    exact (Blk.new w 39 k.cs).below (by repeat (first | exact Below.refl _ _ | refine Below.alloc ?_ (by simp; try omega) _))
  have bn : Blk V (w.heap.size + 1) 45 [.int .u64 0, .int .u64 0] := by
    rw [hV]
    have h := (Blk.new (w.alloc (.cells k.cs.toArray 39)) 45 [.int .u64 0, .int .u64 0])
    have h2 := h.below (Below.alloc (Below.refl _ _) (Nat.le_refl _) (.cells zeroCs.toArray 39))
    simp only [World.size_alloc] at h2
    exact h2
  have bz : Blk V (w.heap.size + 1 + 1) 39 zeroCs := by
    rw [hV]
    have h := Blk.new ((w.alloc (.cells k.cs.toArray 39)).alloc (.cells [.int .u64 0, .int .u64 0].toArray 45)) 39 zeroCs
    simp only [World.size_alloc] at h
    exact h
  clear hV
  have hvs := hbV.size
  have BK := hid bk
  have BN := hid bn
  have BZ := hid bz
  clear bn bz
  refine wp_region_doc (fun F hF => ?_)
  have HF := hid hF
  clear hF
  refine doc_val rfl (load_agg_op _ _ _ _ _ _ _ _ Try.underlying39 (pk_size _ rfl) rfl bk) ?_
  simp only [Act.put, List.setIfInBounds_toArray, List.set_cons_zero, List.set_cons_succ]
  iterate 2 (refine doc_val rfl (by first | (go_simp; done) | (go_simp; exact ⟨rfl, rfl⟩) | (go_simp; with_reducible rfl)) ?_; simp only [Act.put, List.setIfInBounds_toArray, List.set_cons_zero, List.set_cons_succ])
  refine doc_call (f := 56) (args := #[k.v, .int .i64 h, .int .i64 f]) rfl (by first | (go_simp; done) | (go_simp; exact ⟨rfl, rfl⟩) | (go_simp; with_reducible rfl)) ((TH.out _ hbV).mono ?_)
  rintro _ _ ⟨rfl, m1, d1, rfl⟩
  refine ⟨_, rfl, ?_⟩
  simp only [Act.put, List.setIfInBounds_toArray, List.set_cons_zero, List.set_cons_succ]
  refine doc_val rfl (by first | (go_simp; done) | (go_simp; exact ⟨rfl, rfl⟩) | (go_simp; with_reducible rfl)) ?_
  simp only [Act.put, List.setIfInBounds_toArray, List.set_cons_zero, List.set_cons_succ]
  refine doc_end (HF.out _ _ ?_)
  clear HF F bk
  have hbU : Below w.heap.size w (V.ext m1 d1) := by (repeat' (first | (with_reducible exact hbV) | (with_reducible exact Below.refl _ _) | (with_reducible refine Below.ext_mk ?_ ?_ _ _) | (with_reducible refine Below.alloc ?_ ?_ _) | (with_reducible refine Below.drew ?_) | (with_reducible refine Below.setCell ?_ ?_ _) | go_size))
  have UK := hid (BK.out.ext m1 d1)
  have UN := hid (BN.out.ext m1 d1)
  have UZ := hid (BZ.out.ext m1 d1)
  clear BK BN BZ
  generalize V.ext m1 d1 = U at *
  clear hbV hvs
  by_cases ht : thereB S.nss h f = true
  · obtain ⟨i, j, ns, rfl, rfl, hn, hj⟩ := thereB_at ht
    have hi := (List.getElem?_eq_some_iff.1 hn).1
    have hnl : S.nss.length = S.va.length := by rw [O.nl, O.va]
    obtain ⟨s, hsx⟩ := fmap_at hfs hi
    have hne : S.nss[i] = ns := (List.getElem?_eq_some_iff.1 hn).2
    rw [hne] at hsx
    obtain ⟨v, hv⟩ : ∃ v, S.va[i]? = some v := ⟨S.va[i]'(by omega), List.getElem?_eq_getElem (by omega)⟩
    obtain ⟨n, hnj⟩ : ∃ n, ns[j]? = some n := ⟨ns[j], List.getElem?_eq_getElem hj⟩
    have eg : S.get (i : Int) (j : Int) = (n, { S with acc := S.acc || !v }) := by
      unfold PD.get
      rw [if_pos ht]
      simp only [Int.toNat_natCast, List.getD_eq_getElem?_getD, hv, hn, hnj, Option.getD_some]
      cases v
      · rw [if_neg (by simp)]; simp
      · rw [if_pos rfl]; simp
    have EG := hid eg
    obtain ⟨vb, vo, ev, zv, hvl, cv⟩ := D.valid.one (i := i) (u := .bool v) (by simp [bools, hv])
    obtain ⟨rb, ro, er, zr, hrl, cr⟩ := D.frd.row.one (i := i) (u := s.v) (by rw [List.getElem?_map, hsx]; rfl)
    obtain ⟨nb, no, en, zn, hnl2, cn0, cn1⟩ := (D.frd.each _ (List.mem_of_getElem? hsx)).num hnj
    have DD := hid D
    have hacc : (k.access || !v) = (S.acc || !v) := by rw [s5]
    simp only [ht]
    clear hn hi hnl hsx hne hv hnj eg TH ht D O
    have u2 := UK.out.cell 2
    have u3 := UK.out.cell 3
    have u8 := UK.out.cell 8
    have f8 := UK.out.free 8
    have zk := UK.out.lt
    simp only [List.getElem?_cons_zero, List.getElem?_cons_succ] at u2 u3 u8
    obtain ⟨port', rest, ⟨va', vn, vc⟩, ⟨fa, fn, fc⟩, metas, dr, se, eg', ac⟩ := k
    obtain ⟨sa, sn, sc⟩ := s
    simp only at ev er en hvl hrl hnl2 u2 u3 u8 hacc
    subst ev er en
    simp only [SL.v_mk] at u2 u3 cr
    have hUs := hbU.size
    have dv := (hbU.cell (p := ⟨vb, vo + i, none⟩) zv).trans cv
    have zv' : vb < U.heap.size := by omega
    have k1 : (i : Int) < (vn : Int) := by omega
    have GZ := hid (fun x : Bool => GetR.zero (k1 := PK.mk port' rest ⟨some ⟨vb, vo, none⟩, vn, vc⟩ ⟨some ⟨rb, ro, none⟩, fn, fc⟩ metas dr se eg' x) n (Below.setCell hbU (Nat.le_refl _) (.bool x)) (UK.out.set_ 8 (.bool x)) (UN.out.far (by omega) 8 (.bool x)) (UZ.out.far (by omega) 8 (.bool x)))
    have k2 : (i : Int) < (fn : Int) := by omega
    have k3 : (j : Int) < (sn : Int) := by omega
    go_upto_region 3 with (fail)
    cases ac <;> cases v
    all_goals
      go_upto_region 4 with (fail)
      refine wp_region_stage [9, 10] (GetR w (PK.mk port' rest ⟨some ⟨vb, vo, none⟩, vn, vc⟩ ⟨some ⟨rb, ro, none⟩, fn, fc⟩ metas dr se eg' _) n) (by kernel_rfl) (by kernel_rfl) (by kernel_rfl) (by kernel_rfl) (GZ.out _) (fun F' hF' => ?_)
      have HF := hid hF'
      clear hF'
      repeat (first
        | (apply sg_any; (focus rfl); (focus rfl); (focus (intro _; go_simp; with_reducible rfl)); simp only [Act.put, List.setIfInBounds_toArray, List.set_cons_zero, List.set_cons_succ])
        | (apply sg_read 0 0; (focus rfl); (focus (decide +kernel)); (focus (decide +kernel)); (focus rfl); (focus (intro ii W l u hR; have q3 := hR.2.1.cell 3; have zq := hR.2.1.lt; simp only [List.getElem?_cons_zero, List.getElem?_cons_succ, SL.v_mk] at q3; have qr := (hR.1.cell (p := ⟨rb, ro + i, none⟩) zr).trans cr; have hWs := hR.1.size; have zr' : rb < W.heap.size := by { omega }; have q0 := (hR.1.cell (p := ⟨nb, no + j * 2, none⟩) zn).trans cn0; have q1 := (hR.1.cell (p := ⟨nb, no + j * 2 + 1, none⟩) zn).trans cn1; have zn' : nb < W.heap.size := by { omega }; clear hR; go_simp; with_reducible rfl)); simp only [Act.put, List.setIfInBounds_toArray, List.set_cons_zero, List.set_cons_succ]))
      refine sg_read (v := _) 0 1 rfl (by decide +kernel) (by decide +kernel) rfl (fun i W l u hR => load_agg_op _ _ _ _ _ _ _ _ Try.underlying39 (pk_size _ rfl) rfl hR.2.1) ?_
      simp only [Act.put, List.setIfInBounds_toArray, List.set_cons_zero, List.set_cons_succ]
      refine sg_do 0 rfl rfl (fun W hR => GetR.one _ _ _ _ _ _ _ _ rfl rfl hR) ?_
      simp only [Act.put, List.setIfInBounds_toArray, List.set_cons_zero, List.set_cons_succ]
      refine sg_do 1 rfl rfl (fun W hR => GetR.two _ _ _ _ _ _ _ _ rfl rfl hR) ?_
      simp only [Act.put, List.setIfInBounds_toArray, List.set_cons_zero, List.set_cons_succ]
      refine sg_end (HF.out _ (fun W hR => ?_))
      clear HF F'
      obtain ⟨r1, _, r3, r4⟩ := hR
      rw [if_neg (by decide)] at r3 r4
      go_wp2
      refine bodyPost_ret (res_cell2 rfl rfl rfl r3 r4 Try.underlying45 Try.underlying39 (hnum_size _ _) (pk_size _ rfl)) rfl ⟨_, by rw [EG.out], r1, ?_⟩
      rw [EG.out]
      exact ⟨fs, (DD.out.acc _).below r1, hfs, s1, s2, s3, s4, hacc⟩
  · have hf : thereB S.nss h f = false := by simpa using ht
    have eg : S.get h f = (0#128, S) := by unfold PD.get; rw [if_neg ht]
    have EG := hid eg
    simp only [hf]
    clear ht eg TH
    go_upto_region 2 with (fail)
    refine wp_region_stage [2, 3] (GetR w k 0#128) (by kernel_rfl) (by kernel_rfl) (by kernel_rfl) (by kernel_rfl) (GetR.zero 0#128 hbU UK.out UN.out UZ.out) (fun F' hF' => ?_)
    have HF := hid hF'
    clear hF'
    apply sg_any (v := nv 0#128)
    · rfl
    · rfl
    · intro _; go_simp; decide +kernel
    simp only [Act.put, List.setIfInBounds_toArray, List.set_cons_zero, List.set_cons_succ]
    refine sg_read (v := k.v) 0 1 rfl (by decide +kernel) (by decide +kernel) rfl (fun i W l u hR => load_agg_op _ _ _ _ _ _ _ _ Try.underlying39 (pk_size _ rfl) rfl hR.2.1) ?_
    simp only [Act.put, List.setIfInBounds_toArray, List.set_cons_zero, List.set_cons_succ]
    refine sg_do 0 rfl rfl (fun W hR => GetR.one _ _ _ _ _ _ _ _ rfl rfl hR) ?_
    simp only [Act.put, List.setIfInBounds_toArray, List.set_cons_zero, List.set_cons_succ]
    refine sg_do 1 rfl rfl (fun W hR => GetR.two _ _ _ _ _ _ _ _ rfl rfl hR) ?_
    simp only [Act.put, List.setIfInBounds_toArray, List.set_cons_zero, List.set_cons_succ]
    refine sg_end (HF.out _ (fun W hR => ?_))
    clear HF F'
    obtain ⟨r1, _, r3, r4⟩ := hR
    rw [if_neg (by decide)] at r3 r4
    go_wp2 
    refine bodyPost_ret (res_cell2 rfl rfl rfl r3 r4 Try.underlying45 Try.underlying39 (hnum_size _ _) (pk_size _ rfl)) rfl ⟨k, by rw [EG.out], r1, ?_⟩
    rw [EG.out]
    exact ⟨fs, D.below r1, hfs, s1, s2, s3, s4, s5⟩
end
end Go.Proofs.Ytkblldmpdihamaa
set_option linter.unusedVariables false
set_option linter.unusedSimpArgs false
namespace Go.Proofs.Ytkblldmpdihamaa
open Go.RowKit

theorem CopyIs.doc {B : Nat} {w : World} {k : PK} {l : List Nat} {va : List Bool} {fs : NumRows} {gs : List Nat} {mt : List (BitVec 128)} {Gr Gv Gm : Nat} {Gf : Option Nat} (C : CopyIs B w k l va fs gs mt Gr Gv Gm Gf) {L : List Nat} (hL : ∀ q ∈ L, q < B) : DocIs w L k l va fs mt := by
  refine ⟨(RowIs.rdS C.rest).1, (RowIs.rdS C.valid).1, C.fields, (RowIs.rdS C.metas).1, ?_, ?_, ?_, ?_, ?_⟩
  · intro _ b off e hm
    have h1 := (RowIs.rdS C.rest).2.2 b off e
    cases h1
    have := hL _ hm; have := C.ge2.1; omega
  · intro _ b off e hm
    have h1 := (RowIs.rdS C.valid).2.2 b off e
    cases h1
    have := hL _ hm; have := C.ge2.2.1; omega
  · intro _ b off e hm
    have h1 := (RowIs.rdS C.row).2.2 b off e
    have := hL _ hm; have := C.ge2.2.2.2 b h1; omega
  · intro _ b off e hm
    have h1 := (RowIs.rdS C.metas).2.2 b off e
    cases h1
    have := hL _ hm; have := C.ge2.2.2.1; omega
  · intro x hx _ b off e hm
    obtain ⟨i, hi⟩ := List.getElem?_of_mem hx
    have hil := (List.getElem?_eq_some_iff.1 hi).1
    have hig : i < gs.length := by rw [C.len]; exact hil
    have h1 := (RowIs.rdS (C.each i x gs[i] hi (List.getElem?_eq_getElem hig))).2.2 b off e
    cases h1
    have := hL _ hm; have := (C.ge _ (List.getElem_mem hig)).1; omega
theorem DocIs.few {w : World} {L : List Nat} {k : PK} {S : PD} {fs : NumRows} {mt : List (BitVec 128)} {hs : List (SL × List Int)} (O : S.Ok hs) (hh : hs.length ≤ 8) (hw : ∀ x ∈ hs, x.2.length ≤ 16) (hm : mt.length ≤ 16) :
    S.l.length ≤ 1000000 ∧ S.va.length ≤ 1000000 ∧ mt.length ≤ 1000000 ∧ S.nss.length ≤ 1000000 ∧ ∀ ns ∈ S.nss, ns.length ≤ 1000000 := by
  have h1 := O.few
  have h2 := O.va
  have h3 := O.nl
  refine ⟨by omega, by omega, by omega, by omega, fun ns hn => ?_⟩
  obtain ⟨i, hi⟩ := List.getElem?_of_mem hn
  obtain ⟨x, hx, he⟩ := O.at hi
  have := hw x (List.mem_of_getElem? hx)
  omega
/-- What the program's headers may be. -/
structure HsOk (hs : List (SL × List Int)) : Prop where
  few : hs.length ≤ 8
  each : ∀ x ∈ hs, HOk x.2
theorem HsOk.hi {hs : List (SL × List Int)} (h : HsOk hs) : ∀ x ∈ hs, x.2.length ≤ 16 := fun x hx => (h.each x hx).hi

section
variable {w : World} {L : List Nat} {port : Int} {mt : List (BitVec 128)} {S : PD} {k : PK} {hs : List (SL × List Int)} {p : PG}
set_option maxRecDepth 100000 in
set_option maxHeartbeats 4000000 in
theorem rset_any (D : Doc w L port mt S k) (O : S.Ok hs) (H : HeadsAre w p.heads hs) (hok : HsOk hs) (hm : mt.length ≤ 16) (hL : ∀ q ∈ L, q < w.heap.size) (h f : Int) (n : BitVec 128) :
    Calls Try.prog 45 #[p.v, k.v, .int .i64 h, .int .i64 f, nv n] w
      (fun e w' => ∃ k' : PK, e = .returned k'.v ∧ Below w.heap.size w w' ∧ Doc w' L port mt (S.set hs h f n) k') := by
  obtain ⟨fs, D, hfs, s1, s2, s3, s4, s5⟩ := D
  have SC := hid (And.intro s1 (And.intro s2 (And.intro s3 (And.intro s4 s5))))
  clear s1 s2 s3 s4 s5
  have TH := hid (fun V (hb : Below w.heap.size w V) => there_any (D.frd.below hb) hfs h f)
  have few := DocIs.few (L := L) (w := w) (k := k) (fs := fs) O hok.few hok.hi hm
  have OW := hid (fun V (hb : Below w.heap.size w V) => own_any (D.rest.below hb) (D.valid.below hb) (D.frd.below hb) (D.metas.below hb) hfs few)
  clear few
  go_enter Try.func45, Try.ntmps45
  go_upto_region 1 with (fail)
  refine wp_gen (fun V hV => ?_)
  have hbV : Below w.heap.size w V := by rw [hV]; (repeat' (first | (with_reducible exact Below.refl _ _) | (with_reducible refine Below.ext_mk ?_ ?_ _ _) | (with_reducible refine Below.alloc ?_ ?_ _) | (with_reducible refine Below.drew ?_) | (with_reducible refine Below.setCell ?_ ?_ _) | go_size))
  have bp : Blk V w.heap.size 33 [p.heads.v, p.metas.v, p.steps.v, p.acts.v, p.tabs.v, p.control.v, p.emit.v, p.n0.v, p.n1.v, p.n2.v, p.n3.v, p.n4.v] := by
    rw [hV]
    exact (Blk.new w 33 [p.heads.v, p.metas.v, p.steps.v, p.acts.v, p.tabs.v, p.control.v, p.emit.v, p.n0.v, p.n1.v, p.n2.v, p.n3.v, p.n4.v]).below (by repeat (first | exact Below.refl _ _ | refine Below.alloc ?_ (by simp; try omega) _))
  have bk : Blk V (w.heap.size + 1) 39 k.cs := by
    rw [hV]
    have h := (Blk.new (w.alloc (.cells [p.heads.v, p.metas.v, p.steps.v, p.acts.v, p.tabs.v, p.control.v, p.emit.v, p.n0.v, p.n1.v, p.n2.v, p.n3.v, p.n4.v].toArray 33)) 39 k.cs).below (Below.alloc (Below.alloc (Below.refl _ _) (Nat.le_refl _) (.cells [.int .u64 (hi n), .int .u64 (lo n)].toArray 45)) (by simp; try omega) (.cells zeroCs.toArray 39))
    simp only [World.size_alloc] at h
    exact h
  have bn : Blk V (w.heap.size + 1 + 1) 45 [.int .u64 (hi n), .int .u64 (lo n)] := by
    rw [hV]
    have h := (Blk.new ((w.alloc (.cells [p.heads.v, p.metas.v, p.steps.v, p.acts.v, p.tabs.v, p.control.v, p.emit.v, p.n0.v, p.n1.v, p.n2.v, p.n3.v, p.n4.v].toArray 33)).alloc (.cells k.cs.toArray 39)) 45 [.int .u64 (hi n), .int .u64 (lo n)]).below (Below.alloc (Below.refl _ _) (Nat.le_refl _) (.cells zeroCs.toArray 39))
    simp only [World.size_alloc] at h
    exact h
  have bz : Blk V (w.heap.size + 1 + 1 + 1) 39 zeroCs := by
    rw [hV]
    have h := Blk.new (((w.alloc (.cells [p.heads.v, p.metas.v, p.steps.v, p.acts.v, p.tabs.v, p.control.v, p.emit.v, p.n0.v, p.n1.v, p.n2.v, p.n3.v, p.n4.v].toArray 33)).alloc (.cells k.cs.toArray 39)).alloc (.cells [.int .u64 (hi n), .int .u64 (lo n)].toArray 45)) 39 zeroCs
    simp only [World.size_alloc] at h
    exact h
  clear hV
  have hvs := hbV.size
  refine wp_region_doc (fun F hF => ?_)
  have HF := hid hF
  clear hF
  refine doc_val rfl (load_agg_op _ _ _ _ _ _ _ _ Try.underlying39 (pk_size _ rfl) rfl bk) ?_
  simp only [Act.put, List.setIfInBounds_toArray, List.set_cons_zero, List.set_cons_succ]
  iterate 2 (refine doc_val rfl (by first | (go_simp; done) | (go_simp; exact ⟨rfl, rfl⟩) | (go_simp; with_reducible rfl)) ?_; simp only [Act.put, List.setIfInBounds_toArray, List.set_cons_zero, List.set_cons_succ])
  refine doc_call (f := 56) (args := #[k.v, .int .i64 h, .int .i64 f]) rfl (by first | (go_simp; done) | (go_simp; exact ⟨rfl, rfl⟩) | (go_simp; with_reducible rfl)) ((TH.out _ hbV).mono ?_)
  rintro _ _ ⟨rfl, m1, d1, rfl⟩
  refine ⟨_, rfl, ?_⟩
  simp only [Act.put, List.setIfInBounds_toArray, List.set_cons_zero, List.set_cons_succ]
  refine doc_val rfl (by first | (go_simp; done) | (go_simp; exact ⟨rfl, rfl⟩) | (go_simp; with_reducible rfl)) ?_
  simp only [Act.put, List.setIfInBounds_toArray, List.set_cons_zero, List.set_cons_succ]
  refine doc_end (HF.out _ _ ?_)
  clear HF F
  have hbU : Below w.heap.size w (V.ext m1 d1) := by (repeat' (first | (with_reducible exact hbV) | (with_reducible exact Below.refl _ _) | (with_reducible refine Below.ext_mk ?_ ?_ _ _) | (with_reducible refine Below.alloc ?_ ?_ _) | (with_reducible refine Below.drew ?_) | (with_reducible refine Below.setCell ?_ ?_ _) | go_size))
  have UP := hid (bp.ext m1 d1)
  have UK := hid (bk.ext m1 d1)
  have UN := hid (bn.ext m1 d1)
  have UZ := hid (bz.ext m1 d1)
  clear bp bk bn bz
  generalize V.ext m1 d1 = U at *
  clear hbV hvs
  by_cases ht : thereB S.nss h f = true
  · obtain ⟨i, j, ns, rfl, rfl, hn, hj⟩ := thereB_at ht
    have hi := (List.getElem?_eq_some_iff.1 hn).1
    have hnl : S.nss.length = S.va.length := by rw [O.nl, O.va]
    obtain ⟨s, hsx⟩ := fmap_at hfs hi
    have hne : S.nss[i] = ns := (List.getElem?_eq_some_iff.1 hn).2
    rw [hne] at hsx
    obtain ⟨v, hv⟩ : ∃ v, S.va[i]? = some v := ⟨S.va[i]'(by omega), List.getElem?_eq_getElem (by omega)⟩
    obtain ⟨y, hy, hyl⟩ := O.at hn
    have hA : headAt hs (i : Int) = y := by unfold headAt; rw [if_neg (by omega), Int.toNat_natCast, hy]; rfl
    have hjy : j < y.2.length := by omega
    obtain ⟨x, hx⟩ : ∃ x, y.2[j]? = some x := ⟨y.2[j], List.getElem?_eq_getElem hjy⟩
    have hgx : y.2.getD j 0 = x := by rw [List.getD_eq_getElem?_getD, hx]; rfl
    obtain ⟨vb, vo, ev, zv, hvl, cv⟩ := D.valid.one (i := i) (u := .bool v) (by simp [bools, hv])
    have DD := hid D
    have FS := hid (And.intro hfs hsx)
    have u2 := UK.out.cell 2
    have u8 := UK.out.cell 8
    have f8 := UK.out.free 8
    have zk := UK.out.lt
    simp only [List.getElem?_cons_zero, List.getElem?_cons_succ] at u2 u8
    obtain ⟨port', rest, ⟨va', vn, vc⟩, kf, metas, dr, se, eg', ac⟩ := k
    simp only at ev hvl u2 u8
    subst ev
    simp only [SL.v_mk] at u2
    have hUs := hbU.size
    have dv := (hbU.cell (p := ⟨vb, vo + i, none⟩) zv).trans cv
    have zv' : vb < U.heap.size := by omega
    have k1 : (i : Int) < (vn : Int) := by omega
    have OO := hid O
    have HN := hid (And.intro hn (And.intro hv (And.intro hgx hA)))
    have HX := hid (And.intro hy (And.intro hx hjy))
    have hT := hid ht
    simp only [ht]
    clear hn hi hnl hsx hne hv TH ht D O hfs hgx hA hy hyl hjy hx
    cases v
    · go_upto_region 4 with (fail)
      have bK2 := UK.out.set_ 8 (.bool true)
      have bZ2 := UZ.out.far (b := w.heap.size + 1) (by omega) 8 (.bool true)
      have hb2 := Below.setCell (p := ⟨w.heap.size + 1, 8, none⟩) hbU (by simp) (.bool true)
      go_upto_region 5 with (fail)
      refine wp_region_doc (fun F hF => ?_)
      have HF := hid hF
      clear hF
      refine doc_val rfl (load_agg_op _ _ _ _ _ _ _ _ Try.underlying39 (pk_size _ rfl) rfl bK2) ?_
      simp only [Act.put, List.setIfInBounds_toArray, List.set_cons_zero, List.set_cons_succ]
      refine doc_skip rfl (store_row_op (xs := zeroCs) (ys := (PK.mk port' rest ⟨some ⟨vb, vo, none⟩, vn, vc⟩ kf metas dr se eg' true).cs) _ _ _ _ _ _ _ _ _ (pk_size _ rfl) rfl (by simp [Value.oneCell']) rfl rfl bZ2) ?_
      simp only [Act.put, List.setIfInBounds_toArray, List.set_cons_zero, List.set_cons_succ]
      refine doc_end (HF.out _ _ ?_)
      clear HF F
      have bR := bZ2.row (PK.mk port' rest ⟨some ⟨vb, vo, none⟩, vn, vc⟩ kf metas dr se eg' true).cs
      have hbR := Below.setRow hb2 (by omega : w.heap.size ≤ w.heap.size + 1 + 1 + 1) (PK.mk port' rest ⟨some ⟨vb, vo, none⟩, vn, vc⟩ kf metas dr se eg' true).cs.toArray
      go_wp2
      refine bodyPost_ret (hpk_result rfl rfl bR rfl) rfl ⟨_, rfl, hbR, ?_⟩
      have eg : S.set hs (i : Int) (j : Int) n = { S with acc := true } := by
        unfold PD.set
        rw [if_pos hT.out, Int.toNat_natCast, List.getD_eq_getElem?_getD, HN.out.2.1, if_neg (by simp)]
      rw [eg]
      obtain ⟨s1, s2, s3, s4, s5⟩ := SC.out
      exact ⟨fs, (DD.out.acc true).below hbR, FS.out.1, s1, s2, s3, s4, rfl⟩
    · go_upto_region 6 with (fail)
      refine wp_region_doc (fun F hF => ?_)
      have HF := hid hF
      clear hF
      refine doc_val rfl (load_agg_op _ _ _ _ _ _ _ _ Try.underlying39 (pk_size _ rfl) rfl UK.out) ?_
      simp only [Act.put, List.setIfInBounds_toArray, List.set_cons_zero, List.set_cons_succ]
      refine doc_call (f := 14) (args := #[(PK.mk port' rest ⟨some ⟨vb, vo, none⟩, vn, vc⟩ kf metas dr se eg' ac).v]) rfl (by first | (go_simp; done) | (go_simp; exact ⟨rfl, rfl⟩) | (go_simp; with_reducible rfl)) ((OW.out _ hbU).mono ?_)
      rintro _ W6 ⟨r3, v3, f3, m3, fs3, gs3, Gr, Gv, Gm, Gf, rfl, hB6, hfs3, CI⟩
      refine ⟨_, rfl, ?_⟩
      simp only [Act.put, List.setIfInBounds_toArray, List.set_cons_zero, List.set_cons_succ]
      refine doc_skip rfl (store_row_op (xs := (PK.mk port' rest ⟨some ⟨vb, vo, none⟩, vn, vc⟩ kf metas dr se eg' ac).cs) (ys := (PK.mk port' r3 v3 f3 m3 dr se eg' ac).cs) _ _ _ _ _ _ _ _ _ (pk_size _ rfl) rfl (by simp [Value.oneCell']) rfl rfl (UK.out.below hB6)) ?_
      simp only [Act.put, List.setIfInBounds_toArray, List.set_cons_zero, List.set_cons_succ]
      refine doc_end (HF.out _ _ ?_)
      clear HF F OW
      go_upto_region 7 with (fail)
      refine wp_gen (fun T hTT => ?_)
      have h6s := hB6.size
      have zB1 := UK.out.lt
      have zB3 := UZ.out.lt
      have tT : Turn W6 T [w.heap.size + 1] := by rw [hTT]; exact Turn.row _ _ (by simp)
      have bC : Blk T (w.heap.size + 1) 39 (PK.mk port' r3 v3 f3 m3 dr se eg' ac).cs := by rw [hTT]; exact (UK.out.below hB6).row _
      clear hTT
      have hno : ∀ q, q ≠ w.heap.size + 1 → q ∉ [w.heap.size + 1] := fun q hq hm => hq (by simpa using hm)
      have CIT := CI.keep (w' := T) (fun g hg hB => tT.block g hg (hno g (by omega)))
      have tP := tT.blk (UP.out.below hB6) (hno _ (by omega))
      have tN := tT.blk (UN.out.below hB6) (hno _ (by omega))
      have tZ := tT.blk (UZ.out.below hB6) (hno _ (by omega))
      have hbT : Below w.heap.size w T := (hbU.trans (hB6.mono hUs)).trans (tT.below (fun q hq => by simp at hq; omega) (by omega))
      clear CI tT UP UN UZ UK hB6
      obtain ⟨hn, hv, hgx, hA⟩ := HN.out
      obtain ⟨hy, hx, hjy⟩ := HX.out
      have hi0 := (List.getElem?_eq_some_iff.1 hn).1
      have hjn : j < ns.length := by obtain ⟨y', hy', e'⟩ := OO.out.at hn; rw [hy] at hy'; cases hy'; omega
      have hx3 : ∃ s3, fs3[i]? = some (s3, ns) := by
        obtain ⟨s3, q⟩ := fmap_at hfs3 hi0
        exact ⟨s3, by rw [q, (List.getElem?_eq_some_iff.1 hn).2]⟩
      obtain ⟨s3, hx3⟩ := hx3
      have hfsl : fs3.length = S.nss.length := by have h1 := congrArg List.length hfs3; simpa using h1
      have hig : i < gs3.length := by have := CIT.len; omega
      have hg3 := List.getElem?_eq_getElem hig
      have hrow3 := CIT.each i _ _ hx3 hg3
      have hsn3 := (RowIs.rdS hrow3).2.1
      have hfl3 := (RowIs.rdS CIT.row).2.1
      obtain ⟨rb, ro, er, zr, _, cr⟩ := CIT.fields.row.one (i := i) (u := s3.v) (by rw [List.getElem?_map, hx3]; rfl)
      have hs3a : s3.a = some ⟨gs3[i], 0, none⟩ := by
        rcases hrow3.2 with ⟨_, _, h⟩ | ⟨g', cap, cur, h1, h2, _⟩
        · cases h
        · cases h2
          unfold SL.v at h1
          injection h1
      have HT := H.below hbT
      have hhl := HT.len
      obtain ⟨pb, po, ep, zp, _, cp⟩ := HT.row.one (i := i) (u := y.1.v) (by rw [List.getElem?_map, hy]; rfl)
      have YR := HT.each y (List.mem_of_getElem? hy)
      have hyn := YR.int
      obtain ⟨qb, qo, eq, zq, cq⟩ := RdS.intAt YR hjy
      rw [(List.getElem?_eq_some_iff.1 hx).2] at cq
      have hil : i < hs.length := (List.getElem?_eq_some_iff.1 hy).1
      have CU := hid (fun (W : World) => (nOf_cut n x ▸ rcut_any n x W : Calls Try.prog 57 #[nv n, .int .i64 x] W (Pure (nv (n &&& maskOf x)) W)))
      have CI2 := CIT.setNum (n &&& maskOf x) hx3 hg3 hjn
      obtain ⟨xs, bX, hxs⟩ := (RowIs.setNum (i := j) (n &&& maskOf x) hrow3 hjn).2
      have hgB := (CIT.ge _ (List.getElem_mem hig)).1
      have c0 := tP.cell 0
      have c3 := bC.cell 3
      have d0 := tN.cell 0
      have d1 := tN.cell 1
      have z0 := tP.lt
      have z1 := bC.lt
      have z2 := tN.lt
      simp only [List.getElem?_cons_zero, List.getElem?_cons_succ] at c0 c3 d0 d1
      have KK := hid (And.intro CI2 (And.intro bC tZ))
      have BX := hid bX
      have zg := bX.lt
      have K1 := hid (And.intro hfs3 (And.intro hn (And.intro hv (And.intro hgx hA))))
      have k2 : (i : Int) < (fs3.length : Int) := by omega
      clear hfsl
      clear hx3 hg3 hrow3 hgx hv hA hn hfs3 CIT YR HT H bX bC tZ tP tN CI2 HN HX
      obtain ⟨g3, hg3'⟩ : ∃ g3, g3 = gs3[i] := ⟨_, rfl⟩
      rw [← hg3'] at KK hs3a BX zg hgB
      have HG3 := hid hg3'
      clear hg3'
      obtain ⟨m, hm'⟩ : ∃ m, m = n &&& maskOf x := ⟨_, rfl⟩
      rw [← hm'] at KK CU
      have HM := hid hm'
      clear hm'
      obtain ⟨f3a, f3n, f3c⟩ := f3
      obtain ⟨s3a, s3n, s3c⟩ := s3
      obtain ⟨⟨ya, yn, yc⟩, ws⟩ := y
      obtain ⟨⟨pa, pn, pc⟩, pm, s2', s3', s4', s5', em, n0, n1, n2, n3, n4⟩ := p
      simp only at hfl3 hsn3 er hs3a ep eq hyn hhl hjy
      subst hfl3 hsn3 er hs3a ep eq
      simp only [SL.v_mk] at cr c3 cp c0
      have k3 : (j : Int) < (ns.length : Int) := by omega
      have k4 : (i : Int) < (pn : Int) := by omega
      have k5 : (j : Int) < (yn : Int) := by omega
      refine wp_region_store 17 (by kernel_rfl) (by kernel_rfl) (by kernel_rfl) rfl (fun F' hF' G' hG' => ?_)
      simp only [List.take_succ_cons, List.take_zero, List.drop_succ_cons, List.drop_zero] at hG' ⊢
      have HF := hid hF'
      clear hF'
      have HGG := hid hG'
      clear hG'
      repeat (first
        | (apply text_val; (focus rfl); (focus (intro _ _; go_simp; with_reducible rfl)); simp only [Act.put, List.setIfInBounds_toArray, List.set_cons_zero, List.set_cons_succ])
        | (apply text_call; (focus rfl); (focus (intro _ _; go_simp; exact ⟨rfl, rfl⟩)); (focus (intro _ _; with_reducible (exact CU.out _))); simp only [Act.put, List.setIfInBounds_toArray, List.set_cons_zero, List.set_cons_succ]))
      refine text_nil (HGG.out _ ?_)
      clear HGG G'
      apply store_step (W2 := (T.setCell ⟨g3, j * 2, none⟩ (.int .u64 (hi m))).setCell ⟨g3, j * 2 + 1, none⟩ (.int .u64 (lo m)))
      · rfl
      · intro m' d
        refine ⟨m', d, (store_num_at _ _ _ _ _ _ _ _ rfl rfl (BX.out.ext m' d) hxs).trans ?_⟩
        simp [zg]
      simp only [List.getElem_toArray, List.getElem_cons_succ, List.getElem_cons_zero]
      simp only [Act.put, List.setIfInBounds_toArray, List.set_cons_zero, List.set_cons_succ]
      refine both_nil (HF.out _ _ (fun m9 d9 => ?_))
      clear HF F'
      have tQ : Turn T (((T.setCell ⟨g3, j * 2, none⟩ (.int .u64 (hi m))).setCell ⟨g3, j * 2 + 1, none⟩ (.int .u64 (lo m))).ext m9 d9) [g3] :=
        (Turn.set_ g3 _ _ (by simp)).trans ((Turn.set_ g3 _ _ (by simp)).trans (Turn.of_below (Below.ext_mk (Below.refl _ _) (Nat.le_refl _) _ _)))
      obtain ⟨CI2, bC, tZ⟩ := KK.out
      have CIQ := hid (CI2.below (Below.ext_mk (Below.refl _ _) (Nat.le_refl _) m9 d9))
      have bCQ := tQ.blk bC (by simp; omega)
      have bZQ := tQ.blk tZ (by simp; omega)
      have hbQ : Below w.heap.size w (((T.setCell ⟨g3, j * 2, none⟩ (.int .u64 (hi m))).setCell ⟨g3, j * 2 + 1, none⟩ (.int .u64 (lo m))).ext m9 d9) := hbT.trans (tQ.below (fun q hq => by simp at hq; omega) hbT.size)
      clear CI2 bC tZ KK tQ
      generalize (((T.setCell ⟨g3, j * 2, none⟩ (.int .u64 (hi m))).setCell ⟨g3, j * 2 + 1, none⟩ (.int .u64 (lo m))).ext m9 d9) = Q at *
      go_upto_region 8 with (fail)
      refine wp_region_doc (fun F hF => ?_)
      have HF := hid hF
      clear hF
      refine doc_val rfl (load_agg_op _ _ _ _ _ _ _ _ Try.underlying39 (pk_size _ rfl) rfl bCQ) ?_
      simp only [Act.put, List.setIfInBounds_toArray, List.set_cons_zero, List.set_cons_succ]
      refine doc_skip rfl (store_row_op (xs := zeroCs) (ys := (PK.mk port' r3 v3 ⟨some ⟨rb, ro, none⟩, fs3.length, f3c⟩ m3 dr se eg' ac).cs) _ _ _ _ _ _ _ _ _ (pk_size _ rfl) rfl (by simp [Value.oneCell']) rfl rfl bZQ) ?_
      simp only [Act.put, List.setIfInBounds_toArray, List.set_cons_zero, List.set_cons_succ]
      refine doc_end (HF.out _ _ ?_)
      clear HF F
      have bR := bZQ.row (PK.mk port' r3 v3 ⟨some ⟨rb, ro, none⟩, fs3.length, f3c⟩ m3 dr se eg' ac).cs
      have hbR := Below.setRow hbQ (by omega : w.heap.size ≤ w.heap.size + 1 + 1 + 1) (PK.mk port' r3 v3 ⟨some ⟨rb, ro, none⟩, fs3.length, f3c⟩ m3 dr se eg' ac).cs.toArray
      go_wp2
      refine bodyPost_ret (hpk_result rfl rfl bR rfl) rfl ⟨_, rfl, hbR, ?_⟩
      obtain ⟨hfs3, hn, hv, hgx, hA⟩ := K1.out
      have eg : S.set hs (i : Int) (j : Int) n = { S with nss := S.nss.set i (ns.set j m) } := by
        unfold PD.set
        rw [if_pos hT.out, Int.toNat_natCast, Int.toNat_natCast, List.getD_eq_getElem?_getD, hv]
        simp only [Option.getD_some, if_true]
        rw [hA, hgx, List.getD_eq_getElem?_getD, hn, HM.out]
        rfl
      rw [eg]
      have DQ := CIQ.out.doc (L := L) (fun q hq => by have := hL q hq; omega)
      have hbQR : Turn Q (Q.setRow (w.heap.size + 1 + 1 + 1) (PK.mk port' r3 v3 ⟨some ⟨rb, ro, none⟩, fs3.length, f3c⟩ m3 dr se eg' ac).cs.toArray) [w.heap.size + 1 + 1 + 1] := Turn.row _ _ (by simp)
      have CR := CIQ.out.keep (fun g hg hB => hbQR.block g hg (by simp; omega))
      refine ⟨_, CR.doc (fun q hq => by have := hL q hq; omega), ?_, SC.out⟩
      rw [List.map_set, hfs3]
  · have hf : thereB S.nss h f = false := by simpa using ht
    have eg : S.set hs h f n = S := by unfold PD.set; rw [if_neg ht]
    have EG := hid eg
    simp only [hf]
    clear ht eg TH
    go_upto_region 2 with (fail)
    refine wp_region_doc (fun F hF => ?_)
    have HF := hid hF
    clear hF
    refine doc_val rfl (load_agg_op _ _ _ _ _ _ _ _ Try.underlying39 (pk_size _ rfl) rfl UK.out) ?_
    simp only [Act.put, List.setIfInBounds_toArray, List.set_cons_zero, List.set_cons_succ]
    refine doc_skip rfl (store_row_op (xs := zeroCs) (ys := k.cs) _ _ _ _ _ _ _ _ _ (pk_size _ rfl) rfl (by simp [Value.oneCell']) rfl rfl UZ.out) ?_
    simp only [Act.put, List.setIfInBounds_toArray, List.set_cons_zero, List.set_cons_succ]
    refine doc_end (HF.out _ _ ?_)
    clear HF F
    have bR := UZ.out.row k.cs
    have hbR : Below w.heap.size w (U.setRow (w.heap.size + 1 + 1 + 1) k.cs.toArray) := Below.setRow hbU (by omega) _
    go_wp2
    refine bodyPost_ret (hpk_result rfl rfl bR rfl) rfl ⟨k, rfl, hbR, ?_⟩
    rw [EG.out]
    exact ⟨fs, D.below hbR, hfs, SC.out⟩
end
end Go.Proofs.Ytkblldmpdihamaa
