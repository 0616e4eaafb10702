/-
  Frozen, in plain Lean: what was written is read as it was; the nodes written are canonical.
-/
import Derived.Test.YtboekafmplomhaaZFzSpP
import Derived.Test.YtboekafmplomhaaZQMeansP
set_option linter.unusedVariables false
set_option linter.unusedSimpArgs false
namespace Go.Proofs.Ytboekafmplomhaa

/-- Nodes that were written are read. -/
theorem nodesG_back (tail : List Nat) : ∀ (rest pre : List Nd), NsOk (pre ++ rest) → (pre ++ rest).length ≤ 1048576 → nodesG rest.length pre (rest.flatMap nodeB ++ tail) = some (pre ++ rest, tail)
  | [], pre, _, _ => by simp [nodesG]
  | x :: rest, pre, hN, hl => by
    have hx : (pre ++ x :: rest)[pre.length]? = some x := by simp
    obtain ⟨a1, a2, a3, a4, a5, a6, a7, a8, a9⟩ := hN.ok pre.length x hx
    simp only [List.length_append, List.length_cons] at hl
    have e1 : x.1.toNat % 256 = x.1.toNat := Nat.mod_eq_of_lt (by omega)
    have e2 : (x :: rest).flatMap nodeB ++ tail = x.1.toNat :: (numB x.2.1.toNat ++ (numB x.2.2.toNat ++ (rest.flatMap nodeB ++ tail))) := by
      simp [nodeB, e1]
    rw [e2, List.length_cons, nodesG, numV_numB _ (by omega) (by omega)]
    simp only
    rw [numV_numB _ (by omega) (by omega)]
    simp only
    rw [topR_more _ _ (by omega)] at a8 a9
    rw [if_neg (by omega)]
    have e3 : (((x.1.toNat : Nat) : Int), ((x.2.1.toNat : Nat) : Int), ((x.2.2.toNat : Nat) : Int)) = x := by
      obtain ⟨x1, x2, x3⟩ := x
      simp only [Prod.mk.injEq]
      simp only at a1 a3 a5
      omega
    rw [e3]
    have := nodesG_back tail rest (pre ++ [x]) (by simpa using hN) (by simp; omega)
    simpa using this
theorem rootsG_back {bel : Nat} (hb : bel ≤ 2000000) (tail : List Nat) : ∀ (rest pre : List Int), (∀ r ∈ rest, 0 ≤ r ∧ r < bel) → rootsG bel rest.length pre (rest.flatMap (fun a => numB a.toNat) ++ tail) = some (pre ++ rest, tail)
  | [], pre, _ => by simp [rootsG]
  | x :: rest, pre, h => by
    obtain ⟨h1, h2⟩ := h x (by simp)
    have e2 : (x :: rest).flatMap (fun a => numB a.toNat) ++ tail = numB x.toNat ++ (rest.flatMap (fun a => numB a.toNat) ++ tail) := by simp
    rw [e2, List.length_cons, rootsG, numV_numB _ (by omega) (by omega)]
    simp only
    have e3 : ((x.toNat : Nat) : Int) = x := by omega
    rw [e3]
    have := rootsG_back hb tail rest (pre ++ [x]) (fun r hr => h r (by simp [hr]))
    simpa using this
theorem parse_back {ns : List Nd} {rs : List Int} (hN : NsOk ns) (hn : ns.length ≤ 1048576) (hr : ∀ r ∈ rs, 0 ≤ r ∧ r < ns.length + 2) (hl : rs.length ≤ 64) :
    parseV ((bodyB ns rs).drop 3) = some (ns, rs) := by
  have e : (bodyB ns rs).drop 3 = numB ns.length ++ (ns.flatMap nodeB ++ (numB rs.length ++ (rs.flatMap (fun a => numB a.toNat) ++ []))) := by
    unfold bodyB headB
    simp
  unfold parseV
  rw [e, numV_numB _ (by omega) (by omega)]
  simp only
  have h1 := nodesG_back (numB rs.length ++ (rs.flatMap (fun a => numB a.toNat) ++ [])) ns [] (by simpa using hN) (by simpa using hn)
  simp only [List.nil_append] at h1
  rw [h1]
  simp only
  rw [numV_numB _ (by omega) (by omega)]
  simp only
  have h2 := rootsG_back (bel := ns.length + 2) (by omega) [] rs [] (fun r h => by have := hr r h; omega)
  simp only [List.nil_append] at h2
  rw [h2]
  simp
/-- Reading what was written. -/
theorem read_back (S : Sto) {ns : List Nd} {rs : List Int} (hN : NsOk ns) (hW : Wrt ns rs) (hr : ∀ r ∈ rs, 0 ≤ r ∧ r < ns.length + 2) (hl : rs.length ≤ 64) (hc : canV ns rs = true) (h8 : (writeB ns rs).length ≤ 8388608) :
    readV S (writeB ns rs) = if (loadN S [0, 1] ns).1.full = true then ((loadN S [0, 1] ns).1, [], 12) else ((loadN S [0, 1] ns).1, rs.map (fun r => (loadN S [0, 1] ns).2.getD r.toNat 0), 0) := by
  have hlen := (writeB_len hW).1
  have h3 : (bodyB ns rs).take 3 = [81, 66, 1] := by unfold bodyB headB; simp
  have hb3 : 3 ≤ (bodyB ns rs).length := by unfold bodyB headB; simp <;> omega
  have hlw : (writeB ns rs).length = (bodyB ns rs).length + 4 := by unfold writeB; rw [sealB_length]
  unfold readV
  rw [if_neg (by omega), if_neg (by omega)]
  have t3 : (writeB ns rs).take 3 = [81, 66, 1] := by
    unfold writeB sealB
    rw [List.take_append_of_le_length hb3, h3]
  have t4 : (writeB ns rs).take ((writeB ns rs).length - 4) = bodyB ns rs := by
    rw [hlw, Nat.add_sub_cancel]
    unfold writeB sealB
    rw [List.take_append_of_le_length (Nat.le_refl _), List.take_length]
  rw [if_neg (by rw [t3]; simp), if_neg (by rw [t4]; simp [writeB])]
  unfold readB
  have t5 : ((writeB ns rs).drop 3).take ((writeB ns rs).length - 7) = (bodyB ns rs).drop 3 := by
    rw [hlw]
    unfold writeB sealB
    rw [List.drop_append_of_le_length hb3, List.take_append_of_le_length (by simp), List.take_of_length_le (by simp <;> omega)]
  rw [t5, parse_back hN hW.1 hr hl]
  simp only
  rw [if_neg (by rw [hc]; simp)]

section
variable {S T : Sto}
/-- The numbers of an order: of what is there, each has its own. -/
theorem numK_zero {K : List (Int × Int)} {ns : List Nd} (h : OrdInv (atV S) (fun _ => True) K ns) : numK K 0 = 0 := by
  unfold numK
  cases e : aget K 0 with
  | none => rfl
  | some k =>
    rcases h.num 0 k e with ⟨q, _⟩ | ⟨_, _, q, _⟩
    · omega
    · unfold atV rightOf at q; rw [if_pos (by split <;> omega)] at q; cases q
theorem numK_one {K : List (Int × Int)} {ns : List Nd} (h : OrdInv (atV S) (fun _ => True) K ns) : numK K 1 = 1 := by unfold numK; rw [h.one]; rfl
theorem atV_no {a : Int} (ha : S.has a) (h : (atV S a).2 = false) : a = 0 ∨ a = 1 := by
  unfold atV at h
  rw [right_has ha] at h
  by_cases h2 : a < 2
  · have := ha.1; omega
  · rw [if_neg h2] at h; cases h
theorem atV_two {a : Int} (h : a < 2) : (atV S a).2 = false := by
  unfold atV rightOf
  rw [if_pos (by split <;> omega)]
/-- A number of at least two: a node's. -/
theorem numK_node {K : List (Int × Int)} {ns : List Nd} (h : OrdInv (atV S) (fun _ => True) K ns) {a : Int} (ha : S.has a) (hk : Kn (atV S) K a) (h2 : ¬ a < 2) :
    ∃ (j i : Nat) (n : Nd), a = (j : Int) + 2 ∧ S.nodes[j]? = some n ∧ atV S a = (n, true) ∧ numK K a = (i : Int) + 2 ∧ aget K a = some ((i : Int) + 2) ∧ ns[i]? = some (n.1, numK K n.2.1, numK K n.2.2) ∧ Kn (atV S) K n.2.1 ∧ Kn (atV S) K n.2.2 ∧ numK K n.2.1 < (i : Int) + 2 ∧ numK K n.2.2 < (i : Int) + 2 := by
  have ht : (atV S a).2 = true := by
    cases e : (atV S a).2 with
    | true => rfl
    | false => rcases atV_no ha e with rfl | rfl <;> omega
  obtain ⟨j, n, rfl, hn, hat, _⟩ := atV_yes ht
  rcases hk with hk | hk
  · obtain ⟨k, hk⟩ := Option.isSome_iff_exists.1 hk
    rcases h.num _ k hk with ⟨q, _⟩ | ⟨_, _, _, q1, q2, q3, q4, q5, q6, q7⟩
    · omega
    · rw [hat] at q3 q4 q5 q6 q7
      obtain ⟨i, hi⟩ : ∃ i : Nat, k = (i : Int) + 2 := ⟨(k - 2).toNat, by omega⟩
      subst hi
      rw [show ((i : Int) + 2 - 2).toNat = i by omega] at q3
      exact ⟨j, i, n, rfl, hn, hat, by unfold numK; rw [hk]; rfl, hk, q3, q4, q5, q6, q7⟩
  · rw [ht] at hk; cases hk
theorem numK_two {K : List (Int × Int)} {ns : List Nd} (h : OrdInv (atV S) (fun _ => True) K ns) {a : Int} (ha : S.has a) (hk : Kn (atV S) K a) : (numK K a < 2 ↔ a < 2) ∧ (a < 2 → numK K a = a) := by
  by_cases h2 : a < 2
  · have : a = 0 ∨ a = 1 := by have := ha.1; omega
    have e : numK K a = a := by
      rcases this with rfl | rfl
      · exact numK_zero h
      · exact numK_one h
    exact ⟨⟨fun _ => h2, fun _ => by omega⟩, fun _ => e⟩
  · obtain ⟨j, i, n, rfl, _, _, e, _⟩ := numK_node h ha hk h2
    exact ⟨⟨fun q => by omega, fun q => by omega⟩, fun q => by omega⟩
theorem numK_inj {K : List (Int × Int)} {ns : List Nd} (h : OrdInv (atV S) (fun _ => True) K ns) {a b : Int} (ha : S.has a) (hb : S.has b) (ka : Kn (atV S) K a) (kb : Kn (atV S) K b) (e : numK K a = numK K b) : a = b := by
  have ta := numK_two h ha ka
  have tb := numK_two h hb kb
  by_cases h2 : a < 2
  · have h3 : b < 2 := tb.1.1 (by rw [← e]; exact ta.1.2 h2)
    rw [ta.2 h2, tb.2 h3] at e
    exact e
  · have h3 : ¬ b < 2 := fun q => h2 (ta.1.1 (by rw [e]; exact tb.1.2 q))
    obtain ⟨_, i1, _, _, _, _, e1, g1, _⟩ := numK_node h ha ka h2
    obtain ⟨_, i2, _, _, _, _, e2, g2, _⟩ := numK_node h hb kb h3
    rw [e1, e2] at e
    rw [← e] at g2
    exact h.inj _ _ _ g1 g2
/-- A node of an order. -/
theorem ord_node {K : List (Int × Int)} {ns : List Nd} (h : OrdInv (atV S) (fun _ => True) K ns) (hW : Wf S) {i : Nat} {x : Nd} (hx : ns[i]? = some x) :
    ∃ (j : Nat) (n : Nd), S.nodes[j]? = some n ∧ aget K ((j : Int) + 2) = some ((i : Int) + 2) ∧ x = (n.1, numK K n.2.1, numK K n.2.2) ∧ Kn (atV S) K n.2.1 ∧ Kn (atV S) K n.2.2 ∧ numK K n.2.1 < (i : Int) + 2 ∧ numK K n.2.2 < (i : Int) + 2 := by
  obtain ⟨a, ha⟩ := h.all i (List.getElem?_eq_some_iff.1 hx).1
  rcases h.num a _ ha with ⟨_, e⟩ | ⟨_, _, ht, _, _, q3, q4, q5, q6, q7⟩
  · omega
  · obtain ⟨j, n, rfl, hn, hat, _⟩ := atV_yes ht
    rw [hat] at q3 q4 q5 q6 q7
    rw [show ((i : Int) + 2 - 2).toNat = i by omega, hx] at q3
    injection q3 with q3
    exact ⟨j, n, hn, ha, q3, q4, q5, q6, q7⟩
theorem ord_top {K : List (Int × Int)} {ns : List Nd} (h : OrdInv (atV S) (fun _ => True) K ns) {a : Int} (ha : S.has a) (hk : Kn (atV S) K a) : topR ns (numK K a).toNat = topOf S a := by
  have t := numK_two h ha hk
  by_cases h2 : a < 2
  · have := t.1.2 h2
    unfold topR topOf
    rw [if_pos (by omega), if_pos h2]
  · obtain ⟨j, i, n, rfl, hn, _, e, _, hi, _⟩ := numK_node h ha hk h2
    rw [topOf_node hn, e]
    unfold topR
    rw [if_neg (by omega), show ((i : Int) + 2).toNat - 2 = i by omega, hi]
    rfl
/-- The nodes of an order are of the form. -/
theorem ord_ok {K : List (Int × Int)} {ns : List Nd} (h : OrdInv (atV S) (fun _ => True) K ns) (hW : Wf S) : NsOk ns := by
  refine ⟨fun i x hx => ?_⟩
  obtain ⟨j, n, hn, hk, rfl, k1, k2, l1, l2⟩ := ord_node h hW hx
  have hc := hW.child hn
  have ok := hW.node j n hn
  have n1 := numK_le h n.2.1
  have n2 := numK_le h n.2.2
  refine ⟨ok.v0, ok.v64, n1.1, l1, n2.1, l2, fun e => ok.ne (numK_inj h hc.1 hc.2 k1 k2 e), ?_, ?_⟩
  · show n.1 < topR ns (numK K n.2.1).toNat
    rw [ord_top h hc.1 k1]; exact ok.tlo
  · show n.1 < topR ns (numK K n.2.2).toNat
    rw [ord_top h hc.2 k2]; exact ok.thi
theorem ord_nodup {K : List (Int × Int)} {ns : List Nd} (h : OrdInv (atV S) (fun _ => True) K ns) (hW : Wf S) : ns.Nodup := by
  refine List.pairwise_iff_getElem.2 (fun i k hi hk hik e0 => ?_)
  obtain ⟨x, hx⟩ : ∃ x, ns[k]? = some x := ⟨ns[k], by simp [hk]⟩
  have e : ns[i]? = some x := by rw [← hx, List.getElem?_eq_getElem hi, List.getElem?_eq_getElem hk, e0]
  obtain ⟨j1, n1, hn1, g1, e1, a1, b1, _, _⟩ := ord_node h hW e
  obtain ⟨j2, n2, hn2, g2, e2, a2, b2, _, _⟩ := ord_node h hW hx
  rw [e1] at e2
  have c1 := hW.child hn1
  have c2 := hW.child hn2
  simp only [Prod.mk.injEq] at e2
  have q1 := numK_inj h c1.1 c2.1 a1 a2 e2.2.1
  have q2 := numK_inj h c1.2 c2.2 b1 b2 e2.2.2
  have en : n1 = n2 := by
    obtain ⟨x1, x2, x3⟩ := n1
    obtain ⟨y1, y2, y3⟩ := n2
    simp only at e2 q1 q2
    rw [e2.1, q1, q2]
  subst en
  have r1 := (hW.byn n1 ((j1 : Int) + 2)).2 ⟨j1, rfl, hn1⟩
  have r2 := (hW.byn n1 ((j2 : Int) + 2)).2 ⟨j2, rfl, hn2⟩
  rw [r1] at r2
  injection r2 with r2
  rw [r2] at g1
  rw [g1] at g2
  injection g2 with g2
  omega
theorem start_alike {R : Int → Int → Prop} (h : ∀ x y, R x y → (x = 1 ↔ y = 1)) (x y : Int) (hR : R x y) : aget [((1 : Int), (1 : Int))] x = aget [((1 : Int), (1 : Int))] y := by
  have := h x y hR
  by_cases e : x = 1
  · rw [e, this.1 e]
  · have e1 : ¬ (1 : Int) = x := fun q => e q.symm
    have e2 : ¬ (1 : Int) = y := fun q => e (this.2 q.symm)
    simp [aget, e1, e2]
/-- The nodes of an order, read as a source of their own, are ordered alike. -/
theorem ord_again (hW : Wf S) {l : List Int} (hl : ∀ a ∈ l, S.has a) : ordR (ordS S l).1 (ordS S l).2 = ordS S l := by
  obtain ⟨h, hk, hr⟩ := ordS_inv hW l
  obtain ⟨K, hK⟩ : ∃ K, K = ordSK S l := ⟨_, rfl⟩
  rw [← hK] at h hk hr
  have hr' := hr
  obtain ⟨ns, hns⟩ : ∃ ns, ns = (ordS S l).1 := ⟨_, rfl⟩
  rw [← hns] at h
  have hN := ord_ok h hW
  have A : Alike (atV S) (atR ns) (fun a b => S.has a ∧ Kn (atV S) K a ∧ b = numK K a) (fun a => (rightOf S a).toNat) (fun a => a.toNat) := by
    refine ⟨?_, ?_, ?_, ?_, ?_⟩
    · rintro a b a' b' ⟨h1, h2, rfl⟩ ⟨h3, h4, rfl⟩
      exact ⟨fun e => by rw [e], fun e => numK_inj h h1 h3 h2 h4 e⟩
    · rintro a b ⟨h1, h2, rfl⟩
      have t := (numK_two h h1 h2).1
      by_cases q : a < 2
      · rw [atV_two q]; unfold atR; rw [if_pos (t.2 q)]
      · obtain ⟨j, i, n, rfl, hn, hat, e, _⟩ := numK_node h h1 h2 q
        rw [hat, e]; unfold atR; rw [if_neg (by omega)]
    all_goals
      rintro a b ⟨h1, h2, rfl⟩ ht
      have q : ¬ a < 2 := fun q => by rw [atV_two q] at ht; cases ht
      obtain ⟨j, i, n, rfl, hn, hat, e, g, hi, k1, k2, l1, l2⟩ := numK_node h h1 h2 q
      have hb : atR ns ((i : Int) + 2) = ((n.1, numK K n.2.1, numK K n.2.2), true) := by
        unfold atR; rw [if_neg (by omega), show ((i : Int) + 2 - 2).toNat = i by omega, hi]; rfl
      have hc := hW.child hn
      have ok := hW.node j n hn
      have r1 := right_has h1
      have r2 := right_has hc.1
      have r3 := right_has hc.2
      have := ok.lo
      have := ok.hi
      have := ok.lo0
      have := ok.hi0
      have p1 := numK_le h n.2.1
      have p2 := numK_le h n.2.2
      rw [e, hb, hat]
    · exact ⟨⟨hc.1, k1, rfl⟩, by simp only [r1, r2]; omega, by simp only; omega⟩
    · exact ⟨⟨hc.2, k2, rfl⟩, by simp only [r1, r3]; omega, by simp only; omega⟩
  have hz := ordL_alike A (S.nodes.length + 2) (ns.length + 2) (l.map fun a => (a, numK K a)) [(1, 1)] [(1, 1)] [] [] (fun x hx => by
    obtain ⟨a, ha, rfl⟩ := List.mem_map.1 hx
    have := numK_le h a
    exact ⟨⟨hl a ha, hk a ha, rfl⟩, rightOf_lt S a, by show (numK K a).toNat < ns.length + 2; omega⟩) (start_alike (fun x y ⟨h1, h2, e⟩ => by
      subst e
      have := numK_two h h1 h2
      by_cases q : x < 2
      · rw [this.2 q]
      · have := this.1
        constructor <;> intro r <;> omega))
  simp only [List.map_map] at hz
  have m1 : List.map ((fun x => x.1) ∘ fun a => (a, numK K a)) l = l := by simp [Function.comp_def]
  have m2 : List.map ((fun x => x.2) ∘ fun a => (a, numK K a)) l = (ordS S l).2 := by rw [hr']; rfl
  rw [m1, m2] at hz
  rw [← hns]
  unfold ordR
  exact hz.symm
theorem ord_can (hW : Wf S) {l : List Int} (hl : ∀ a ∈ l, S.has a) : canV (ordS S l).1 (ordS S l).2 = true := by
  obtain ⟨h, _, _⟩ := ordS_inv hW l
  unfold canV
  rw [ord_again hW hl]
  simp [ord_nodup h hW]
end
end Go.Proofs.Ytboekafmplomhaa
set_option linter.unusedVariables false
set_option linter.unusedSimpArgs false
namespace Go.Proofs.Ytboekafmplomhaa

section
variable {S T : Sto}
/-- Diagrams of two stores that mean the same have the same top. -/
theorem same_lt (hS : Wf S) (hT : Wf T) {a b : Int} (ha : S.has a) (hb : T.has b) (he : ∀ β, ev S β a = ev T β b) : ¬ topOf S a < topOf T b := by
  intro ht
  have h2 : ¬ a < 2 := fun h2 => by rw [topOf_low h2] at ht; have := topOf_le hT hb; omega
  obtain ⟨i, n, rfl, hn⟩ := has_node ha h2
  have hc := hS.child hn
  have hok := hS.node i n hn
  rw [topOf_node hn] at ht
  refine hok.ne ((ev_eq hS hc.1 hc.2).1 (fun β => ?_))
  have e1 : ev S β n.2.1 = ev S (fun v => if v = n.1 then false else β v) ((i : Int) + 2) := by
    rw [ev_node hS _ hn]; simp
    exact ev_same hS _ _ (Nat.le_refl _) hc.1 _ _ (fun v hv _ => by
      have : v ≠ n.1 := by have := hok.tlo; omega
      simp [this])
  have e2 : ev S β n.2.2 = ev S (fun v => if v = n.1 then true else β v) ((i : Int) + 2) := by
    rw [ev_node hS _ hn]; simp
    exact ev_same hS _ _ (Nat.le_refl _) hc.2 _ _ (fun v hv _ => by
      have : v ≠ n.1 := by have := hok.thi; omega
      simp [this])
  rw [e1, e2, he, he]
  exact ev_same hT _ _ (Nat.le_refl _) hb _ _ (fun v hv _ => by
    have : v ≠ n.1 := by omega
    simp [this])
theorem same_top (hS : Wf S) (hT : Wf T) {a b : Int} (ha : S.has a) (hb : T.has b) (he : ∀ β, ev S β a = ev T β b) : topOf S a = topOf T b := by
  have h1 := same_lt hS hT ha hb he
  have h2 := same_lt hT hS hb ha (fun β => (he β).symm)
  omega
/-- Same meanings: both low, or both nodes with the same variable and parts of the same meanings. -/
theorem same_node (hS : Wf S) (hT : Wf T) {a b : Int} (ha : S.has a) (hb : T.has b) (he : ∀ β, ev S β a = ev T β b) : (a < 2 ∧ b < 2) ∨
    ∃ (i j : Nat) (n m : Nd), a = (i : Int) + 2 ∧ b = (j : Int) + 2 ∧ S.nodes[i]? = some n ∧ T.nodes[j]? = some m ∧ n.1 = m.1 ∧ (∀ β, ev S β n.2.1 = ev T β m.2.1) ∧ (∀ β, ev S β n.2.2 = ev T β m.2.2) := by
  have ht := same_top hS hT ha hb he
  by_cases h2 : a < 2
  · exact .inl ⟨h2, topOf_64 hT hb (by rw [← ht, topOf_low h2])⟩
  · have h3 : ¬ b < 2 := fun q => h2 (topOf_64 hS ha (by rw [ht, topOf_low q]))
    obtain ⟨i, n, rfl, hn⟩ := has_node ha h2
    obtain ⟨j, m, rfl, hm⟩ := has_node hb h3
    rw [topOf_node hn, topOf_node hm] at ht
    have c1 := hS.child hn
    have c2 := hT.child hm
    have o1 := hS.node i n hn
    have o2 := hT.node j m hm
    have side : ∀ (t : Bool) (β : Int → Bool), (if t then ev S β n.2.2 else ev S β n.2.1) = (if t then ev T β m.2.2 else ev T β m.2.1) := fun t β => by
      have q := he (fun v => if v = n.1 then t else β v)
      rw [ev_node hS _ hn, ev_node hT _ hm, ← ht] at q
      have s1 : ∀ x, S.has x → n.1 < topOf S x → ev S (fun v => if v = n.1 then t else β v) x = ev S β x := fun x hx tx => ev_same hS _ _ (Nat.le_refl _) hx _ _ (fun v hv _ => by
        have : v ≠ n.1 := by omega
        simp [this])
      have s2 : ∀ x, T.has x → n.1 < topOf T x → ev T (fun v => if v = n.1 then t else β v) x = ev T β x := fun x hx tx => ev_same hT _ _ (Nat.le_refl _) hx _ _ (fun v hv _ => by
        have : v ≠ n.1 := by omega
        simp [this])
      rw [s1 _ c1.1 o1.tlo, s1 _ c1.2 o1.thi, s2 _ c2.1 (by rw [ht]; exact o2.tlo), s2 _ c2.2 (by rw [ht]; exact o2.thi)] at q
      simpa using q
    exact .inr ⟨i, j, n, m, rfl, rfl, hn, hm, ht, fun β => by simpa using side false β, fun β => by simpa using side true β⟩
theorem atV_node (hS : Wf S) {i : Nat} {n : Nd} (hn : S.nodes[i]? = some n) : atV S ((i : Int) + 2) = (n, true) := by
  have hi := (List.getElem?_eq_some_iff.1 hn).1
  unfold atV
  rw [right_has ⟨by omega, by omega⟩, if_neg (by omega), show ((i : Int) + 2 - 2).toNat = i by omega, hn]
  rfl
/-- Diagrams of the same meanings are ordered alike. -/
theorem ord_same (hS : Wf S) (hT : Wf T) {z : List (Int × Int)} (hz : ∀ x ∈ z, S.has x.1 ∧ T.has x.2 ∧ ∀ β, ev S β x.1 = ev T β x.2) : ordS S (z.map (·.1)) = ordS T (z.map (·.2)) := by
  have A : Alike (atV S) (atV T) (fun a b => S.has a ∧ T.has b ∧ ∀ β, ev S β a = ev T β b) (fun a => (rightOf S a).toNat) (fun a => (rightOf T a).toNat) := by
    refine ⟨?_, ?_, ?_, ?_, ?_⟩
    · rintro a b a' b' ⟨h1, h2, h3⟩ ⟨h4, h5, h6⟩
      constructor
      · rintro rfl
        exact (ev_eq hT h2 h5).1 (fun β => by rw [← h3, h6])
      · rintro rfl
        exact (ev_eq hS h1 h4).1 (fun β => by rw [h3, ← h6])
    · rintro a b ⟨h1, h2, h3⟩
      rcases same_node hS hT h1 h2 h3 with ⟨q1, q2⟩ | ⟨i, j, n, m, rfl, rfl, hn, hm, _⟩
      · rw [atV_two q1, atV_two q2]
      · rw [atV_node hS hn, atV_node hT hm]
    all_goals
      rintro a b ⟨h1, h2, h3⟩ ht
      rcases same_node hS hT h1 h2 h3 with ⟨q1, q2⟩ | ⟨i, j, n, m, rfl, rfl, hn, hm, hv, hl, hh⟩
      · rw [atV_two q1] at ht; cases ht
    · rw [atV_node hS hn, atV_node hT hm]; exact hv
    · rw [atV_node hS hn, atV_node hT hm]
      have c1 := hS.child hn
      have c2 := hT.child hm
      have o1 := hS.node i n hn
      have o2 := hT.node j m hm
      have := o1.lo; have := o1.lo0; have := o2.lo; have := o2.lo0
      refine ⟨⟨c1.1, c2.1, hl⟩, ?_, ?_⟩
      · show (rightOf S n.2.1).toNat < (rightOf S ((i : Int) + 2)).toNat
        rw [right_has h1, right_has c1.1]; omega
      · show (rightOf T m.2.1).toNat < (rightOf T ((j : Int) + 2)).toNat
        rw [right_has h2, right_has c2.1]; omega
    · rw [atV_node hS hn, atV_node hT hm]
      have c1 := hS.child hn
      have c2 := hT.child hm
      have o1 := hS.node i n hn
      have o2 := hT.node j m hm
      have := o1.hi; have := o1.hi0; have := o2.hi; have := o2.hi0
      refine ⟨⟨c1.2, c2.2, hh⟩, ?_, ?_⟩
      · show (rightOf S n.2.2).toNat < (rightOf S ((i : Int) + 2)).toNat
        rw [right_has h1, right_has c1.2]; omega
      · show (rightOf T m.2.2).toNat < (rightOf T ((j : Int) + 2)).toNat
        rw [right_has h2, right_has c2.2]; omega
  unfold ordS
  exact ordL_alike A _ _ z [(1, 1)] [(1, 1)] [] [] (fun x hx => ⟨hz x hx, rightOf_lt S x.1, rightOf_lt T x.2⟩) (start_alike (fun x y ⟨h1, h2, h3⟩ => by
    rcases same_node hS hT h1 h2 h3 with ⟨q1, q2⟩ | ⟨i, j, n, m, rfl, rfl, _⟩
    · have := h3 (fun _ => false)
      rw [ev_low _ q1, ev_low _ q2] at this
      simpa using this
    · constructor <;> intro q <;> omega))

/-- A variable's node. -/
theorem var_node (hW : Wf S) (hf : S.full = false) {v : Int} (v0 : 0 ≤ v) (v64 : v < 64) (hc : (S.nodes.length : Int) ≠ S.cap) : ∃ i : Nat, (varV S v).2 = (i : Int) + 2 ∧ (varV S v).1.nodes[i]? = some (v, 0, 1) := by
  unfold varV
  rw [if_neg (by omega)]
  unfold madeR
  rw [if_neg (by rw [hf]; simp)]
  unfold mkN
  rw [if_neg (by omega)]
  cases hr : aget S.byn (v, 0, 1) with
  | some r =>
    obtain ⟨i, rfl, hn⟩ := (hW.byn _ _).1 hr
    exact ⟨i, rfl, hn⟩
  | none =>
    simp only
    rw [if_neg hc]
    exact ⟨S.nodes.length, rfl, by simp⟩
/-- A node over two greater ones: at most one node more. -/
theorem iteN_few {v : Int} {i : Nat} (n : Nat) (hn : S.nodes[i]? = some (v, 0, 1)) {a b : Int} (ta : v < topOf S a) (tb : v < topOf S b) (hv : v < 64) : (iteN (n + 2) S ((i : Int) + 2) a b).1.nodes.length ≤ S.nodes.length + 1 := by
  have tc := topOf_node hn
  simp only at tc
  have hlow : low S ((i : Int) + 2) a b = v := by unfold low; rw [tc]; omega
  have s1 : splitOf S ((i : Int) + 2) v = (0, 1) := by
    unfold splitOf; rw [if_pos tc, show ((i : Int) + 2 - 2).toNat = i by omega, hn]; rfl
  have s2 : splitOf S a v = (a, a) := by unfold splitOf; rw [if_neg (by omega)]
  have s3 : splitOf S b v = (b, b) := by unfold splitOf; rw [if_neg (by omega)]
  by_cases eab : a = b
  · rw [iteN, if_pos (.inr eab)]; simp
  have z1 : iteN (n + 1) S 0 a b = (S, some b) := by rw [iteN, if_neg (by omega), if_pos rfl]
  have z2 : iteN (n + 1) S 1 a b = (S, some a) := by rw [iteN, if_pos (.inl rfl)]
  have hm : (mkN S v b a).1.nodes.length ≤ S.nodes.length + 1 := by
    unfold mkN
    by_cases e : b = a
    · rw [if_pos e]; simp
    · rw [if_neg e]
      cases aget S.byn (v, b, a) with
      | some r => simp
      | none =>
        simp only
        by_cases e2 : (S.nodes.length : Int) = S.cap
        · rw [if_pos e2]; simp
        · rw [if_neg e2]; simp
  rw [iteN, if_neg (by omega), if_neg (by omega)]
  by_cases e3 : a = 1 ∧ b = 0
  · rw [if_pos e3]; simp
  · rw [if_neg e3]
    cases aget S.told ((i : Int) + 2, a, b) with
    | some r => simp
    | none =>
      simp only [hlow, s1, s2, s3, z1, z2]
      generalize mkN S v b a = M at *
      obtain ⟨S3, r⟩ := M
      cases r with
      | none => exact hm
      | some r => exact hm
theorem ite_few (hW : Wf S) {v : Int} {i : Nat} (hn : S.nodes[i]? = some (v, 0, 1)) {a b : Int} (ha : S.has a) (hb : S.has b) (ta : v < topOf S a) (tb : v < topOf S b) : (iteV S ((i : Int) + 2) a b).1.nodes.length ≤ S.nodes.length + 1 := by
  have hc : S.has ((i : Int) + 2) := ⟨by omega, by have := (List.getElem?_eq_some_iff.1 hn).1; omega⟩
  have hv := (hW.node i _ hn).v64
  simp only at hv
  have few := iteN_few 63 hn ta tb hv
  unfold iteV madeR iteR
  rw [right_has hc, right_has ha, right_has hb]
  cases S.full with
  | true => simp
  | false => exact few
theorem make_res {n : Nat} (L : Liv S n) (hn : n + 2 ≤ 1000000) {v : Int} (v0 : 0 ≤ v) (v8 : v < 8) {a b : Int} (ha : S.has a) (hb : S.has b) (ta : v < topOf S a) (tb : v < topOf S b) :
    Res S (n + 2) (iteV (varV S v).1 (varV S v).2 a b) (fun β => if β v then ev S β a else ev S β b) := by
  have hf := L.free (by omega)
  have hc := L.count
  have hcap := L.cap
  have O1 := varV_ok L.wf L.sated L.below v (.inl v8)
  have E1 := fun (hq : (varV S v).1.full = false) β => varV_ev L.wf v hq β
  obtain ⟨i, e1, hi⟩ := var_node L.wf hf v0 (by omega) (by omega)
  generalize hR : varV S v = R at *
  obtain ⟨S1, c⟩ := R
  simp only at *
  subst e1
  have L1 : Liv S1 (n + 1) := L.step O1
  have ga := O1.grows.has ha
  have gb := O1.grows.has hb
  have few : (iteV S1 ((i : Int) + 2) a b).1.nodes.length ≤ S1.nodes.length + 1 := ite_few O1.wf hi ga gb (by rw [O1.grows.top ha]; exact ta) (by rw [O1.grows.top hb]; exact tb)
  have O2 : VOk S1 8 (2 ^ (8 : Int).toNat) (iteV S1 ((i : Int) + 2) a b) := iteV_ok O1.wf O1.sated O1.below (by omega) ((i : Int) + 2) a b
  have c1 := L1.count
  have L2 : Liv (iteV S1 ((i : Int) + 2) a b).1 (n + 2) := ⟨O2.wf, O2.sated, O2.below, by rw [O2.grows.cap]; exact L1.cap, by omega⟩
  refine ⟨L2, O1.grows.trans O2.grows, O2.has, fun β => ?_⟩
  rw [iteV_ev O1.wf _ _ _ (L2.free hn), right_has O1.has, right_has ga, right_has gb, E1 (L1.free (by omega)), ev_grows L.wf O1.grows β ha, ev_grows L.wf O1.grows β hb, if_neg (show ¬ (v < 0 ∨ 64 ≤ v) by omega)]

theorem load_ok {K : List (Int × Int)} {ns : List Nd} (h : OrdInv (atV S) (fun _ => True) K ns) (hW : Wf S) (hB : Below' S 8) : ∀ (rest pre : List Nd) (T : Sto) (made : List Int) (n : Nat), pre ++ rest = ns → Liv T n → n + 2 * rest.length ≤ 1000000 → made.length = pre.length + 2 →
    (∀ a, S.has a → Kn (atV S) K a → numK K a < pre.length + 2 → T.has (made.getD (numK K a).toNat 0) ∧ ∀ β, ev T β (made.getD (numK K a).toNat 0) = ev S β a) →
    Liv (loadN T made rest).1 (n + 2 * rest.length) ∧ Grows T (loadN T made rest).1 ∧ (∀ a, S.has a → Kn (atV S) K a → (loadN T made rest).1.has ((loadN T made rest).2.getD (numK K a).toNat 0) ∧ ∀ β, ev (loadN T made rest).1 β ((loadN T made rest).2.getD (numK K a).toNat 0) = ev S β a)
  | [], pre, T, made, n, hp, L, hn, hl, hI => by
    rw [List.append_nil] at hp
    rw [loadN]
    exact ⟨by simpa using L, Grows.refl T, fun a ha hk => hI a ha hk (by rw [hp]; exact (numK_le h a).2)⟩
  | x :: rest, pre, T, made, n, hp, L, hn, hl, hI => by
    have hx : ns[pre.length]? = some x := by rw [← hp]; simp
    obtain ⟨j, m, hm, hk, rfl, k1, k2, l1, l2⟩ := ord_node h hW hx
    have hc := hW.child hm
    have ok := hW.node j m hm
    simp only [List.length_cons] at hn
    obtain ⟨a1, a2⟩ := hI _ hc.2 k2 (by omega)
    obtain ⟨b1, b2⟩ := hI _ hc.1 k1 (by omega)
    have ta := same_top L.wf hW a1 hc.2 a2
    have tb := same_top L.wf hW b1 hc.1 b2
    have R := make_res L (by omega) ok.v0 (hB j m hm) a1 b1 (by rw [ta]; exact ok.thi) (by rw [tb]; exact ok.tlo)
    rw [loadN]
    unfold makeN
    simp only
    generalize iteV (varV T m.1).1 (varV T m.1).2 (made.getD (numK K m.2.2).toNat 0) (made.getD (numK K m.2.1).toNat 0) = Q at *
    have hgl : ∀ k : Nat, k < made.length → (made ++ [Q.2]).getD k 0 = made.getD k 0 := fun k hk => by
      rw [List.getD_eq_getElem?_getD, List.getD_eq_getElem?_getD, List.getElem?_append_left hk]
    have hgr : (made ++ [Q.2]).getD made.length 0 = Q.2 := by simp
    obtain ⟨r1, r2, r3⟩ := load_ok h hW hB rest (pre ++ [(m.1, numK K m.2.1, numK K m.2.2)]) Q.1 (made ++ [Q.2]) (n + 2) (by simpa using hp) R.liv (by omega) (by simp; omega) (fun a ha hka hlt => by
      have p0 := numK_le h a
      by_cases e : numK K a < pre.length + 2
      · obtain ⟨u1, u2⟩ := hI a ha hka e
        rw [hgl _ (by omega)]
        exact ⟨R.grows.has u1, fun β => by rw [ev_grows L.wf R.grows β u1]; exact u2 β⟩
      · have e2 : numK K a = (pre.length : Int) + 2 := by simp at hlt; omega
        have h2 : ¬ a < 2 := fun q => by have := (numK_two h ha hka).2 q; omega
        obtain ⟨j', i', n', rfl, hn', _, e3, g', _⟩ := numK_node h ha hka h2
        have e4 : (j' : Int) + 2 = (j : Int) + 2 := h.inj _ _ _ g' (by rw [hk]; congr 1; omega)
        have e5 : j' = j := by omega
        subst e5
        rw [hm] at hn'
        cases hn'
        rw [show (numK K ((j' : Int) + 2)).toNat = made.length by omega, hgr]
        refine ⟨R.has, fun β => ?_⟩
        rw [R.val, a2, b2, ev_node hW β hm])
    refine ⟨?_, R.grows.trans r2, r3⟩
    rw [List.length_cons]
    exact ⟨r1.wf, r1.sated, r1.below, r1.cap, by have := r1.count; omega⟩
theorem load_all {n : Nat} (hW : Wf S) (hB : Below' S 8) {l : List Int} (hl : ∀ a ∈ l, S.has a) (L : Liv T n) (hn : n + 2 * (ordS S l).1.length ≤ 1000000) :
    Liv (loadN T [0, 1] (ordS S l).1).1 (n + 2 * (ordS S l).1.length) ∧ Grows T (loadN T [0, 1] (ordS S l).1).1 ∧
    ((ordS S l).2.map (fun r => (loadN T [0, 1] (ordS S l).1).2.getD r.toNat 0)).length = l.length ∧
    ∀ (i : Nat) (a b : Int), l[i]? = some a → ((ordS S l).2.map (fun r => (loadN T [0, 1] (ordS S l).1).2.getD r.toNat 0))[i]? = some b → (loadN T [0, 1] (ordS S l).1).1.has b ∧ ∀ β, ev (loadN T [0, 1] (ordS S l).1).1 β b = ev S β a := by
  obtain ⟨h, hk, hr⟩ := ordS_inv hW l
  obtain ⟨r1, r2, r3⟩ := load_ok h hW hB (ordS S l).1 [] T [0, 1] n (by simp) L hn rfl (fun a ha hka hlt => by
    have t := numK_two h ha hka
    have a2 : a < 2 := t.1.1 (by simpa using hlt)
    rw [t.2 a2]
    have : a = 0 ∨ a = 1 := by have := ha.1; omega
    rcases this with rfl | rfl
    · exact ⟨has_zero T, fun β => by rw [show [0, 1].getD (0 : Int).toNat 0 = (0 : Int) from rfl, ev_low _ (by omega), ev_low _ (by omega)]⟩
    · exact ⟨has_one T, fun β => by rw [show [0, 1].getD (1 : Int).toNat 0 = (1 : Int) from rfl, ev_low _ (by omega), ev_low _ (by omega)]⟩)
  refine ⟨r1, r2, by rw [hr]; simp, fun i a b ha hb => ?_⟩
  rw [hr] at hb
  simp only [List.map_map, List.getElem?_map, ha, Option.map_some, Function.comp] at hb
  injection hb with hb
  subst hb
  have hm := List.mem_of_getElem? ha
  exact r3 a (hl a hm) (hk a hm)

/-- Both readings of what a store of few nodes wrote, and the writing of the second one. -/
structure BackOk (S T : Sto) (l : List Int) (S' T' : Sto) (q : List Int) : Prop where
  own : readV S (writeB (ordS S l).1 (ordS S l).2) = (S', l, 0)
  other : readV T (writeB (ordS S l).1 (ordS S l).2) = (T', q, 0)
  again : ordS T' q = ordS S l
  len : q.length = l.length
  wfS : Wf S'
  wfT : Wf T'
  satS : Sated S'
  satT : Sated T'
  cntT : T'.nodes.length ≤ 1000000
  mean : ∀ (i : Nat) (a b : Int), l[i]? = some a → q[i]? = some b → S'.has a ∧ T'.has b ∧ ∀ β, ev S' β a = ev T' β b
theorem back_ok {n m : Nat} (LS : Liv S n) (LT : Liv T m) (hn : n ≤ 6000) (hm : m ≤ 6000) {l : List Int} (hl : ∀ a ∈ l, S.has a) (h64 : l.length ≤ 64) : ∃ S' T' q, BackOk S T l S' T' q := by
  have hW := LS.wf
  have hlen := ordS_len hW l
  have hcnt := LS.count
  have hwrt := ordS_wrt hW (l := l) (by omega)
  obtain ⟨h, hk, hr⟩ := ordS_inv hW l
  have hN := ord_ok h hW
  have hcan := ord_can hW hl
  have hrl : (ordS S l).2.length = l.length := by rw [hr]; simp
  have hrr : ∀ r ∈ (ordS S l).2, 0 ≤ r ∧ r < (ordS S l).1.length + 2 := fun r hr' => by
    rw [hr] at hr'
    obtain ⟨a, _, rfl⟩ := List.mem_map.1 hr'
    exact numK_le h a
  have hwl := (writeB_len hwrt).2
  obtain ⟨s1, s2, s3, s4⟩ := load_all (T := S) hW LS.below hl LS (by omega)
  obtain ⟨t1, t2, t3, t4⟩ := load_all (T := T) hW LS.below hl LT (by omega)
  have RS := read_back S hN hwrt hrr (by omega) hcan (by omega)
  have RT := read_back T hN hwrt hrr (by omega) hcan (by omega)
  have fs := s1.free (by omega)
  have ft := t1.free (by omega)
  rw [fs, if_neg (by simp)] at RS
  rw [ft, if_neg (by simp)] at RT
  generalize hMS : (ordS S l).2.map (fun r => (loadN S [0, 1] (ordS S l).1).2.getD r.toNat 0) = ps at *
  generalize hMT : (ordS S l).2.map (fun r => (loadN T [0, 1] (ordS S l).1).2.getD r.toNat 0) = q at *
  have hps : ps = l := by
    apply List.ext_getElem? 
    intro i
    by_cases hi : i < l.length
    · have e1 : l[i]? = some l[i] := by simp [hi]
      have e2 : ps[i]? = some (ps[i]'(by omega)) := by simp [s3, hi]
      obtain ⟨u1, u2⟩ := s4 i _ _ e1 e2
      have hla := hl _ (List.getElem_mem hi)
      rw [e1, e2, (ev_eq s1.wf u1 (s2.has hla)).1 (fun β => by rw [u2, ev_grows hW s2 β hla])]
    · rw [List.getElem?_eq_none (by omega), List.getElem?_eq_none (by omega)]
  rw [hps] at RS
  have mean : ∀ (i : Nat) (a b : Int), l[i]? = some a → q[i]? = some b → (loadN S [0, 1] (ordS S l).1).1.has a ∧ (loadN T [0, 1] (ordS S l).1).1.has b ∧ ∀ β, ev (loadN S [0, 1] (ordS S l).1).1 β a = ev (loadN T [0, 1] (ordS S l).1).1 β b := fun i a b ha hb => by
    obtain ⟨u1, u2⟩ := t4 i a b ha hb
    have hla := hl _ (List.mem_of_getElem? ha)
    exact ⟨s2.has hla, u1, fun β => by rw [u2, ev_grows hW s2 β hla]⟩
  refine ⟨_, _, q, RS, RT, ?_, t3, s1.wf, t1.wf, s1.sated, t1.sated, by have := t1.count; omega, mean⟩
  have hz := ord_same hW t1.wf (z := l.zip q) (fun x hx => by
    obtain ⟨i, hi, e⟩ := List.getElem_of_mem hx
    simp only [List.length_zip] at hi
    rw [List.getElem_zip] at e
    have e1 : l[i]? = some x.1 := by rw [← e]; simp [show i < l.length by omega]
    have e2 : q[i]? = some x.2 := by rw [← e]; simp [show i < q.length by omega]
    obtain ⟨u1, u2⟩ := t4 i _ _ e1 e2
    exact ⟨hl _ (List.mem_of_getElem? e1), u1, fun β => (u2 β).symm⟩)
  have z1 : (l.zip q).map (·.1) = l := by rw [List.map_fst_zip (by omega)]
  have z2 : (l.zip q).map (·.2) = q := by rw [List.map_snd_zip (by omega)]
  rw [z1, z2] at hz
  exact hz.symm
end
end Go.Proofs.Ytboekafmplomhaa
