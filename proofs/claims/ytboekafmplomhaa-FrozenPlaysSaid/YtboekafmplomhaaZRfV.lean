/-
  The document's last look, in plain Lean: the bytes of the nodes' own order are the same bytes just if the order is the nodes' own.
-/
import Derived.Test.YtboekafmplomhaaZRfQ
set_option linter.unusedVariables false
set_option linter.unusedSimpArgs false
namespace Go.Proofs.Ytboekafmplomhaa

theorem numU_inv : ∀ (k sh n : Nat) (l : List Nat) (m : Nat) (r : List Nat), (∀ y ∈ l, y < 256) → numU k sh n l = some (m, r) → ∃ x, m = n + x * 2 ^ sh ∧ l = numB x ++ r ∧ (x = 0 → sh = 0) ∧ x < 128 ^ k
  | 0, _, _, _, _, _, _, h => by simp [numU] at h
  | _ + 1, _, _, [], _, _, _, h => by simp [numU] at h
  | k + 1, sh, n, x :: l, m, r, hb, h => by
    rw [numU] at h
    by_cases hx : x < 128
    · rw [if_pos hx] at h
      by_cases h0 : x = 0 ∧ 0 < sh
      · rw [if_pos h0] at h; cases h
      · rw [if_neg h0] at h
        cases h
        refine ⟨x, rfl, by rw [numB_small (by omega)]; rfl, fun e => by omega, ?_⟩
        have : 128 ≤ 128 ^ (k + 1) := by rw [Nat.pow_succ]; exact Nat.le_mul_of_pos_left _ (Nat.pow_pos (by omega))
        omega
    · rw [if_neg hx] at h
      obtain ⟨y, h1, h2, h3, h4⟩ := numU_inv k (sh + 7) _ l m r (fun z hz => hb z (by simp [hz])) h
      have hy : y ≠ 0 := fun e => by have := h3 e; omega
      have hx2 := hb x (by simp)
      have hp : (2 : Nat) ^ (sh + 7) = 128 * 2 ^ sh := by rw [Nat.pow_add]; omega
      refine ⟨(x - 128) + 128 * y, ?_, ?_, fun e => by omega, ?_⟩
      · rw [h1, hp, Nat.add_assoc, ← Nat.mul_assoc, ← Nat.add_mul, Nat.mul_comm y 128]
      · rw [numB_big (by omega), show ((x - 128) + 128 * y) % 128 + 128 = x by omega, show ((x - 128) + 128 * y) / 128 = y by omega, h2]
        rfl
      · rw [Nat.pow_succ]; omega
theorem numU_inv0 {l : List Nat} {m : Nat} {r : List Nat} (hb : ∀ y ∈ l, y < 256) (h : numU 4 0 0 l = some (m, r)) : l = numB m ++ r ∧ m < 268435456 := by
  obtain ⟨x, h1, h2, _, h4⟩ := numU_inv 4 0 0 l m r hb h
  have : m = x := by simpa using h1
  subst this
  exact ⟨h2, by omega⟩
theorem numU_numB {n : Nat} (rest : List Nat) (h : n < 268435456) : numU 4 0 0 (numB n ++ rest) = some (n, rest) := by
  have := numV_numB (bel := n + 1) rest (by omega) h
  rw [numV_numU] at this
  cases e : numU 4 0 0 (numB n ++ rest) with
  | none => rw [e] at this; cases this
  | some z =>
    obtain ⟨a, b⟩ := z
    rw [e] at this
    simp only at this
    split at this
    · cases this
    · exact this
theorem rnodes_inv : ∀ (m : Nat) (ns : List Nd) (l : List Nat) (ns' : List Nd) (r : List Nat), (∀ y ∈ l, y < 256) → rnodes m ns l = some (ns', r) → l = (ns'.drop ns.length).flatMap nodeB ++ r ∧ ns <+: ns' ∧ (∀ y ∈ r, y < 256)
  | 0, ns, l, ns', r, hb, h => by
    rw [rnodes] at h; cases h
    exact ⟨by simp, List.prefix_refl _, hb⟩
  | m + 1, ns, [], ns', r, hb, h => by simp [rnodes] at h
  | m + 1, ns, v :: l1, ns', r, hb, h => by
    rw [rnodes] at h
    cases e1 : numU 4 0 0 l1 with
    | none => rw [e1] at h; cases h
    | some x =>
      obtain ⟨lo, l2⟩ := x
      obtain ⟨q1, _⟩ := numU_inv0 (fun y hy => hb y (by simp [hy])) e1
      rw [e1] at h
      simp only at h
      have hb2 : ∀ y ∈ l2, y < 256 := fun y hy => hb y (by rw [q1]; simp [hy])
      cases e2 : numU 4 0 0 l2 with
      | none => rw [e2] at h; cases h
      | some y =>
        obtain ⟨hi, l3⟩ := y
        obtain ⟨q2, _⟩ := numU_inv0 hb2 e2
        rw [e2] at h
        simp only at h
        split at h
        · cases h
        · rename_i hc
          have hv := hb v (by simp)
          obtain ⟨i1, i2, i3⟩ := rnodes_inv m _ l3 ns' r (fun y hy => hb2 y (by rw [q2]; simp [hy])) h
          refine ⟨?_, (List.prefix_append _ _).trans i2, i3⟩
          have hd : ns'.drop ns.length = ((v : Int), (lo : Int), (hi : Int)) :: ns'.drop (ns ++ [((v : Int), (lo : Int), (hi : Int))]).length := by
            obtain ⟨t, rfl⟩ := i2
            simp
          rw [hd, List.flatMap_cons, q1, q2, i1]
          simp [nodeB, Nat.mod_eq_of_lt hv]
theorem rootsG_inv (bel : Nat) : ∀ (m : Nat) (rs : List Int) (l : List Nat) (rs' : List Int) (r : List Nat), (∀ y ∈ l, y < 256) → rootsG bel m rs l = some (rs', r) → l = (rs'.drop rs.length).flatMap (fun a => numB a.toNat) ++ r ∧ rs <+: rs'
  | 0, rs, l, rs', r, hb, h => by
    rw [rootsG] at h; cases h
    exact ⟨by simp, List.prefix_refl _⟩
  | m + 1, rs, l, rs', r, hb, h => by
    rw [rootsG, numV_numU] at h
    cases e1 : numU 4 0 0 l with
    | none => rw [e1] at h; cases h
    | some x =>
      obtain ⟨a, l1⟩ := x
      obtain ⟨q1, _⟩ := numU_inv0 hb e1
      rw [e1] at h
      simp only at h
      by_cases hc : bel ≤ a
      · rw [if_pos hc] at h; cases h
      · rw [if_neg hc] at h
        simp only at h
        obtain ⟨i1, i2⟩ := rootsG_inv bel m _ l1 rs' r (fun y hy => hb y (by rw [q1]; simp [hy])) h
        refine ⟨?_, (List.prefix_append _ _).trans i2⟩
        have hd : rs'.drop rs.length = (a : Int) :: rs'.drop (rs ++ [(a : Int)]).length := by
          obtain ⟨t, rfl⟩ := i2
          simp
        rw [hd, List.flatMap_cons, q1, i1]
        simp
theorem nodes_ge : ∀ ns : List Nd, ns.length ≤ (ns.flatMap nodeB).length
  | [] => by simp
  | a :: t => by
    have ih := nodes_ge t
    have : 1 ≤ (nodeB a).length := by simp [nodeB]
    rw [List.flatMap_cons, List.length_append, List.length_cons]
    omega
/-- What is read was written so. -/
theorem rparts_inv {l : List Nat} {ns : List Nd} {rs : List Int} (hb : ∀ y ∈ l, y < 256) (h : rparts l = some (ns, rs)) : l = (bodyB ns rs).drop 3 ∧ InOk ns ∧ (∀ r ∈ rs, 0 ≤ r ∧ r < ns.length + 2) ∧ rs.length ≤ 64 ∧ ns.length ≤ l.length := by
  unfold rparts rparts1 at h
  cases e1 : numU 4 0 0 l with
  | none => rw [e1] at h; cases h
  | some x =>
    obtain ⟨m, l1⟩ := x
    obtain ⟨q1, _⟩ := numU_inv0 hb e1
    rw [e1] at h
    simp only at h
    split at h
    · cases h
    cases e2 : rnodes m [] l1 with
    | none => rw [e2] at h; cases h
    | some y =>
      obtain ⟨ns', l2⟩ := y
      obtain ⟨i1, i2, i3⟩ := rnodes_inv m [] l1 ns' l2 (fun y hy => hb y (by rw [q1]; simp [hy])) e2
      obtain ⟨o1, o2, _⟩ := rnodes_ok m [] l1 ns' l2 e2 inOk_nil
      rw [e2] at h
      simp only at h
      unfold rtail at h
      cases e3 : numU 4 0 0 l2 with
      | none => rw [e3] at h; cases h
      | some z =>
        obtain ⟨k, l3⟩ := z
        obtain ⟨q3, _⟩ := numU_inv0 i3 e3
        rw [e3] at h
        simp only at h
        split at h
        · cases h
        rename_i hk
        cases e4 : rootsG (ns'.length + 2) k [] l3 with
        | none => rw [e4] at h; cases h
        | some u =>
          obtain ⟨rs', l4⟩ := u
          obtain ⟨j1, _⟩ := rootsG_inv _ k [] l3 rs' l4 (fun y hy => i3 y (by rw [q3]; simp [hy])) e4
          obtain ⟨p1, p2⟩ := rootsG_ok (ns'.length + 2) k [] l3 rs' l4 e4 (fun r hr => by simp at hr)
          rw [e4] at h
          simp only at h
          split at h
          · rename_i h4
            cases h
            simp only [List.length_nil, List.drop_zero, Nat.zero_add] at i1 j1 o2 p2
            have hl : l = numB ns.length ++ (ns.flatMap nodeB ++ (numB rs.length ++ (rs.flatMap (fun a => numB a.toNat)))) := by
              rw [q1, i1, q3, j1, h4, o2, p2]; simp
            refine ⟨?_, o1, fun r hr => ?_, by omega, ?_⟩
            · rw [hl]; unfold bodyB headB; simp
            · have := p1 r hr; omega
            · have hnl := nodes_ge ns
              rw [hl]
              simp only [List.length_append]
              omega
          · cases h
theorem rnodes_back (tail : List Nat) : ∀ (rest pre : List Nd), InOk (pre ++ rest) → (pre ++ rest).length ≤ 1048576 → rnodes rest.length pre (rest.flatMap nodeB ++ tail) = some (pre ++ rest, tail)
  | [], pre, _, _ => by simp [rnodes]
  | x :: rest, pre, hN, hl => by
    have hx : (pre ++ x :: rest)[pre.length]? = some x := by simp
    obtain ⟨a1, a2, a3, a4, a5, a6⟩ := hN.ok pre.length x hx
    simp only [List.length_append, List.length_cons] at hl
    have e1 : x.1.toNat % 256 = x.1.toNat := Nat.mod_eq_of_lt (by omega)
    have e2 : (x :: rest).flatMap nodeB ++ tail = x.1.toNat :: (numB x.2.1.toNat ++ (numB x.2.2.toNat ++ (rest.flatMap nodeB ++ tail))) := by
      simp [nodeB, e1]
    rw [e2, List.length_cons, rnodes, numU_numB _ (by omega)]
    simp only
    rw [numU_numB _ (by omega)]
    simp only
    rw [if_neg (by omega)]
    have e3 : (((x.1.toNat : Nat) : Int), ((x.2.1.toNat : Nat) : Int), ((x.2.2.toNat : Nat) : Int)) = x := by
      obtain ⟨x1, x2, x3⟩ := x
      simp only [Prod.mk.injEq]
      simp only at a1 a3 a5
      omega
    rw [e3]
    have := rnodes_back tail rest (pre ++ [x]) (by simpa using hN) (by simp; omega)
    simpa using this
theorem rparts_back {ns : List Nd} {rs : List Int} (hN : InOk ns) (hn : ns.length ≤ 1048576) (hr : ∀ r ∈ rs, 0 ≤ r ∧ r < ns.length + 2) (hl : rs.length ≤ 64) : rparts ((bodyB ns rs).drop 3) = some (ns, rs) := by
  have e : (bodyB ns rs).drop 3 = numB ns.length ++ (ns.flatMap nodeB ++ (numB rs.length ++ (rs.flatMap (fun a => numB a.toNat) ++ []))) := by
    unfold bodyB headB
    simp
  unfold rparts rparts1
  rw [e, numU_numB _ (by omega)]
  simp only
  rw [if_neg (by omega)]
  have h1 := rnodes_back (numB rs.length ++ (rs.flatMap (fun a => numB a.toNat) ++ [])) ns [] (by simpa using hN) (by simpa using hn)
  simp only [List.nil_append] at h1
  rw [h1]
  simp only
  unfold rtail
  rw [numU_numB _ (by omega)]
  simp only
  rw [if_neg (by omega)]
  have h2 := rootsG_back (bel := ns.length + 2) (by omega) [] rs [] (fun r h => by have := hr r h; omega)
  simp only [List.nil_append] at h2
  rw [h2]
  simp
section
variable {ns : List Nd} {rs : List Int}
/-- An order that is the nodes' own numbers each one as it is. -/
theorem ordR_self (hN : NsOk ns) (hd : ns.Nodup) (hr : ∀ r ∈ rs, okR ns r) (h : (ordR ns rs).1 = ns) : (ordR ns rs).2 = rs := by
  obtain ⟨i1, i2, i3, i4⟩ := ordL_inv (rk := fun a => a.toNat) (atR_lo hN) (atR_hi hN) (ns.length + 2) rs [(1, 1)] [] [] (fun a ha => ⟨hr a ha, by have := (hr a ha); unfold okR at this; omega⟩) (OrdInv.start _ _)
  rw [show (ordL (atR ns) (ns.length + 2) [(1, 1)] [] [] rs) = ordR ns rs from rfl] at i1 i4
  rw [h] at i1
  generalize ordK (atR ns) (ns.length + 2) [(1, 1)] [] rs = K at *
  have z0 : numK K 0 = 0 := by
    unfold numK
    cases e : aget K 0 with
    | none => rfl
    | some k =>
      rcases i1.num 0 k e with ⟨q, _⟩ | ⟨_, _, q, _⟩
      · omega
      · unfold atR at q; rw [if_pos (by omega)] at q; cases q
  have z1 : numK K 1 = 1 := by unfold numK; rw [i1.one]; rfl
  have key : ∀ (n : Nat) (a : Int), a.toNat < n → okR ns a → Kn (atR ns) K a → numK K a = a := by
    intro n
    induction n with
    | zero => intro a hlt; omega
    | succ n ih =>
      intro a hlt ha hk
      by_cases h2 : a < 2
      · have : a = 0 ∨ a = 1 := by have := ha.1; omega
        rcases this with rfl | rfl
        · exact z0
        · exact z1
      · rcases hk with hk | hk
        · obtain ⟨k, hk⟩ := Option.isSome_iff_exists.1 hk
          rcases i1.num a k hk with ⟨q, _⟩ | ⟨_, _, ht, q1, q2, q3, q4, q5, q6, q7⟩
          · omega
          · obtain ⟨j, x, e, hj, hat⟩ := atR_yes ha ht
            have l1 := atR_lo hN a ha ht
            have l2 := atR_hi hN a ha ht
            rw [ih _ (by omega) l1.2 q4, ih _ (by omega) l2.2 q5, hat] at q3
            have hjl := (List.getElem?_eq_some_iff.1 hj).1
            have e3 : (k - 2).toNat = j := by
              have hkl : (k - 2).toNat < ns.length := by omega
              have hkk : ns[(k - 2).toNat]? = some x := by simpa using q3
              have e1 : ns[(k - 2).toNat] = ns[j] := by
                have a1 := List.getElem?_eq_getElem hkl
                have a2 := List.getElem?_eq_getElem hjl
                rw [hkk] at a1
                rw [hj] at a2
                injection a1 with a1
                injection a2 with a2
                rw [← a1, ← a2]
              exact (List.getElem_inj hd).1 e1
            unfold numK
            rw [hk]
            simp only [Option.getD_some]
            omega
        · unfold atR at hk; rw [if_neg h2] at hk; cases hk
  rw [i4]
  simp only [List.nil_append]
  conv => rhs; rw [← List.map_id rs]
  exact List.map_congr_left (fun a ha => key (a.toNat + 1) a (by omega) (hr a ha) (i3 a ha))
theorem ordR_in (hN : NsOk ns) (hr : ∀ r ∈ rs, okR ns r) : InOk (ordR ns rs).1 ∧ (∀ r ∈ (ordR ns rs).2, 0 ≤ r ∧ r < (ordR ns rs).1.length + 2) ∧ (ordR ns rs).2.length = rs.length := by
  obtain ⟨i1, i2, i3, i4⟩ := ordL_inv (rk := fun a => a.toNat) (atR_lo hN) (atR_hi hN) (ns.length + 2) rs [(1, 1)] [] [] (fun a ha => ⟨hr a ha, by have := (hr a ha); unfold okR at this; omega⟩) (OrdInv.start _ _)
  rw [show (ordL (atR ns) (ns.length + 2) [(1, 1)] [] [] rs) = ordR ns rs from rfl] at i1 i4
  generalize ordK (atR ns) (ns.length + 2) [(1, 1)] [] rs = K at *
  rw [List.nil_append] at i4
  refine ⟨⟨fun i x hx => ?_⟩, fun r hr' => ?_, by rw [i4]; simp⟩
  · obtain ⟨a, ha⟩ := i1.all i (List.getElem?_eq_some_iff.1 hx).1
    rcases i1.num a _ ha with ⟨_, e⟩ | ⟨_, ho, ht, _, _, q3, q4, q5, q6, q7⟩
    · omega
    · obtain ⟨j, y, e, hj, hat⟩ := atR_yes ho ht
      obtain ⟨a1, a2, _⟩ := hN.ok j y hj
      rw [show ((i : Int) + 2 - 2).toNat = i by omega, hx, hat] at q3
      injection q3 with q3
      have n1 := numK_le i1 (atR ns a).1.2.1
      have n2 := numK_le i1 (atR ns a).1.2.2
      rw [hat] at n1 n2 q6 q7
      subst q3
      exact ⟨a1, a2, n1.1, q6, n2.1, q7⟩
  · rw [i4] at hr'
    obtain ⟨a, _, rfl⟩ := List.mem_map.1 hr'
    exact numK_le i1 a
theorem sealB_inj {a b : List Nat} (h : sealB a = sealB b) : a = b := by
  have hl := congrArg List.length h
  rw [sealB_length, sealB_length] at hl
  have := congrArg (List.take a.length) h
  unfold sealB at this
  rw [List.take_append_of_le_length (Nat.le_refl _), List.take_length, List.take_append_of_le_length (by omega), List.take_of_length_le (by omega)] at this
  exact this
/-- The document's last look is the program's. -/
theorem bytes_iff {l : List Nat} (hb : ∀ y ∈ l, y < 256) (hp : parseV (l.drop 3) = some (ns, rs)) (hm : l.take 3 = [81, 66, 1]) (hl : l.length ≤ 100000) (hd : ns.Nodup) :
    writeB (ordR ns rs).1 (ordR ns rs).2 = sealB l ↔ (ordR ns rs).1 = ns := by
  obtain ⟨h1, h2⟩ := (parse_same (l.drop 3) (ns, rs)).2 hp
  have hbd : ∀ y ∈ l.drop 3, y < 256 := fun y hy => hb y (List.mem_of_mem_drop hy)
  obtain ⟨q1, q2, q3, q4, q5⟩ := rparts_inv hbd h1
  obtain ⟨hN, hr, _, _⟩ := parseV_ok hp
  rw [List.length_drop] at q5
  obtain ⟨o1, o2, o3⟩ := ordR_in hN hr
  have o4 := ordR_len hN hr
  have hbody : ∀ a b, (bodyB a b).take 3 = [81, 66, 1] := fun a b => by unfold bodyB headB; simp
  have hlb : l = bodyB ns rs := by
    rw [← List.take_append_drop 3 l, hm, q1, ← hbody ns rs, List.take_append_drop]
  constructor
  · intro h
    unfold writeB at h
    have e := sealB_inj h
    have e2 := rparts_back o1 (by omega) o2 (by omega)
    rw [e, h1] at e2
    injection e2 with e2
    exact (Prod.mk.inj e2).1.symm
  · intro h
    rw [ordR_self hN hd hr h, h]
    unfold writeB
    rw [← hlb]
end
end Go.Proofs.Ytboekafmplomhaa
