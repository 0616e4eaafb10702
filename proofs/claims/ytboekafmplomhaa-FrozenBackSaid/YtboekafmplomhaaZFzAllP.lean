/-
  Package frozen: the cursor over bytes (one, number), the reader's top.
-/
import Derived.Test.YtboekafmplomhaaZFzWt
import Derived.Test.YtboekafmplomhaaZFzParse
set_option linter.unusedVariables false
set_option linter.unusedSimpArgs false
namespace Go.Proofs.Ytboekafmplomhaa
open Go.RowKit

theorem setRow_set {w : World} {g : Nat} {cs : List Value} (i : Nat) (v : Value) : (w.setRow g cs.toArray).setCell ⟨g, i, none⟩ v = w.setRow g (cs.set i v).toArray := by
  simp only [World.setRow, World.setCell]
  congr 1
  apply Array.ext_getElem?
  intro k
  simp only [Array.getElem?_modify]
  by_cases e : g = k
  · subst e
    simp only [if_true, Option.map_map]
    cases w.heap[g]? with
    | none => rfl
    | some o => cases o <;> simp
  · simp only [if_neg e]
theorem setRow_same {w : World} {g : Nat} {e : TypeId} {cs : List Value} (h : Blk w g e cs) : w.setRow g cs.toArray = w := by
  unfold Blk at h
  simp only [World.setRow]
  congr 1
  apply Array.ext_getElem?
  intro k
  simp only [Array.getElem?_modify]
  by_cases e : g = k
  · subst e
    rw [if_pos rfl, h]
    rfl
  · rw [if_neg e]
/-- The bytes that are left from a place on. -/
structure CurS (w : World) (b off n c : Nat) (l : List Nat) : Prop where
  len : l.length = n
  cap : n + 4 ≤ c
  max : n ≤ 8388608
  lt : b < w.heap.size
  at_ : ∀ i (h : i < l.length), w.cell? ⟨b, off + i, none⟩ = some (.int .u8 (l[i] : Nat))
  byte : ∀ y ∈ l, y < 256
theorem CurS.keep {w w' : World} {b off n c : Nat} {l : List Nat} (h : CurS w b off n c l) (hk : w'.heap[b]? = w.heap[b]?) (hl : b < w'.heap.size) : CurS w' b off n c l :=
  ⟨h.len, h.cap, h.max, hl, fun i hi => (cell_of_heap _ hk).trans (h.at_ i hi), h.byte⟩
def curV (b off n c j : Nat) : Value := .slice (some ⟨b, off + j, none⟩) (n - j) (c - j)
/-- One byte taken: its value, the place, and whether the bytes had ended. -/
def oneT (l : List Nat) (j : Nat) (bad : Bool) : Nat × Nat × Bool := if j < l.length then (l.getD j 0, j + 1, bad) else (0, j, true)
set_option maxHeartbeats 4000000 in
theorem one_at {w : World} {b off n c j R : Nat} {l : List Nat} {e : TypeId} {bad : Bool} {xs : List Value} (C : CurS w b off n c l) (hR : Blk w R e (curV b off n c j :: .bool bad :: xs)) (hj : j ≤ n) (hbR : b ≠ R) :
    Calls Try.prog 147 #[.pointer (some ⟨R, 0, none⟩)] w
      (fun e w' => e = .returned (.int .i64 ((oneT l j bad).1 : Nat)) ∧ w' = w.setRow R (curV b off n c (oneT l j bad).2.1 :: .bool (oneT l j bad).2.2 :: xs).toArray) := by
  have c0 := hR.cell 0
  have c1 := hR.cell 1
  have f0 := hR.free 0
  have f1 := hR.free 1
  have z := hR.lt
  simp only [List.getElem?_cons_zero, List.getElem?_cons_succ] at c0 c1
  unfold curV at c0
  have HR := hid hR
  have hn := C.len
  have hc := C.cap
  have hm := C.max
  by_cases hlt : j < l.length
  · have e1 : oneT l j bad = (l[j], j + 1, bad) := by unfold oneT; rw [if_pos hlt]; simp [List.getD_eq_getElem?_getD, List.getElem?_eq_getElem hlt]
    rw [e1]
    have cc := C.at_ j hlt
    have hb := C.lt
    have hx := C.byte _ (List.getElem_mem hlt)
    generalize l[j] = x at *
    clear e1 C
    obtain ⟨k, hk⟩ : ∃ k, k = n - j := ⟨_, rfl⟩
    obtain ⟨ck, hck⟩ : ∃ k, k = c - j := ⟨_, rfl⟩
    rw [← hk, ← hck] at c0
    have k1 : ((k : Int) == 0) = false := beq_eq_false_iff_ne.2 (by omega)
    have k2 : ¬ ck = 1 := by omega
    have k3 : (0 : Int) < (k : Int) := by omega
    have k4 : 1 ≤ k := by omega
    have k5 : k ≤ ck := by omega
    have w8 : IntKind.i64.wrap (x : Int) = (x : Int) := IntWalk.i64_in _ (by omega)
    have HK := hid (And.intro hk (And.intro hck hlt))
    clear hk hck hlt hm hc
    go_enter Try.func147, Try.ntmps147
    go_wp2
    go_returns
    refine ⟨rfl, ?_⟩
    have h := setRow_set (w := w) (g := R) (cs := curV b off n c j :: .bool bad :: xs) 0 (.slice (some ⟨b, off + j + 1, none⟩) (k - 1) (ck - 1))
    rw [setRow_same HR.out] at h
    rw [h]
    have e2 : curV b off n c (j + 1) = .slice (some ⟨b, off + j + 1, none⟩) (k - 1) (ck - 1) := by
      unfold curV
      rw [HK.out.1, HK.out.2.1, Nat.sub_sub, Nat.sub_sub, Nat.add_assoc]
    rw [e2]
    rfl
  · have e1 : oneT l j bad = (0, j, true) := by unfold oneT; rw [if_neg hlt]
    rw [e1]
    have e2 : n - j = 0 := by omega
    rw [e2] at c0
    go_enter Try.func147, Try.ntmps147
    go_wp2
    go_returns
    refine ⟨rfl, ?_⟩
    rw [← setRow_same HR.out, setRow_set, setRow_same (HR.out)]
    rfl
theorem heap_setRow_ne {w : World} {g : Nat} (cs : Array Value) {k : Nat} (h : g ≠ k) : (w.setRow g cs).heap[k]? = w.heap[k]? := by
  simp only [World.setRow, Array.getElem?_modify, if_neg h]
theorem setRow_twice {w : World} {g : Nat} {e : TypeId} {xs : List Value} (h : Blk w g e xs) (cs ds : Array Value) : (w.setRow g cs).setRow g ds = w.setRow g ds := by
  simp only [World.setRow]
  congr 1
  apply Array.ext_getElem?
  intro k
  simp only [Array.getElem?_modify]
  by_cases e : g = k
  · subst e
    simp only [if_true, Option.map_map]
    cases w.heap[g]? with
    | none => rfl
    | some o => cases o <;> simp
  · simp only [if_neg e]
def numGT (l : List Nat) (bel : Nat) : Nat → Nat → Nat → Nat → Bool → Nat × Nat × Bool
  | 0, _, n, j, bad => (n, j, bad)
  | k + 1, sh, n, j, bad =>
    if (oneT l j bad).1 < 128 then (n + (oneT l j bad).1 * 2 ^ sh, (oneT l j bad).2.1, (oneT l j bad).2.2 || decide (bel ≤ n + (oneT l j bad).1 * 2 ^ sh) || (decide ((oneT l j bad).1 = 0) && decide (0 < sh)))
    else numGT l bel k (sh + 7) (n + ((oneT l j bad).1 - 128) * 2 ^ sh) (oneT l j bad).2.1 ((oneT l j bad).2.2 || decide (sh = 21))
def numT (l : List Nat) (bel j : Nat) (bad : Bool) : Nat × Nat × Bool :=
  (if (numGT l bel 4 0 0 j bad).2.2 then 0 else (numGT l bel 4 0 0 j bad).1, (numGT l bel 4 0 0 j bad).2.1, (numGT l bel 4 0 0 j bad).2.2)
theorem and127 : ∀ x : Fin 256, bits BinOp.and .i64 ((x.val : Nat) : Int) 127 = ((x.val % 128 : Nat) : Int) := by decide +kernel
theorem or_shift {a y s : Nat} (ha : a < 2 ^ s) (h : a + y * 2 ^ s < 9223372036854775808) : bits BinOp.or .i64 (a : Int) ((y * 2 ^ s : Nat) : Int) = ((a + y * 2 ^ s : Nat) : Int) := by
  have e : a ||| y * 2 ^ s = a + y * 2 ^ s := by
    rw [Nat.mul_comm, Nat.or_comm, ← Nat.two_pow_add_eq_or_of_lt ha, Nat.add_comm]
  have h1 : a % 2 ^ 64 = a := Nat.mod_eq_of_lt (by omega)
  have h2 : y * 2 ^ s % 2 ^ 64 = y * 2 ^ s := Nat.mod_eq_of_lt (by omega)
  simp only [bits, BitVec.ofInt_natCast, BitVec.toNat_or, BitVec.toNat_ofNat, show IntKind.i64.bits = 64 from rfl, h1, h2, e]
  exact IntWalk.i64_in _ (by omega)
theorem oneT_le {l : List Nat} {j : Nat} {bad : Bool} (hj : j ≤ l.length) : (oneT l j bad).2.1 ≤ l.length := by unfold oneT; split <;> simp <;> omega
theorem oneT_byte {l : List Nat} {j : Nat} {bad : Bool} (hl : ∀ y ∈ l, y < 256) : (oneT l j bad).1 < 256 := by
  unfold oneT
  split
  · rename_i h
    have e : l.getD j 0 = l[j] := by simp [List.getD_eq_getElem?_getD, List.getElem?_eq_getElem h]
    show l.getD j 0 < 256
    rw [e]
    exact hl _ (List.getElem_mem _)
  · show 0 < 256
    omega
set_option maxRecDepth 100000 in
set_option maxHeartbeats 8000000 in
theorem number_at {w : World} {b off n c j R : Nat} {l : List Nat} {e : TypeId} {bad : Bool} {xs : List Value} (C : CurS w b off n c l) (hR : Blk w R e (curV b off n c j :: .bool bad :: xs)) (hj : j ≤ n) (hbR : b ≠ R) (bel : Nat) (hbel : bel ≤ 10000000) :
    Calls Try.prog 146 #[.pointer (some ⟨R, 0, none⟩), .int .i64 bel] w
      (fun e w' => e = .returned (.int .i64 ((numT l bel j bad).1 : Nat)) ∧ w' = w.setRow R (curV b off n c (numT l bel j bad).2.1 :: .bool (numT l bel j bad).2.2 :: xs).toArray) := by
  have CH := hid C
  have HR := hid hR
  have hn := C.len
  unfold numT
  obtain ⟨T, hT⟩ : ∃ T, numGT l bel 4 0 0 j bad = T := ⟨_, rfl⟩
  rw [hT]
  have HT := hid hT
  clear C hR hT
  go_enter Try.func146, Try.ntmps146
  go_wp2_with fail
  go_loopw [5, 6] (fun nv sv wr => ∃ (k sh acc j' : Nat) (bad' : Bool), nv = .int .i64 acc ∧ sv = .int .i64 sh ∧ sh + 7 * k = 28 ∧ acc < 2 ^ sh ∧ j' ≤ n ∧ wr = w.setRow R (curV b off n c j' :: .bool bad' :: xs).toArray ∧ numGT l bel k sh acc j' bad' = T) (fun _ sv _ => 28 - (intOf sv).toNat)
  case atStart => exact ⟨4, 0, 0, j, bad, rfl, rfl, by omega, by omega, hj, (setRow_same HR.out).symm, HT.out⟩
  case round =>
    obtain ⟨k, sh, acc, j', bad', rfl, rfl, hsh, hacc, hj', hwr, hg⟩ := hrel
    have bW : Blk wr R e (curV b off n c j' :: .bool bad' :: xs) := by rw [hwr]; exact HR.out.row _
    have CW : CurS wr b off n c l := CH.out.keep (by rw [hwr]; exact heap_setRow_ne _ (fun q => hbR q.symm)) (by rw [hwr]; simpa [World.setRow] using CH.out.lt)
    have c1 := bW.cell 1
    have z := bW.lt
    simp only [List.getElem?_cons_zero, List.getElem?_cons_succ] at c1
    have HG := hid hg
    have HWR := hid hwr
    have BW := hid bW
    cases k with
    | zero =>
      obtain rfl : sh = 28 := by omega
      rw [numGT] at hg
      clear hwr bW
      subst hg
      cases bad'
      · go_wp2
        go_returns
        exact ⟨rfl, HWR.out⟩
      · go_wp2
        go_returns
        exact ⟨rfl, HWR.out⟩
    | succ k =>
      have hs1 : (sh : Int) < 28 := by omega
      have C1 := one_at CW bW hj' hbR
      rw [hwr, setRow_twice HR.out] at C1
      rw [← hwr] at C1
      have hob := oneT_byte (j := j') (bad := bad') CH.out.byte
      have hoj := oneT_le (l := l) (j := j') (bad := bad') (by omega)
      rw [numGT] at hg
      generalize oneT l j' bad' = O at *
      obtain ⟨x, j2, b2⟩ := O
      simp only at C1 hob hoj hg
      obtain ⟨W2, hW2⟩ : ∃ W, W = w.setRow R (curV b off n c j2 :: .bool b2 :: xs).toArray := ⟨_, rfl⟩
      rw [← hW2] at C1
      have bW2 : Blk W2 R e (curV b off n c j2 :: .bool b2 :: xs) := by rw [hW2]; exact HR.out.row _
      have HW2 := hid hW2
      have C1 := hid C1
      have hp : 2 ^ sh ≤ 2097152 := Nat.pow_le_pow_right (n := 2) (by omega) (show sh ≤ 21 by omega)
      obtain ⟨y, hy⟩ : ∃ y, y = x % 128 := ⟨_, rfl⟩
      have ha : bits BinOp.and .i64 (x : Int) 127 = (y : Int) := by rw [hy]; exact and127 ⟨x, hob⟩
      have hyl : y * 2 ^ sh ≤ 127 * 2097152 := Nat.mul_le_mul (by omega) hp
      have ho := or_shift (a := acc) (y := y) (s := sh) hacc (by omega)
      obtain ⟨z, hz⟩ : ∃ z, z = y * 2 ^ sh := ⟨_, rfl⟩
      have hsl : IntKind.i64.wrap ((y : Int) * 2 ^ sh) = (z : Int) := by
        have e : ((y : Int) * 2 ^ sh) = ((y * 2 ^ sh : Nat) : Int) := by simp
        rw [e, hz]
        exact IntWalk.i64_in _ (by omega)
      rw [← hz] at ho hyl
      have c1 := bW2.cell 1
      have f1 := bW2.free 1
      have z1 := bW2.lt
      simp only [List.getElem?_cons_zero, List.getElem?_cons_succ] at c1
      have BW2 := hid bW2
      have hm : acc + z < 300000000 := by omega
      have hs0 : ((sh : Int) : Int) ≤ 64 := by omega
      have HS := hid (And.intro hsh (And.intro hp (And.intro hacc (And.intro hz (And.intro hy hob)))))
      have hset := setRow_set (w := w) (g := R) (cs := curV b off n c j2 :: .bool b2 :: xs) 1
      rw [← hW2] at hset
      have HSET := hid hset
      obtain ⟨m, hm0⟩ : ∃ m, m = acc + z := ⟨_, rfl⟩
      rw [← hm0] at ho hm
      have hcol : m = acc + y * 2 ^ sh := by rw [hm0, hz]
      have HCOL := hid hcol
      clear hwr bW HG CW hW2 bW2 hz hy hset hcol hp hacc hsh hyl hm0
      by_cases hx : x < 128
      · have hx1 : (x : Int) < 128 := by omega
        rw [if_pos hx] at hg
        have e1 : x % 128 = x := Nat.mod_eq_of_lt hx
        have e2 : acc + x * 2 ^ sh = m := by rw [HCOL.out, HS.out.2.2.2.2.1, e1]
        rw [e2] at hg
        have HG := hid hg
        clear hg e1 e2
        obtain ⟨bb, hbb⟩ : ∃ bb, bb = (b2 || decide (bel ≤ m) || (decide (x = 0) && decide (0 < sh))) := ⟨_, rfl⟩
        have hg := HG.out
        rw [← hbb] at hg
        subst hg
        have HBB := hid hbb
        have C2 := C1.out
        clear HG C1 hbb HT HS HCOL
        go_upto_region 6 with ((with_reducible refine C2.mono ?_); clear C2; rintro e w2 ⟨rfl, rfl⟩)
        cases b2
        · by_cases h1 : bel ≤ m
          · have h1' : (bel : Int) ≤ (m : Int) := by omega
            have hb : bb = true := by rw [HBB.out]; simp [h1]
            subst hb
            clear HBB
            go_wp2; go_returns; exact ⟨rfl, HSET.out _⟩
          · have h1' : ¬ (bel : Int) ≤ (m : Int) := by omega
            by_cases h2 : x = 0
            · have h2' : ((x : Int) == 0) = true := by rw [h2]; rfl
              by_cases h3 : 0 < sh
              · have h3' : (0 : Int) < (sh : Int) := by omega
                have hb : bb = true := by rw [HBB.out]; simp [h2, h3]
                subst hb
                clear HBB h2
                go_wp2; go_returns; exact ⟨rfl, HSET.out _⟩
              · have h3' : ¬ (0 : Int) < (sh : Int) := by omega
                have hb : bb = false := by rw [HBB.out]; simp [h1, h2, h3]
                subst hb
                clear HBB h2
                go_wp2; go_returns; exact ⟨rfl, HSET.out _⟩
            · have h2' : ((x : Int) == 0) = false := beq_eq_false_iff_ne.2 (by omega)
              have hb : bb = false := by rw [HBB.out]; simp [h1, h2]
              subst hb
              clear HBB
              go_wp2; go_returns; exact ⟨rfl, HSET.out _⟩
        · have hb : bb = true := by rw [HBB.out]; simp
          subst hb
          clear HBB
          go_wp2; go_returns; exact ⟨rfl, HSET.out _⟩
      · have hx1 : ¬ (x : Int) < 128 := by omega
        rw [if_neg hx] at hg
        have e2 : acc + (x - 128) * 2 ^ sh = m := by rw [HCOL.out, HS.out.2.2.2.2.1, show x % 128 = x - 128 by have := HS.out.2.2.2.2.2; omega]
        rw [e2] at hg
        have hpw : m < 2 ^ (sh + 7) := by
          have h1 : (y + 1) * 2 ^ sh ≤ 128 * 2 ^ sh := Nat.mul_le_mul (by have := HS.out.2.2.2.2.1; omega) (Nat.le_refl _)
          have h2 : (2 : Nat) ^ (sh + 7) = 128 * 2 ^ sh := by rw [Nat.pow_add]; omega
          rw [Nat.add_mul, Nat.one_mul] at h1
          have := HS.out.2.2.1
          rw [HCOL.out, h2]
          omega
        have HPW := hid hpw
        have C2 := C1.out
        clear C1 e2 hpw
        go_upto_region 6 with ((with_reducible refine C2.mono ?_); clear C2; rintro e w2 ⟨rfl, rfl⟩)
        have hsh2 : sh ≤ 21 := by have := HS.out.1; omega
        cases b2
        · by_cases h3 : sh = 21
          · have h3' : ((sh : Int) == 21) = true := by rw [h3]; rfl
            have e3 : decide (sh = 21) = true := by simp [h3]
            have HGG := hid (show numGT l bel k (sh + 7) m j2 true = T by rw [e3] at hg; simpa using hg)
            clear h3 e3
            clear hg
            go_wp2
            go_roundw
            case rel =>
              refine ⟨k, sh + 7, m, j2, true, rfl, by go_num, by have := HS.out.1; omega, HPW.out, by omega, HSET.out _, HGG.out⟩
            case measure => simp [intOf]; omega
          · have h3' : ((sh : Int) == 21) = false := beq_eq_false_iff_ne.2 (by omega)
            have HGG := hid (show numGT l bel k (sh + 7) m j2 false = T by simpa [h3] using hg)
            clear hg
            go_wp2
            go_roundw
            case rel =>
              refine ⟨k, sh + 7, m, j2, false, rfl, by go_num, by have := HS.out.1; omega, HPW.out, by omega, HSET.out _, HGG.out⟩
            case measure => simp [intOf]; omega
        · have HGG := hid (show numGT l bel k (sh + 7) m j2 true = T by simpa using hg)
          clear hg
          go_wp2
          go_roundw
          case rel =>
            refine ⟨k, sh + 7, m, j2, true, rfl, by go_num, by have := HS.out.1; omega, HPW.out, by omega, HSET.out _, HGG.out⟩
          case measure => simp [intOf]; omega
end Go.Proofs.Ytboekafmplomhaa
set_option linter.unusedVariables false
set_option linter.unusedSimpArgs false
namespace Go.Proofs.Ytboekafmplomhaa

theorem oneT_true (l : List Nat) (j : Nat) : (oneT l j true).2.2 = true := by unfold oneT; split <;> rfl
theorem oneT_mono {l : List Nat} {j : Nat} {bad : Bool} (h : bad = true) : (oneT l j bad).2.2 = true := by subst h; exact oneT_true l j
theorem numGT_true (l : List Nat) (bel : Nat) : ∀ (k sh n j : Nat), (numGT l bel k sh n j true).2.2 = true
  | 0, _, _, _ => rfl
  | k + 1, sh, n, j => by
    rw [numGT]
    split
    · simp [oneT_true]
    · rw [oneT_true, Bool.true_or]
      exact numGT_true l bel k _ _ _
theorem numT_true (l : List Nat) (bel j : Nat) : (numT l bel j true).2.2 = true ∧ (numT l bel j true).1 = 0 := by
  unfold numT
  simp [numGT_true]
theorem numGT_le (l : List Nat) (bel : Nat) : ∀ (k sh n j : Nat) (bad : Bool), j ≤ l.length → (numGT l bel k sh n j bad).2.1 ≤ l.length
  | 0, _, _, _, _, h => h
  | k + 1, sh, n, j, bad, h => by
    rw [numGT]
    split
    · exact oneT_le h
    · exact numGT_le l bel k _ _ _ _ (oneT_le h)
theorem numT_le (l : List Nat) (bel : Nat) {j : Nat} (bad : Bool) (h : j ≤ l.length) : (numT l bel j bad).2.1 ≤ l.length := numGT_le l bel 4 0 0 j bad h
theorem numGT_rel (l : List Nat) (bel : Nat) : ∀ (k sh n j : Nat), 1 ≤ k → sh + 7 * k = 28 → j ≤ l.length →
    (numG bel k sh n (l.drop j) = none ∧ (numGT l bel k sh n j false).2.2 = true) ∨ (∃ a j2, j2 ≤ l.length ∧ numG bel k sh n (l.drop j) = some (a, l.drop j2) ∧ numGT l bel k sh n j false = (a, j2, false))
  | 0, _, _, _, h, _, _ => by omega
  | k + 1, sh, n, j, _, hs, hj => by
    rw [numGT]
    by_cases hlt : j < l.length
    · have e1 : oneT l j false = (l[j], j + 1, false) := by unfold oneT; rw [if_pos hlt]; simp [List.getD_eq_getElem?_getD, List.getElem?_eq_getElem hlt]
      rw [e1, List.drop_eq_getElem_cons hlt, numG]
      by_cases hx : l[j] < 128
      · rw [if_pos hx, if_pos hx]
        by_cases hb : bel ≤ n + l[j] * 2 ^ sh ∨ (l[j] = 0 ∧ 0 < sh)
        · rw [if_pos hb]
          refine .inl ⟨rfl, ?_⟩
          rcases hb with h | ⟨h1, h2⟩
          · simp [h]
          · simp [h1, h2]
        · rw [if_neg hb]
          refine .inr ⟨_, j + 1, hlt, rfl, ?_⟩
          simp only [Prod.mk.injEq, true_and]
          have h1 : ¬ bel ≤ n + l[j] * 2 ^ sh := fun q => hb (.inl q)
          by_cases h2 : l[j] = 0
          · have h3 : ¬ 0 < sh := fun q => hb (.inr ⟨h2, q⟩)
            rw [decide_eq_false h1, decide_eq_false h3]
            simp
          · rw [decide_eq_false h1, decide_eq_false h2]
            rfl
      · rw [if_neg hx, if_neg hx]
        by_cases hk : k = 0
        · subst hk
          have : sh = 21 := by omega
          subst this
          exact .inl ⟨rfl, rfl⟩
        · have : ¬ sh = 21 := by omega
          rw [decide_eq_false this]
          exact numGT_rel l bel k (sh + 7) _ (j + 1) (by omega) (by omega) hlt
    · have e1 : oneT l j false = (0, j, true) := by unfold oneT; rw [if_neg hlt]
      have e2 : l.drop j = [] := List.drop_eq_nil_of_le (by omega)
      rw [e1, e2, numG]
      exact .inl ⟨rfl, by simp⟩
theorem numT_rel (l : List Nat) (bel j : Nat) (hj : j ≤ l.length) :
    (numV bel (l.drop j) = none ∧ (numT l bel j false).2.2 = true ∧ (numT l bel j false).1 = 0) ∨ (∃ a j2, j2 ≤ l.length ∧ numV bel (l.drop j) = some (a, l.drop j2) ∧ numT l bel j false = (a, j2, false)) := by
  unfold numV numT
  rcases numGT_rel l bel 4 0 0 j (by omega) (by omega) hj with ⟨h1, h2⟩ | ⟨a, j2, h1, h2, h3⟩
  · exact .inl ⟨h1, h2, by simp [h2]⟩
  · refine .inr ⟨a, j2, h1, h2, ?_⟩
    rw [h3]
    rfl

def tailV (ns : List Nd) (l : List Nat) : Option (List Nd × List Int) :=
  match numV 65 l with
  | none => none
  | some (k, l3) =>
    match rootsG (ns.length + 2) k [] l3 with
    | none => none
    | some (rs, l4) => if l4 = [] then some (ns, rs) else none
def parse1 (m : Nat) (ns : List Nd) (l : List Nat) : Option (List Nd × List Int) :=
  match nodesG m ns l with
  | none => none
  | some (ns', l2) => tailV ns' l2
def parse2 (ns : List Nd) (m : Nat) (rs : List Int) (l : List Nat) : Option (List Nd × List Int) :=
  match rootsG (ns.length + 2) m rs l with
  | none => none
  | some (rs', l4) => if l4 = [] then some (ns, rs') else none
theorem parseV_eq (l : List Nat) : parseV l = match numV 8388608 l with | none => none | some (m, l1) => parse1 m [] l1 := rfl
theorem parse1_zero (ns : List Nd) (l : List Nat) : parse1 0 ns l = tailV ns l := by unfold parse1; rw [nodesG]
theorem tailV_eq (ns : List Nd) (l : List Nat) : tailV ns l = match numV 65 l with | none => none | some (k, l3) => parse2 ns k [] l3 := rfl
theorem parse2_zero (ns : List Nd) (rs : List Int) (l : List Nat) : parse2 ns 0 rs l = if l = [] then some (ns, rs) else none := by unfold parse2; rw [rootsG]
theorem parse2_more (ns : List Nd) (m : Nat) (rs : List Int) (l : List Nat) : parse2 ns (m + 1) rs l = match numV (ns.length + 2) l with | none => none | some (a, l1) => parse2 ns m (rs ++ [(a : Int)]) l1 := by
  unfold parse2
  rw [rootsG]
  cases numV (ns.length + 2) l with
  | none => rfl
  | some p => rfl
theorem parse1_nil (m : Nat) (ns : List Nd) : parse1 (m + 1) ns [] = none := by unfold parse1; rw [nodesG]
theorem parse1_more (m : Nat) (ns : List Nd) (v : Nat) (l1 : List Nat) : parse1 (m + 1) ns (v :: l1) =
    match numV (ns.length + 2) l1 with
    | none => none
    | some (lo, l2) =>
      match numV (ns.length + 2) l2 with
      | none => none
      | some (hi, l3) => if lo = hi ∨ min 64 (min (topR ns lo) (topR ns hi)) ≤ (v : Int) then none else parse1 m (ns ++ [((v : Int), (lo : Int), (hi : Int))]) l3 := by
  unfold parse1
  rw [nodesG]
  cases numV (ns.length + 2) l1 with
  | none => rfl
  | some p =>
    obtain ⟨lo, l2⟩ := p
    simp only
    cases numV (ns.length + 2) l2 with
    | none => rfl
    | some q =>
      obtain ⟨hi, l3⟩ := q
      simp only
      by_cases hc : lo = hi ∨ min 64 (min (topR ns lo) (topR ns hi)) ≤ (v : Int)
      · rw [if_pos hc, if_pos hc]
      · rw [if_neg hc, if_neg hc]
theorem node_rel (l : List Nat) (ns : List Nd) (m : Nat) {j x j1 y2 j2 y3 j3 : Nat} {b1 b2 b3 : Bool} (hj : j ≤ l.length) (O1 : (x, j1, b1) = oneT l j false) (O2 : (y2, j2, b2) = numT l (ns.length + 2) j1 b1) (O3 : (y3, j3, b3) = numT l (ns.length + 2) j2 b2) :
    (b3 = true → parse1 (m + 1) ns (l.drop j) = none) ∧
    (b3 = false → y2 < ns.length + 2 ∧ y3 < ns.length + 2 ∧ x ∈ l ∧ parse1 (m + 1) ns (l.drop j) = if y2 = y3 ∨ min 64 (min (topR ns y2) (topR ns y3)) ≤ (x : Int) then none else parse1 m (ns ++ [((x : Int), (y2 : Int), (y3 : Int))]) (l.drop j3)) := by
  by_cases hlt : j < l.length
  · have e1 : oneT l j false = (l[j], j + 1, false) := by unfold oneT; rw [if_pos hlt]; simp [List.getD_eq_getElem?_getD, List.getElem?_eq_getElem hlt]
    rw [e1] at O1
    cases O1
    rw [List.drop_eq_getElem_cons hlt, parse1_more]
    rcases numT_rel l (ns.length + 2) (j + 1) hlt with ⟨h1, h2, h3⟩ | ⟨a, k, hk, h1, h2⟩
    · rw [← O2] at h2
      cases h2
      have h4 := (numT_true l (ns.length + 2) j2).1
      rw [← O3] at h4
      cases h4
      rw [h1]
      exact ⟨fun _ => rfl, fun h => (by cases h)⟩
    · rw [h2] at O2
      cases O2
      rw [h1]
      simp only
      rcases numT_rel l (ns.length + 2) j2 hk with ⟨g1, g2, g3⟩ | ⟨a', k', hk', g1, g2⟩
      · rw [← O3] at g2
        cases g2
        rw [g1]
        exact ⟨fun _ => rfl, fun h => (by cases h)⟩
      · rw [g2] at O3
        cases O3
        rw [g1]
        exact ⟨fun h => (by cases h), fun _ => ⟨(numV_len h1).2, (numV_len g1).2, List.getElem_mem _, rfl⟩⟩
  · have e1 : oneT l j false = (0, j, true) := by unfold oneT; rw [if_neg hlt]
    rw [e1] at O1
    cases O1
    have h4 := (numT_true l (ns.length + 2) j).1
    rw [← O2] at h4
    cases h4
    have h5 := (numT_true l (ns.length + 2) j2).1
    rw [← O3] at h5
    cases h5
    rw [List.drop_eq_nil_of_le (by omega), parse1_nil]
    exact ⟨fun _ => rfl, fun h => (by cases h)⟩
end Go.Proofs.Ytboekafmplomhaa
