/- Pure laws: branches and ledgers: sizes, copies, equality. -/
import Derived.Test.YtojpcjbdehoibaaGreatKSA
import Derived.Laws.Strings
namespace Mir.Y
set_option linter.unusedVariables false
set_option linter.unusedSimpArgs false
open Go
abbrev K20 : Nat := 1048576
theorem wfTx {n : Nat} {s : ByteArray} (h : WfA E n .str s) : s.size ≤ maxLen := by cases n <;> exact h
theorem brEta (b : Branch) : Branch.mk b.Key b.Value b.At b.Kids = b := by cases b; rfl
def wfB : Nat → Branch → Prop
  | 0, _ => False
  | n + 1, b => b.Key.size ≤ maxLen ∧ b.Value.size ≤ maxLen ∧ b.Kids.length ≤ maxLen ∧ ∀ x ∈ b.Kids, wfB n x
/-- Branches no part of which is big; no deeper than the number. -/
def bok : Nat → Branch → Prop
  | 0, _ => False
  | n + 1, b => b.Key.size ≤ K20 ∧ b.Value.size ≤ K20 ∧ b.Kids.length ≤ K20 ∧ ∀ x ∈ b.Kids, bok n x
/-! ### Rows of texts -/
/-! ### Sessions -/
/-! ### Ledgers -/
theorem bytesOf_inj {a b : ByteArray} (h : bytesOf a = bytesOf b) : a = b := by
  have h1 : a.data.toList = b.data.toList := by
    unfold bytesOf at h
    refine (List.map_inj_right (fun x y hxy => ?_)).1 h
    exact UInt8.toNat_inj.1 (Int.ofNat.inj hxy)
  cases a; cases b
  simp only at h1
  exact congrArg _ (Array.toList_inj.1 h1)
theorem seq_iff {a b : ByteArray} : seq a b = true ↔ a = b := by
  constructor
  · intro h
    unfold seq at h
    have e1 := ByteArray.toList_eq a
    have e2 := ByteArray.toList_eq b
    rw [e1, e2, beq_iff_eq] at h
    cases a; cases b
    simp only at h
    exact congrArg _ (Array.toList_inj.1 h)
  · rintro rfl; exact seq_self a
theorem seq_dec {a b : ByteArray} {p : Prop} [Decidable p] (h : a = b ↔ p) : seq a b = decide p := by
  rw [Bool.eq_iff_iff, seq_iff, decide_eq_true_iff]; exact h
/-- Rows of numbers that fit in bytes. -/
def isBy (l : List Int) : Prop := ∀ x ∈ l, 0 ≤ x ∧ x < 256
theorem strOf_inj {a b : List Int} (ha : isBy a) (hb : isBy b) : strOf a = strOf b ↔ a = b := by
  constructor
  · intro h
    have := congrArg bytesOf h
    rwa [strOf_bytes a ha, strOf_bytes b hb] at this
  · rintro rfl; rfl
theorem strOf_take {l : List Int} (h : isBy l) (k : Nat) : (strOf l).extract 0 k = strOf (l.take k) := by
  apply bytesOf_inj
  rw [bytesOf_extract, strOf_bytes l h, strOf_bytes _ (fun x hx => h x (List.mem_of_mem_take hx))]
  simp
/-! ### Bits -/
def bt (h : ByteArray) (i : Nat) : Nat := ((sb h ((i / 8 : Nat) : Int)).toNat / 2 ^ (7 - i % 8)) % 2
theorem bt_lt (h : ByteArray) (i : Nat) : bt h i < 2 := Nat.mod_lt _ (by omega)
theorem bitI : ∀ n, n < 256 → ∀ r, r < 8 → ibit .and .i64 (w64 (Int.fdiv ((n : Nat) : Int) (2 ^ (min (Int.toNat (w64 ((7:Int) - ((r : Nat) : Int)))) 8)))) (1:Int) = ((n / 2 ^ (7 - r) % 2 : Nat) : Int) ∧ decide (w64 ((7:Int) - ((r : Nat) : Int)) < 0) = false := by decide +kernel
theorem bitS : ∀ n, n < 256 → ∀ r, r < 8 → ibit .and .i64 (w64 (Int.fdiv ((n : Nat) : Int) (2 ^ (min (Int.toNat (wu64 (w64 ((7:Int) - ((r : Nat) : Int))))) 8)))) (1:Int) = ((n / 2 ^ (7 - r) % 2 : Nat) : Int) ∧ decide (wu64 (w64 ((7:Int) - ((r : Nat) : Int))) < 0) = false := by decide +kernel
theorem bitT : ∀ n, n < 256 → ∀ r, r < 8 → wu8 ((48:Int) + (ibit .and .u8 (Int.fdiv ((n : Nat) : Int) (2 ^ (min (Int.toNat (wu64 ((7:Int) - ((r : Nat) : Int)))) 8))) (1:Int))) = ((48 + n / 2 ^ (7 - r) % 2 : Nat) : Int) ∧ decide (wu64 ((7:Int) - ((r : Nat) : Int)) < 0) = false := by decide +kernel
theorem sbN (h : ByteArray) (j : Nat) : ∃ n : Nat, sb h (j : Int) = (n : Int) ∧ n < 256 ∧ (sb h (j : Int)).toNat = n := by
  have := sb_range h (j : Int)
  exact ⟨(sb h (j : Int)).toNat, by omega, by omega, rfl⟩
theorem implBit (N : Nat) {h : ByteArray} (hh : h.size = 32) {i : Nat} (hi : i < 256) : impl_bit.m N h (i : Int) = some (bt h i : Int) := by
  unfold impl_bit.m
  have e1 : Int.tdiv (i : Int) 8 = ((i / 8 : Nat) : Int) := rfl
  have e2 : Int.tmod (i : Int) 8 = ((i % 8 : Nat) : Int) := rfl
  have e3 : w64 ((i / 8 : Nat) : Int) = ((i / 8 : Nat) : Int) := w_small (by omega) (by omega)
  obtain ⟨n, h1, h2, h3⟩ := sbN h (i / 8)
  obtain ⟨k1, k2⟩ := bitI n h2 (i % 8) (Nat.mod_lt _ (by omega))
  simp only [e1, e2, e3, h1, k1, k2, nn_dec, decide_eq_true (show ((i / 8 : Nat) : Int) < (h.size : Int) by omega), cond_true, Bool.not_false, show (!decide ((8:Int) = 0)) = true from rfl]
  rw [bt, h3]
theorem specBit (N : Nat) {h : ByteArray} (hh : h.size = 32) {i : Nat} (hi : i < 256) : spec_l07Bit.m N h (i : Int) = some (bt h i : Int) := by
  unfold spec_l07Bit.m
  have e1 : Int.tdiv (i : Int) 8 = ((i / 8 : Nat) : Int) := rfl
  have e2 : Int.tmod (i : Int) 8 = ((i % 8 : Nat) : Int) := rfl
  have e3 : w64 ((i / 8 : Nat) : Int) = ((i / 8 : Nat) : Int) := w_small (by omega) (by omega)
  obtain ⟨n, h1, h2, h3⟩ := sbN h (i / 8)
  obtain ⟨k1, k2⟩ := bitS n h2 (i % 8) (Nat.mod_lt _ (by omega))
  simp only [e1, e2, e3, h1, k1, k2, nn_dec, decide_eq_true (show ((i / 8 : Nat) : Int) < (h.size : Int) by omega), cond_true, Bool.not_false, show (!decide ((8:Int) = 0)) = true from rfl]
  rw [bt, h3]
def bitL (h : ByteArray) (n : Nat) : List Int := (List.range n).map fun i => ((48 + bt h i : Nat) : Int)
theorem bitL_length (h : ByteArray) (n : Nat) : (bitL h n).length = n := by simp [bitL]
theorem bitL_snoc (h : ByteArray) (n : Nat) : bitL h n ++ [((48 + bt h n : Nat) : Int)] = bitL h (n + 1) := by simp [bitL, List.range_succ]
theorem bitL_by (h : ByteArray) (n : Nat) : isBy (bitL h n) := by
  intro x hx
  simp only [bitL, List.mem_map] at hx
  obtain ⟨i, _, rfl⟩ := hx
  have := bt_lt h i
  omega
theorem bitL_take (h : ByteArray) {k n : Nat} (hk : k ≤ n) : (bitL h n).take k = bitL h k := by
  rw [bitL, ← List.map_take, List.take_range, Nat.min_eq_left hk]; rfl
theorem specBits {N : Nat} (hN : Big N) (h : ByteArray) (hh : h.size = 32) : spec_l01Bits.m N h = some (strOf (bitL h 256)) := by
  unfold spec_l01Bits.m spec_l01Bits.lp3
  have inner : ∀ (i : Nat), i < 32 → ∀ r3, spec_l01Bits.lp6 N h r3 ((i : Int), 7, bitL h (8 * i)) = r3 (((i + 1 : Nat) : Int), bitL h (8 * (i + 1))) := by
    intro i hi r3
    unfold spec_l01Bits.lp6
    have := miter_up (step := fun rec => spec_l01Bits.step6 N h r3 rec) (n := 8) (st := fun j => ((i : Int), 7 - (j : Int), bitL h (8 * i + j))) (r := r3 (((i + 1 : Nat) : Int), bitL h (8 * (i + 1)))) (fun j hj rec => by
      obtain ⟨n, h1, h2, h3⟩ := sbN h i
      obtain ⟨k1, k2⟩ := bitT n h2 j hj
      have e1 : w64 (7 - (j : Int) - 1) = 7 - ((j + 1 : Nat) : Int) := by rw [w_small (by omega) (by omega)]; omega
      have eb : ((48 + n / 2 ^ (7 - j) % 2 : Nat) : Int) = ((48 + bt h (8 * i + j) : Nat) : Int) := by
        rw [bt, show (8 * i + j) / 8 = i by omega, show (8 * i + j) % 8 = j by omega, h3]
      simp only [spec_l01Bits.step6, decide_eq_true (show 7 - (j : Int) ≥ 0 by omega), cond_true, nn_dec, decide_eq_true (show (i : Int) < (h.size : Int) by omega), h1, k1, k2, Bool.not_false, e1, eb, bitL_snoc]
      rw [roomS (by simp only [bitL_length, List.length_singleton]; omega), cond_true]
      rfl) (fun rec => by
      simp only [spec_l01Bits.step6, decide_eq_false (show ¬ 7 - ((8 : Nat) : Int) ≥ 0 by omega), cond_false]
      rw [w_up i 32 hi (by omega), show 8 * i + 8 = 8 * (i + 1) by omega]) 8 0 N (by omega) (by omega)
    exact this
  have := miter_up (step := fun rec => spec_l01Bits.step3 N h (spec_l01Bits.lp6 N h rec) rec) (n := 32) (st := fun i => ((i : Int), bitL h (8 * i))) (r := some (strOf (bitL h 256))) (fun i hi rec => by
    simp only [spec_l01Bits.step3, decide_eq_true (show (i : Int) < (h.size : Int) by omega), cond_true]
    exact inner i hi rec) (fun rec => by
    simp only [spec_l01Bits.step3, decide_eq_false (show ¬ ((32 : Nat) : Int) < (h.size : Int) by omega), cond_false]) 32 0 N (by omega) (by omega)
  exact this
def pre (x : Branch) (k : Nat) : List Int := bitL (hb x.Key) k
theorem pre_length (x : Branch) (k : Nat) : (pre x k).length = k := bitL_length _ _
theorem pre_take (x : Branch) {j k : Nat} (h : j ≤ k) : (pre x k).take j = pre x j := bitL_take _ h
theorem pre_succ (x : Branch) (k : Nat) : pre x (k + 1) = pre x k ++ [((48 + bt (hb x.Key) k : Nat) : Int)] := (bitL_snoc _ _).symm
def keyP (x : Branch) : Prop := 1 ≤ x.Key.size ∧ x.Key.size ≤ 24
def Lv : Nat → Branch → List Branch
  | 0, _ => []
  | n + 1, b => match b.Kids with
    | [] => [b]
    | ks => ks.flatMap (Lv n)
/-- A good branch all of whose leaves begin so. -/
def C : Nat → Branch → List Int → Prop
  | 0, _, _ => False
  | n + 1, b, P => (b.Kids = [] ∧ keyP b ∧ b.Value.size ≤ 60 ∧ b.At = 256 ∧ P.length ≤ 256 ∧ pre b P.length = P) ∨
      ∃ (x y : Branch) (Q : List Int) (A : Nat), b.Kids = [x, y] ∧ b.Key = ByteArray.empty ∧ b.Value = ByteArray.empty ∧ b.At = (A : Int) ∧ Q.length = A ∧ P.length ≤ A ∧ A ≤ 255 ∧ P = Q.take P.length ∧ C n x (Q ++ [48]) ∧ C n y (Q ++ [49])
theorem Lv_leaf {n : Nat} {b : Branch} (h : b.Kids = []) : Lv (n + 1) b = [b] := by
  show (match b.Kids with | [] => [b] | ks => ks.flatMap (Lv n)) = _
  rw [h]
theorem Lv_fork {n : Nat} {b x y : Branch} (h : b.Kids = [x, y]) : Lv (n + 1) b = Lv n x ++ Lv n y := by
  show (match b.Kids with | [] => [b] | ks => ks.flatMap (Lv n)) = _
  rw [h]; simp
theorem C_all : ∀ {n : Nat} {b : Branch} {P : List Int}, C n b P → ∀ l ∈ Lv n b, keyP l ∧ pre l P.length = P
  | 0, _, _, h => h.elim
  | n + 1, b, P, .inl ⟨h1, h2, _, _, _, h6⟩ => by
    intro l hl
    rw [Lv_leaf h1, List.mem_singleton] at hl
    subst hl
    exact ⟨h2, h6⟩
  | n + 1, b, P, .inr ⟨x, y, Q, A, h1, _, _, _, h5, h6, _, h8, hx, hy⟩ => by
    intro l hl
    rw [Lv_fork h1, List.mem_append] at hl
    have : ∀ (c : Int), keyP l ∧ pre l (Q ++ [c]).length = Q ++ [c] → keyP l ∧ pre l P.length = P := by
      rintro c ⟨k1, k2⟩
      refine ⟨k1, ?_⟩
      have k3 := congrArg (List.take P.length) k2
      have hle : P.length ≤ (Q ++ [c]).length := by simp; omega
      rw [pre_take _ hle, List.take_append_of_le_length (by omega), ← h8] at k3
      exact k3
    rcases hl with hl | hl
    · exact this _ (C_all hx l hl)
    · exact this _ (C_all hy l hl)
theorem C_pos : ∀ {n : Nat} {b : Branch} {P : List Int}, C n b P → 0 < (Lv n b).length
  | 0, _, _, h => h.elim
  | n + 1, b, P, .inl ⟨h1, _⟩ => by rw [Lv_leaf h1]; exact Nat.one_pos
  | n + 1, b, P, .inr ⟨x, y, Q, A, h1, _, _, _, _, _, _, _, hx, _⟩ => by rw [Lv_fork h1, List.length_append]; have := C_pos hx; omega
/-- Down the first kids. -/
def dn : Nat → Branch → Branch
  | 0, x => x
  | k + 1, x => match x.Kids with
    | [] => x
    | y :: _ => dn k y
theorem dn_leaf {k : Nat} {x : Branch} (h : x.Kids = []) : dn k x = x := by cases k <;> simp [dn, h]
theorem C_dn : ∀ {n : Nat} {b : Branch} {P : List Int} {k : Nat}, C n b P → 256 - P.length ≤ k → (dn k b).Kids = [] ∧ dn k b ∈ Lv n b
  | 0, _, _, _, h, _ => h.elim
  | n + 1, b, P, k, .inl ⟨h1, _⟩, _ => by rw [dn_leaf h1, Lv_leaf h1]; exact ⟨h1, List.mem_singleton_self _⟩
  | n + 1, b, P, k, .inr ⟨x, y, Q, A, h1, _, _, _, h5, h6, h7, _, hx, _⟩, hk => by
    obtain ⟨k, rfl⟩ : ∃ j, k = j + 1 := ⟨k - 1, by omega⟩
    have e : dn (k + 1) b = dn k x := by simp only [dn, h1]
    obtain ⟨h, h'⟩ := C_dn hx (k := k) (by simp; omega)
    rw [e, Lv_fork h1]
    exact ⟨h, List.mem_append_left _ h'⟩
/-! ### What the specification counts -/
def keyB (x : Branch) : Bool := decide ((x.Key.size : Int) ≥ 1) && decide ((x.Key.size : Int) ≤ 24)
theorem keyB_iff (x : Branch) : keyB x = true ↔ keyP x := by
  unfold keyB keyP
  rw [Bool.and_eq_true, decide_eq_true_iff, decide_eq_true_iff]; omega
theorem l02Key (N : Nat) (x : Branch) : spec_l02Key.m N x.Key = some (keyB x) := by
  unfold spec_l02Key.m keyB
  cases decide ((x.Key.size : Int) ≥ 1) <;> rfl
theorem l07Hash {N : Nat} (hN : Big N) (s : ByteArray) (h : s.size ≤ 2097152) : spec_l07Hash.m N s = some (hb s) := by
  unfold spec_l07Hash.m
  first
    | (rw [specHash hN s h]; rfl)
    | (rw [roomS (by omega), cond_true, specHash hN s h]; rfl)
def lfB (x : Branch) : Bool := ((x.Kids.length : Int) == 0)
theorem lfB_iff (x : Branch) : lfB x = true ↔ x.Kids = [] := by
  unfold lfB
  rw [beq_iff_eq]
  constructor
  · intro h; exact List.eq_nil_of_length_eq_zero (by omega)
  · intro h; rw [h]; rfl
theorem isBy_pre (x : Branch) (k : Nat) : isBy (pre x k) := bitL_by _ _
/-- What stands behind the descent. -/
noncomputable def fin (N : Nat) (slf : Branch → Int → ByteArray → Int → Option Int) (b : Branch) (P : List Int) (most : Int) (x : Branch) : Option Int :=
  bif lfB x && keyB x then bif seq (strOf (pre x P.length)) (strOf P) then spec_l07Count.lp21 N slf b (P.length : Int) (strOf P) most (strOf (pre x b.At.toNat), 0, 0) else some (-1) else some (-1)
theorem miter_s {α R : Type} (g : (α → Option R) → α → Option R) (K : Nat) (s : α) : miter g (K + 1) s = g (miter g K) s := rfl
theorem descend {N : Nat} (hN : Big N) (slf : Branch → Int → ByteArray → Int → Option Int) (b : Branch) (P : List Int) (most : Int) (h0 : (P.length : Int) ≤ b.At) (h1 : b.At ≤ 255) :
    ∀ (k K : Nat) (n : Nat) (x : Branch), k ≤ 256 → k < K → bok n x → miter (fun rec => spec_l07Count.step11 N slf b (P.length : Int) (strOf P) most (spec_l07Count.lp21 N slf b (P.length : Int) (strOf P) most) rec) K (256 - (k : Int), x.Key, x.Value, x.At, x.Kids) = fin N slf b P most (dn k x) := by
  obtain ⟨A, hA⟩ : ∃ A : Nat, b.At = (A : Int) := ⟨b.At.toNat, by omega⟩
  have fino : ∀ (n : Nat) (x : Branch), bok n x → (bif (!lfB x) then some (-1) else bif (bif false then true else (!keyB x)) then some (-1) else ob (spec_l07Hash.m N x.Key) fun y9 => ob (spec_l01Bits.m N y9) fun y10 =>
      bif (decide (0 ≤ b.At)) then
      bif (decide (b.At ≤ ((y10.size : Nat) : Int))) then
      bif (decide (((strOf P).size : Int) > ((y10.extract 0 (Int.toNat b.At)).size : Int))) then
        some (-1:Int)
      else
      bif (decide (0 ≤ ((strOf P).size : Int))) then
      bif (decide (((strOf P).size : Int) ≤ (((y10.extract 0 (Int.toNat b.At)).size : Nat) : Int))) then
      bif (bif false then true else (!seq ((y10.extract 0 (Int.toNat b.At)).extract 0 (Int.toNat ((strOf P).size : Int))) (strOf P))) then
        some (-1:Int)
      else
      spec_l07Count.lp21 N slf b (P.length : Int) (strOf P) most ((y10.extract 0 (Int.toNat b.At)), (0:Int), (0:Int))
      else none
      else none
      else none
      else none) = fin N slf b P most x := by
    intro n x hx
    unfold fin
    cases hl : lfB x with
    | false => rfl
    | true =>
      cases hk : keyB x with
      | false => rfl
      | true =>
        have hks : x.Key.size ≤ 2097152 := by rw [keyB_iff] at hk; have := hk.2; omega
        rw [l07Hash hN _ hks, ob_some, specBits hN _ (hb_size _), ob_some]
        have hA' : b.At.toNat = A := by rw [hA]; rfl
        rw [hA', strOf_take (bitL_by _ _), bitL_take _ (show A ≤ 256 by omega), strOf_size, strOf_size, strOf_size, bitL_length, bitL_length, Int.toNat_natCast, strOf_take (bitL_by _ _), bitL_take _ (show P.length ≤ A by omega)]
        rw [decide_eq_true (show 0 ≤ b.At by omega), decide_eq_true (show b.At ≤ ((256 : Nat) : Int) by omega), decide_eq_false (show ¬ ((P.length : Int) > (A : Int)) by omega), decide_eq_true (show (0 : Int) ≤ (P.length : Int) by omega), decide_eq_true (show (P.length : Int) ≤ (A : Int) by omega)]
        simp only [cond_true, cond_false, Bool.not_true, Bool.and_self]
        show (bif !seq (strOf (pre x P.length)) (strOf P) then some (-1) else _) = _
        cases seq (strOf (pre x P.length)) (strOf P) <;> rfl
  have stp : ∀ (rec : Int × ByteArray × ByteArray × Int × List Branch → Option Int) (v : Int) (n : Nat) (x : Branch), bok n x → spec_l07Count.step11 N slf b (P.length : Int) (strOf P) most (spec_l07Count.lp21 N slf b (P.length : Int) (strOf P) most) rec (v, x.Key, x.Value, x.At, x.Kids) = bif decide (v < 256) && !lfB x then rec (w64 (v + 1), (x.Kids.getD 0 Branch.dz).Key, (x.Kids.getD 0 Branch.dz).Value, (x.Kids.getD 0 Branch.dz).At, (x.Kids.getD 0 Branch.dz).Kids) else fin N slf b P most x := by
    intro rec v n x hx
    rw [← fino n x hx]
    unfold spec_l07Count.step11
    simp only [spec_l07Leaf.m, ob_some, l02Key]
    cases hv : decide (v < 256) with
    | false => rfl
    | true =>
      cases hl : lfB x with
      | true =>
        unfold lfB at hl
        rw [hl]; rfl
      | false =>
        have e3 : decide ((0 : Int) < (x.Kids.length : Int)) = true := by
          unfold lfB at hl
          rw [beq_eq_false_iff_ne] at hl
          exact decide_eq_true (by omega)
        unfold lfB at hl
        rw [hl, e3]; rfl
  intro k
  induction k with
  | zero =>
    intro K n x _ hK hx
    obtain ⟨K, rfl⟩ : ∃ j, K = j + 1 := ⟨K - 1, by omega⟩
    rw [miter_s, stp _ _ n x hx, decide_eq_false (show ¬ ((256 : Int) - ((0 : Nat) : Int) < 256) by omega)]
    rfl
  | succ k ih =>
    intro K n x hk hK hx
    obtain ⟨K, rfl⟩ : ∃ j, K = j + 1 := ⟨K - 1, by omega⟩
    rw [miter_s, stp _ _ n x hx, decide_eq_true (show ((256 : Int) - ((k + 1 : Nat) : Int) < 256) by omega), Bool.true_and]
    cases hk' : x.Kids with
    | nil =>
      rw [dn_leaf hk', (lfB_iff x).2 hk']; rfl
    | cons y r =>
      have e : lfB x = false := by
        cases h : lfB x with
        | false => rfl
        | true => rw [(lfB_iff x).1 h] at hk'; cases hk'
      have e2 : w64 ((256 : Int) - ((k + 1 : Nat) : Int) + 1) = (256 : Int) - (k : Int) := by rw [w_small (by omega) (by omega)]; omega
      have e4 : dn (k + 1) x = dn k y := by
        show (match x.Kids with | [] => x | y :: _ => dn k y) = _
        rw [hk']
      have e5 : (y :: r).getD 0 Branch.dz = y := rfl
      rw [e, Bool.not_false, cond_true, e2, e4, e5]
      cases n with
      | zero => exact hx.elim
      | succ n =>
        have hy : bok n y := hx.2.2.2 y (by rw [hk']; exact List.mem_cons_self)
        exact ih K n y (by omega) (by omega) hy
open Classical in
theorem specCount {N : Nat} (hN : Big N) : ∀ (n f : Nat) (b : Branch) (P : List Int) (most : Int), n ≤ f → bok n b → isBy P → P.length ≤ 256 → -1000 ≤ most → most ≤ 40 → spec_l07Count.mF N f b (P.length : Int) (strOf P) most = some (if C n b P ∧ ((Lv n b).length : Int) ≤ most then ((Lv n b).length : Int) else -1)
  | 0, _, _, _, _, _, h, _, _, _, _ => h.elim
  | n + 1, 0, _, _, _, h, _, _, _, _, _ => by omega
  | n + 1, f + 1, b, P, most, hf, hb0, hP, hl, hm0, hm => by
    show spec_l07Count.mb N (spec_l07Count.mF N f) b (P.length : Int) (strOf P) most = _
    unfold spec_l07Count.mb
    by_cases hm1 : most < 1
    · rw [decide_eq_true hm1, cond_true, if_neg]
      rintro ⟨h1, h2⟩
      have := C_pos h1
      omega
    rw [decide_eq_false hm1, cond_false]
    simp only [spec_l07Leaf.m, ob_some, l02Key]
    cases hk : b.Kids with
    | nil =>
      rw [Lv_leaf hk]
      simp only [List.length_nil]
      show (bif !keyB b then some (-1) else bif decide ((b.Value.size : Int) > 60) then some (-1) else bif (b.At != 256) then some (-1) else _) = _
      have key : (C (n + 1) b P ∧ (([b].length : Nat) : Int) ≤ most) ↔ (keyB b = true ∧ ¬ ((b.Value.size : Int) > 60) ∧ b.At = 256 ∧ pre b P.length = P) := by
        rw [keyB_iff]
        constructor
        · rintro ⟨⟨_, h2, h3, h4, _, h6⟩ | ⟨x, y, Q, A, h, _⟩, _⟩
          · exact ⟨h2, by omega, h4, h6⟩
          · rw [hk] at h; cases h
        · rintro ⟨h1, h2, h3, h4⟩
          exact ⟨.inl ⟨hk, h1, by omega, h3, hl, h4⟩, by simp; omega⟩
      simp only [key]
      cases hkb : keyB b with
      | false => simp
      | true =>
        by_cases hv : (b.Value.size : Int) > 60
        · rw [decide_eq_true hv]; simp [hv]
        rw [decide_eq_false hv]
        by_cases ha : b.At = 256
        · have hks : b.Key.size ≤ 2097152 := by rw [keyB_iff] at hkb; have := hkb.2; omega
          rw [l07Hash hN _ hks, ob_some, specBits hN _ (hb_size _), ob_some]
          rw [strOf_size, strOf_size, bitL_length, Int.toNat_natCast, strOf_take (bitL_by _ _), bitL_take _ hl]
          rw [decide_eq_true (show (0 : Int) ≤ (P.length : Int) by omega), decide_eq_true (show (P.length : Int) ≤ ((256 : Nat) : Int) by omega)]
          have es : seq (strOf (bitL (hb b.Key) P.length)) (strOf P) = decide (pre b P.length = P) := seq_dec (strOf_inj (bitL_by _ _) hP)
          have e256 : (b.At != 256) = false := by simp [ha]
          simp only [Bool.not_true, cond_false, cond_true, e256, es]
          by_cases hp : pre b P.length = P
          · simp [hp, hv, ha]
          · simp [hp]
        · have e256 : (b.At != 256) = true := by simp [ha]
          simp [e256, ha]
    | cons x r =>
      have e : ((((x :: r).length : Nat) : Int) == 0) = false := by rw [beq_eq_false_iff_ne]; simp only [List.length_cons]; omega
      rw [e, cond_false]
      have nol : ∀ {p : Prop}, (b.Kids = [] ∧ p) → False := fun h => by rw [hk] at h; cases h.1
      cases r with
      | nil =>
        rw [if_neg]; rfl
        rintro ⟨h | ⟨x', y', Q, A, h, _⟩, _⟩
        · exact nol h
        · rw [hk] at h; cases h
      | cons y r =>
        cases r with
        | cons z r =>
          have e2 : ((((x :: y :: z :: r).length : Nat) : Int) != 2) = true := by rw [bne_iff_ne]; simp only [List.length_cons]; omega
          rw [e2, cond_true, if_neg]
          rintro ⟨h | ⟨x', y', Q, A, h, _⟩, _⟩
          · exact nol h
          · rw [hk] at h; cases h
        | nil =>
          have e2 : ((([x, y].length : Nat) : Int) != 2) = false := rfl
          rw [e2, cond_false, cond_false, cond_false, l01In, ob_some, cond_false]
          have fk : C (n + 1) b P ↔ (b.Key = ByteArray.empty ∧ b.Value = ByteArray.empty ∧ (P.length : Int) ≤ b.At ∧ b.At ≤ 255 ∧ ∃ Q : List Int, Q.length = b.At.toNat ∧ P = Q.take P.length ∧ C n x (Q ++ [48]) ∧ C n y (Q ++ [49])) := by
            constructor
            · rintro (h | ⟨x', y', Q, A, h1, h2, h3, h4, h5, h6, h7, h8, h9, h10⟩)
              · exact (nol h).elim
              · rw [hk] at h1
                obtain ⟨rfl, rfl⟩ : x = x' ∧ y = y' := by simpa using h1
                exact ⟨h2, h3, by omega, by omega, Q, by omega, h8, h9, h10⟩
            · rintro ⟨h1, h2, h3, h4, Q, h5, h6, h7, h8⟩
              exact .inr ⟨x, y, Q, b.At.toNat, hk, h1, h2, by omega, h5, by omega, by omega, h6, h7, h8⟩
          cases hq1 : seq b.Key ByteArray.empty with
          | false =>
            rw [if_neg]; rfl
            rintro ⟨h, _⟩
            have := (fk.1 h).1
            rw [seq_iff.2 this] at hq1; cases hq1
          | true =>
          cases hq2 : seq b.Value ByteArray.empty with
          | false =>
            rw [if_neg]; rfl
            rintro ⟨h, _⟩
            have := (fk.1 h).2.1
            rw [seq_iff.2 this] at hq2; cases hq2
          | true =>
          have hq1 := seq_iff.1 hq1
          have hq2 := seq_iff.1 hq2
          cases hq3 : inB b.At (P.length : Int) 255 with
          | false =>
            rw [if_neg]; rfl
            rintro ⟨h, _⟩
            have := (fk.1 h).2.2
            unfold inB at hq3
            rw [decide_eq_true (show b.At ≥ (P.length : Int) from this.1), decide_eq_true (show b.At ≤ 255 from this.2.1)] at hq3
            cases hq3
          | true =>
          unfold inB at hq3
          rw [Bool.and_eq_true, decide_eq_true_iff, decide_eq_true_iff] at hq3
          obtain ⟨hq3, hq4⟩ := hq3
          obtain ⟨A, hA⟩ : ∃ A : Nat, b.At = (A : Int) := ⟨b.At.toNat, by omega⟩
          have hA' : b.At.toNat = A := by rw [hA]; rfl
          have bx : bok n x := hb0.2.2.2 x (by rw [hk]; exact List.mem_cons_self)
          have bY : bok n y := hb0.2.2.2 y (by rw [hk]; exact List.mem_cons_of_mem _ List.mem_cons_self)
          have hd := descend hN (spec_l07Count.mF N f) b P most (by omega) hq4 256 N n x (Nat.le_refl _) (by omega) bx
          have hd' : spec_l07Count.lp11 N (spec_l07Count.mF N f) b (P.length : Int) (strOf P) most ((0:Int), x.Key, x.Value, x.At, x.Kids) = fin N (spec_l07Count.mF N f) b P most (dn 256 x) := hd
          show spec_l07Count.lp11 N (spec_l07Count.mF N f) b (P.length : Int) (strOf P) most ((0:Int), x.Key, x.Value, x.At, x.Kids) = _
          rw [hd']
          -- the only way
          have only : ∀ Q : List Int, Q.length = b.At.toNat → C n x (Q ++ [48]) → lfB (dn 256 x) = true ∧ keyB (dn 256 x) = true ∧ Q = pre (dn 256 x) A := by
            intro Q h1 h2
            obtain ⟨h3, h4⟩ := C_dn h2 (k := 256) (by omega)
            obtain ⟨h5, h6⟩ := C_all h2 _ h4
            refine ⟨(lfB_iff _).2 h3, (keyB_iff _).2 h5, ?_⟩
            have h7 := congrArg (List.take A) h6
            rw [pre_take _ (by simp; omega), List.take_append_of_le_length (by omega), List.take_of_length_le (by omega)] at h7
            exact h7.symm
          generalize hz : dn 256 x = z at only
          unfold fin
          cases hzl : lfB z with
          | false =>
            rw [if_neg]; rfl
            rintro ⟨h, _⟩
            obtain ⟨_, _, _, _, Q, h1, _, h2, _⟩ := fk.1 h
            have := (only Q h1 h2).1
            rw [hzl] at this; cases this
          | true =>
          cases hzk : keyB z with
          | false =>
            rw [if_neg]; rfl
            rintro ⟨h, _⟩
            obtain ⟨_, _, _, _, Q, h1, _, h2, _⟩ := fk.1 h
            have := (only Q h1 h2).2.1
            rw [hzk] at this; cases this
          | true =>
          have es : seq (strOf (pre z P.length)) (strOf P) = decide (pre z P.length = P) := seq_dec (strOf_inj (isBy_pre _ _) hP)
          rw [es, Bool.and_self, cond_true]
          by_cases hp : pre z P.length = P
          · rw [decide_eq_true hp, cond_true, hA']
            have fk2 : C (n + 1) b P ↔ C n x (pre z A ++ [48]) ∧ C n y (pre z A ++ [49]) := by
              rw [fk]
              constructor
              · rintro ⟨_, _, _, _, Q, h1, _, h2, h3⟩
                have := (only Q h1 h2).2.2
                rw [← this]; exact ⟨h2, h3⟩
              · rintro ⟨h1, h2⟩
                exact ⟨hq1, hq2, hq3, hq4, pre z A, by rw [pre_length, hA'], by rw [pre_take _ (by omega)]; exact hp.symm, h1, h2⟩
            have i48 : isBy (pre z A ++ [48]) := by
              intro v hv
              rw [List.mem_append, List.mem_singleton] at hv
              rcases hv with hv | rfl
              · exact isBy_pre _ _ v hv
              · omega
            have i49 : isBy (pre z A ++ [49]) := by
              intro v hv
              rw [List.mem_append, List.mem_singleton] at hv
              rcases hv with hv | rfl
              · exact isBy_pre _ _ v hv
              · omega
            have ix := specCount hN n f x (pre z A ++ [48]) most (by omega) bx i48 (by simp [pre_length]; omega) hm0 hm
            have el : ∀ c : Int, (((pre z A ++ [c]).length : Nat) : Int) = w64 (b.At + 1) := by
              intro c
              rw [w_small (by omega) (by omega)]; simp only [List.length_append, pre_length, List.length_singleton]; omega
            have e48 : strOf (pre z A) ++ strOf [48] = strOf (pre z A ++ [48]) := strOf_append _ _
            have e49 : strOf (pre z A) ++ strOf [49] = strOf (pre z A ++ [49]) := strOf_append _ _
            rw [Lv_fork hk]
            obtain ⟨M, hM⟩ : ∃ M, N = M + 3 := ⟨N - 3, by omega⟩
            unfold spec_l07Count.lp21
            have un : ∀ (g : (ByteArray × Int × Int → Option Int) → (ByteArray × Int × Int → Option Int)) (s), miter g N s = g (g (g (miter g M))) s := by rw [hM]; intro g s; rfl
            rw [un]
            have wm0 : w64 (most - 0) = most := by rw [Int.sub_zero]; exact w_small (by omega) (by omega)
            have r0 : ((b.Kids.getD (Int.toNat 0) Branch.dz)) = x := by rw [hk]; rfl
            have r1 : ((b.Kids.getD (Int.toNat 1) Branch.dz)) = y := by rw [hk]; rfl
            have kl : (b.Kids.length : Int) = 2 := by rw [hk]; rfl
            have s0 : ∀ rec, spec_l07Count.step21 N (spec_l07Count.mF N f) b (P.length : Int) (strOf P) most rec (strOf (pre z A), 0, 0) = bif decide ((if C n x (pre z A ++ [48]) ∧ ((Lv n x).length : Int) ≤ most then ((Lv n x).length : Int) else -1) < 0) then some (-1) else rec (strOf (pre z A), w64 (0 + (if C n x (pre z A ++ [48]) ∧ ((Lv n x).length : Int) ≤ most then ((Lv n x).length : Int) else -1)), 1) := by
              intro rec
              unfold spec_l07Count.step21
              simp only []
              rw [r0, brEta, kl, wm0, ← el 48]
              have eb : strOf ([(wu8 ((48:Int) + (wu8 0)))]) = strOf [48] := rfl
              rw [eb, e48, ix, strOf_size]
              have esz : decide ((pre z A).length + (strOf [48]).size ≤ 9223372036854775807) = true := decide_eq_true (by rw [pre_length]; show A + 1 ≤ _; omega)
              rw [esz]
              rfl
            rw [s0]
            by_cases hc0 : C n x (pre z A ++ [48]) ∧ ((Lv n x).length : Int) ≤ most
            · rw [if_pos hc0, decide_eq_false (by omega), cond_false]
              have ewl : w64 (0 + ((Lv n x).length : Int)) = ((Lv n x).length : Int) := by rw [Int.zero_add]; exact w_small (by omega) (by omega)
              rw [ewl]
              have wm1 : w64 (most - ((Lv n x).length : Int)) = most - ((Lv n x).length : Int) := w_small (by omega) (by omega)
              have iy := specCount hN n f y (pre z A ++ [49]) (most - ((Lv n x).length : Int)) (by omega) bY i49 (by simp [pre_length]; omega) (by omega) (by omega)
              have s1 : ∀ rec, spec_l07Count.step21 N (spec_l07Count.mF N f) b (P.length : Int) (strOf P) most rec (strOf (pre z A), ((Lv n x).length : Int), 1) = bif decide ((if C n y (pre z A ++ [49]) ∧ ((Lv n y).length : Int) ≤ most - ((Lv n x).length : Int) then ((Lv n y).length : Int) else -1) < 0) then some (-1) else rec (strOf (pre z A), w64 (((Lv n x).length : Int) + (if C n y (pre z A ++ [49]) ∧ ((Lv n y).length : Int) ≤ most - ((Lv n x).length : Int) then ((Lv n y).length : Int) else -1)), 2) := by
                intro rec
                unfold spec_l07Count.step21
                simp only []
                rw [r1, brEta, kl, wm1, ← el 49]
                have eb : strOf ([(wu8 ((48:Int) + (wu8 1)))]) = strOf [49] := rfl
                rw [eb, e49, iy, strOf_size]
                have esz : decide ((pre z A).length + (strOf [49]).size ≤ 9223372036854775807) = true := decide_eq_true (by rw [pre_length]; show A + 1 ≤ _; omega)
                rw [esz]
                rfl
              rw [s1]
              by_cases hc1 : C n y (pre z A ++ [49]) ∧ ((Lv n y).length : Int) ≤ most - ((Lv n x).length : Int)
              · rw [if_pos hc1, decide_eq_false (by omega), cond_false, if_pos ⟨fk2.2 ⟨hc0.1, hc1.1⟩, by rw [List.length_append]; omega⟩]
                have ewl : w64 (((Lv n x).length : Int) + ((Lv n y).length : Int)) = ((Lv n x ++ Lv n y).length : Int) := by rw [List.length_append, w_small (by omega) (by omega)]; omega
                rw [ewl]
                rfl
              · rw [if_neg hc1, if_neg]; rfl
                rintro ⟨h1, h2⟩
                rw [List.length_append] at h2
                exact hc1 ⟨(fk2.1 h1).2, by omega⟩
            · rw [if_neg hc0, if_neg]; rfl
              rintro ⟨h1, h2⟩
              rw [List.length_append] at h2
              exact hc0 ⟨(fk2.1 h1).1, by omega⟩
          · rw [decide_eq_false hp, cond_false, if_neg]
            rintro ⟨h, _⟩
            obtain ⟨_, _, _, _, Q, h1, h2, h3, _⟩ := fk.1 h
            have h4 := (only Q h1 h3).2.2
            rw [h4, pre_take _ (by omega)] at h2
            exact hp h2.symm
def prO (x : Branch) : pairOf := ⟨x.Key, x.Value, hb x.Key⟩
theorem bitL_eq (h g : ByteArray) (A : Nat) : bitL h A = bitL g A ↔ ∀ j, j < A → bt h j = bt g j := by
  constructor
  · intro e j hj
    have := congrArg (fun l : List Int => l[j]?) e
    simp only [bitL, List.getElem?_map, List.getElem?_range hj, Option.map_some, Option.some.injEq] at this
    omega
  · intro e
    unfold bitL
    refine List.map_congr_left fun j hj => ?_
    rw [e j (List.mem_range.1 hj)]
theorem sameAhead {N : Nat} (hN : Big N) {h g : ByteArray} (hh : h.size = 32) (hg : g.size = 32) {A : Nat} (hA : A ≤ 255) : impl_sameAhead.m N h g (A : Int) = some (decide (bitL h A = bitL g A)) := by
  unfold impl_sameAhead.m impl_sameAhead.lp2
  have := loop_all (step := fun rec => impl_sameAhead.step2 N h g (A : Int) rec) (n := A) (st := fun i => (i : Int)) (p := fun i => bt h i == bt g i) (f := some false) (t := some true) (fun i hi rec => by
    simp only [impl_sameAhead.step2, lt_dec hi, cond_true, implBit N hh (show i < 256 by omega), implBit N hg (show i < 256 by omega), ob_some]
    rw [w_up i _ hi (by omega)]
    by_cases e : bt h i = bt g i
    · rw [e]; simp
    · have e1 : (((bt h i : Nat) : Int) != ((bt g i : Nat) : Int)) = true := by rw [bne_iff_ne]; omega
      have e2 : (bt h i == bt g i) = false := by rw [beq_eq_false_iff_ne]; exact e
      rw [e1, e2]; rfl) (fun rec => by simp [impl_sameAhead.step2]) A 0 N (by omega) (by omega)
  refine (show _ = _ from this).trans ?_
  have e : allF (fun i => bt h i == bt g i) 0 A = decide (bitL h A = bitL g A) := by
    rw [Bool.eq_iff_iff, allF_iff, decide_eq_true_iff, bitL_eq]
    constructor
    · intro k j hj; have := k j (Nat.zero_le _) (by omega); simpa using this
    · intro k j _ hj; simpa using k j (by omega)
  rw [e]
  cases decide (bitL h A = bitL g A) <;> rfl
theorem prO_at {l : List Branch} {j : Nat} (h : j < l.length) : (l.map prO).getD j pairOf.dz = prO l[j] := by
  rw [getD_at (by simpa using h), List.getElem_map]
theorem allF_mem {l : List Branch} {p : Branch → Bool} : allF (fun j => p (l.getD j Branch.dz)) 0 l.length = true ↔ ∀ x ∈ l, p x = true := by
  rw [allF_iff]
  constructor
  · intro h x hx
    obtain ⟨j, hj, rfl⟩ := List.getElem_of_mem hx
    have := h j (Nat.zero_le _) (by omega)
    rwa [getD_at hj] at this
  · intro h j _ hj
    have hj : j < l.length := by omega
    rw [getD_at hj]
    exact h _ (List.getElem_mem hj)
theorem contains1 {N : Nat} (hN : Big N) (l : List Branch) (b : Branch) (i : Int) {A : Nat} (hA : A ≤ 255) (hb' : b.At = (A : Int)) (hl : l.length ≤ 1048576) : ∃ y, slices_ContainsFunc_impl_pairOf_impl_pairOf__impl_Branch_pairs_1.m N (l.map prO) b i = some y ∧ (y = false ↔ ∀ x ∈ l, ((bt (hb x.Key) A : Nat) : Int) = i) := by
  unfold slices_ContainsFunc_impl_pairOf_impl_pairOf__impl_Branch_pairs_1.m slices_IndexFunc_impl_pairOf_impl_pairOf__impl_Branch_pairs_1.m slices_IndexFunc_impl_pairOf_impl_pairOf__impl_Branch_pairs_1.lp2
  rw [brEta]
  obtain ⟨y, hy, hd⟩ := loop_idx (step := fun rec => slices_IndexFunc_impl_pairOf_impl_pairOf__impl_Branch_pairs_1.step2 N (l.map prO) b i rec) (n := l.length) (st := fun j => ((l.length : Int), (j : Int))) (p := fun j => ((bt (hb (l.getD j Branch.dz).Key) A : Nat) : Int) != i) (fun j hj rec => by
    have hll : (l.map prO).length = l.length := List.length_map _
    simp only [slices_IndexFunc_impl_pairOf_impl_pairOf__impl_Branch_pairs_1.step2, lt_dec hj, nn_dec, cond_true, Int.toNat_natCast, hll, prO_at hj, brEta, impl_Branch_pairs_1.m, prO, hb', implBit N (hb_size _) (show A < 256 by omega), ob_some, getD_at hj]
    rw [w_up j _ hj hl]) (fun rec => by simp [slices_IndexFunc_impl_pairOf_impl_pairOf__impl_Branch_pairs_1.step2]) l.length 0 N (by omega) (by omega)
  have hy : miter (fun rec => slices_IndexFunc_impl_pairOf_impl_pairOf__impl_Branch_pairs_1.step2 N (l.map prO) b i rec) N (((l.map prO).length : Int), 0) = some y := by rw [List.length_map]; exact hy
  refine ⟨_, by rw [hy, ob_some], ?_⟩
  rw [hd]
  have := allF_mem (l := l) (p := fun x => !(((bt (hb x.Key) A : Nat) : Int) != i))
  rw [Bool.not_eq_false', this]
  simp
theorem contains2 {N : Nat} (hN : Big N) (l : List Branch) (b : Branch) {A : Nat} (hA : A ≤ 255) (hb' : b.At = (A : Int)) (hl : l.length ≤ 1048576) : ∃ y, slices_ContainsFunc_impl_pairOf_impl_pairOf__impl_Branch_pairs_2.m N (l.map prO) (l.map prO) b = some y ∧ (y = false ↔ ∀ x ∈ l, pre x A = pre (l.getD 0 Branch.dz) A) := by
  unfold slices_ContainsFunc_impl_pairOf_impl_pairOf__impl_Branch_pairs_2.m slices_IndexFunc_impl_pairOf_impl_pairOf__impl_Branch_pairs_2.m slices_IndexFunc_impl_pairOf_impl_pairOf__impl_Branch_pairs_2.lp2
  rw [brEta]
  obtain ⟨y, hy, hd⟩ := loop_idx (step := fun rec => slices_IndexFunc_impl_pairOf_impl_pairOf__impl_Branch_pairs_2.step2 N (l.map prO) (l.map prO) b rec) (n := l.length) (st := fun j => ((l.length : Int), (j : Int))) (p := fun j => !decide (pre (l.getD j Branch.dz) A = pre (l.getD 0 Branch.dz) A)) (fun j hj rec => by
    have hll : (l.map prO).length = l.length := List.length_map _
    have h0 : 0 < l.length := by omega
    simp only [slices_IndexFunc_impl_pairOf_impl_pairOf__impl_Branch_pairs_2.step2, lt_dec hj, nn_dec, cond_true, Int.toNat_natCast, hll, prO_at hj, prO_at h0, brEta, impl_Branch_pairs_2.m, decide_eq_true (show (0 : Int) < (l.length : Int) by omega), show decide ((0 : Int) ≤ 0) = true from rfl, prO, hb', sameAhead hN (hb_size _) (hb_size _) hA, ob_some, getD_at hj, getD_at h0]
    rw [w_up j _ hj hl]
    rfl) (fun rec => by simp [slices_IndexFunc_impl_pairOf_impl_pairOf__impl_Branch_pairs_2.step2]) l.length 0 N (by omega) (by omega)
  have hy : miter (fun rec => slices_IndexFunc_impl_pairOf_impl_pairOf__impl_Branch_pairs_2.step2 N (l.map prO) (l.map prO) b rec) N (((l.map prO).length : Int), 0) = some y := by rw [List.length_map]; exact hy
  refine ⟨_, by rw [hy, ob_some], ?_⟩
  rw [hd]
  have := allF_mem (l := l) (p := fun x => !!decide (pre x A = pre (l.getD 0 Branch.dz) A))
  rw [Bool.not_eq_false', this]
  simp
theorem isKeyI (N : Nat) (x : Branch) : impl_isKey.m N x.Key = some (keyB x) := by
  unfold impl_isKey.m; rw [within]; rfl
def vlB (x : Branch) : Bool := decide ((x.Value.size : Int) ≤ 60)
def isLf (x : Branch) : Bool := (x.At == 256) && (keyB x && (vlB x && lfB x))
theorem isLeafI (N : Nat) (x : Branch) : impl_Branch_isLeaf.m N x = some (isLf x) := by
  unfold impl_Branch_isLeaf.m isLf impl_isValue.m
  rw [isKeyI]
  cases (x.At == 256) <;> cases keyB x <;> first | rfl | (show (bif vlB x then some (lfB x) else some false) = _; cases vlB x <;> rfl)
def isFk (x : Branch) : Bool := seq x.Key ByteArray.empty && (seq x.Value ByteArray.empty && (inB x.At 0 255 && ((x.Kids.length : Int) == 2)))
theorem isForkI (N : Nat) (x : Branch) : impl_Branch_isFork.m N x = some (isFk x) := by
  unfold impl_Branch_isFork.m isFk
  rw [within]
  cases seq x.Key ByteArray.empty <;> cases seq x.Value ByteArray.empty <;> cases inB x.At 0 255 <;> rfl
theorem isLf_iff (x : Branch) : isLf x = true ↔ x.Kids = [] ∧ keyP x ∧ x.Value.size ≤ 60 ∧ x.At = 256 := by
  unfold isLf vlB
  rw [Bool.and_eq_true, Bool.and_eq_true, Bool.and_eq_true, keyB_iff, lfB_iff, beq_iff_eq, decide_eq_true_iff]
  constructor
  · rintro ⟨h1, h2, h3, h4⟩; exact ⟨h4, h2, by omega, h1⟩
  · rintro ⟨h1, h2, h3, h4⟩; exact ⟨h4, h2, by omega, h1⟩
theorem isFk_iff (b : Branch) : isFk b = true ↔ b.Key = ByteArray.empty ∧ b.Value = ByteArray.empty ∧ 0 ≤ b.At ∧ b.At ≤ 255 ∧ ∃ x y, b.Kids = [x, y] := by
  unfold isFk inB
  simp only [Bool.and_eq_true, seq_iff, decide_eq_true_iff, beq_iff_eq]
  constructor
  · rintro ⟨h1, h2, ⟨h3, h4⟩, h5⟩
    refine ⟨h1, h2, h3, h4, ?_⟩
    match hk : b.Kids with
    | [] => rw [hk] at h5; simp at h5
    | [x] => rw [hk] at h5; simp at h5
    | [x, y] => exact ⟨x, y, rfl⟩
    | x :: y :: z :: r => rw [hk] at h5; simp only [List.length_cons] at h5; omega
  · rintro ⟨h1, h2, h3, h4, x, y, h5⟩
    exact ⟨h1, h2, ⟨h3, h4⟩, by rw [h5]; rfl⟩
/-- A good branch of its own. -/
def Cx (n : Nat) (b : Branch) (lo : Nat) : Prop := ∃ P : List Int, P.length = lo ∧ C n b P
theorem snoc_inj {a b : List Int} {x y : Int} (h : a ++ [x] = b ++ [y]) : a = b ∧ x = y := by
  have := List.append_inj' h rfl
  exact ⟨this.1, by simpa using this.2⟩
theorem Cx_fork {n : Nat} {b x y : Branch} {A lo : Nat} (hk : b.Kids = [x, y]) (h1 : b.Key = ByteArray.empty) (h2 : b.Value = ByteArray.empty) (h3 : b.At = (A : Int)) (h4 : A ≤ 255) (h5 : lo ≤ A) :
    Cx (n + 1) b lo ↔ Cx n x (A + 1) ∧ (∀ l ∈ Lv n x, ((bt (hb l.Key) A : Nat) : Int) = 0) ∧ Cx n y (A + 1) ∧ (∀ l ∈ Lv n y, ((bt (hb l.Key) A : Nat) : Int) = 1) ∧ ∀ l ∈ Lv n x ++ Lv n y, pre l A = pre ((Lv n x ++ Lv n y).getD 0 Branch.dz) A := by
  constructor
  · rintro ⟨P, hP, ⟨h, _⟩ | ⟨x', y', Q, A', k1, k2, k3, k4, k5, k6, k7, k8, k9, k10⟩⟩
    · rw [hk] at h; cases h
    rw [hk] at k1
    obtain ⟨rfl, rfl⟩ : x = x' ∧ y = y' := by simpa using k1
    obtain rfl : A = A' := by omega
    have bit : ∀ {n : Nat} {z : Branch} {c : Int}, C n z (Q ++ [c]) → ∀ l ∈ Lv n z, pre l A = Q ∧ ((48 + bt (hb l.Key) A : Nat) : Int) = c := by
      intro n z c hz l hl
      have := (C_all hz l hl).2
      rw [List.length_append, List.length_singleton, k5, pre_succ] at this
      exact snoc_inj this
    refine ⟨⟨_, by simp [k5], k9⟩, fun l hl => by have := (bit k9 l hl).2; omega, ⟨_, by simp [k5], k10⟩, fun l hl => by have := (bit k10 l hl).2; omega, ?_⟩
    have all : ∀ l ∈ Lv n x ++ Lv n y, pre l A = Q := by
      intro l hl
      rcases List.mem_append.1 hl with hl | hl
      · exact (bit k9 l hl).1
      · exact (bit k10 l hl).1
    intro l hl
    have hp := C_pos k9
    have hq : (Lv n x ++ Lv n y).getD 0 Branch.dz ∈ Lv n x ++ Lv n y := by
      have h0 : 0 < (Lv n x ++ Lv n y).length := by rw [List.length_append]; omega
      rw [getD_at h0]; exact List.getElem_mem h0
    rw [all l hl, all _ hq]
  · rintro ⟨⟨P0, p1, p2⟩, p3, ⟨P1, q1, q2⟩, q3, r⟩
    generalize hf : pre ((Lv n x ++ Lv n y).getD 0 Branch.dz) A = Q at r
    have hQ : Q.length = A := by rw [← hf, pre_length]
    have back : ∀ {n : Nat} {z : Branch} {R : List Int} {c : Nat}, C n z R → R.length = A + 1 → (∀ l ∈ Lv n z, ((bt (hb l.Key) A : Nat) : Int) = (c : Int)) → (∀ l ∈ Lv n z, pre l A = Q) → R = Q ++ [((48 + c : Nat) : Int)] := by
      intro n z R c hz hR hc hq
      have hp := C_pos hz
      have hm : (Lv n z)[0] ∈ Lv n z := List.getElem_mem hp
      have := (C_all hz _ hm).2
      rw [hR, pre_succ, hq _ hm, show bt (hb (Lv n z)[0].Key) A = c from by have := hc _ hm; omega] at this
      exact this.symm
    have e0 := back p2 p1 (c := 0) p3 (fun l hl => r l (List.mem_append_left _ hl))
    have e1 := back q2 q1 (c := 1) q3 (fun l hl => r l (List.mem_append_right _ hl))
    subst e0; subst e1
    exact ⟨Q.take lo, by rw [List.length_take]; omega, .inr ⟨x, y, Q, A, hk, h1, h2, h3, hQ, by rw [List.length_take]; omega, h4, by rw [List.length_take]; congr 1; omega, p2, q2⟩⟩
theorem Cx_pos {n : Nat} {b : Branch} {lo : Nat} (h : Cx n b lo) : 0 < (Lv n b).length := by obtain ⟨P, _, h⟩ := h; exact C_pos h
theorem implPairs {N : Nat} (hN : Big N) : ∀ (n f : Nat) (b : Branch) (lo : Nat) (rm : Int), n ≤ f → bok n b → lo ≤ 256 → 0 ≤ rm → rm ≤ 40 → ∃ (l : List pairOf) (ok : Bool) (r : Int), impl_Branch_pairs.mF N f b ((lo : Int) - 1) rm = some (l, ok, r) ∧ (ok = true ↔ Cx n b lo ∧ ((Lv n b).length : Int) ≤ rm) ∧ (ok = true → l = (Lv n b).map prO ∧ r = rm - (Lv n b).length)
  | 0, _, _, _, _, _, h, _, _, _ => h.elim
  | n + 1, 0, _, _, _, h, _, _, _, _ => by omega
  | n + 1, f + 1, b, lo, rm, hf, hb0, hl, hr0, hr => by
    show ∃ (l : List pairOf) (ok : Bool) (r : Int), impl_Branch_pairs.mb N (impl_Branch_pairs.mF N f) b ((lo : Int) - 1) rm = some (l, ok, r) ∧ _
    unfold impl_Branch_pairs.mb
    rw [brEta, isLeafI, ob_some]
    cases hlf : isLf b with
    | true =>
      have hlf := (isLf_iff b).1 hlf
      rw [cond_true, implHash hN _ (by have := hlf.2.1.2; omega), ob_some]
      have e : w64 (rm - 1) = rm - 1 := w_small (by omega) (by omega)
      rw [e, Lv_leaf hlf.1]
      refine ⟨_, _, _, rfl, ?_, fun _ => ⟨rfl, by simp⟩⟩
      rw [decide_eq_true_iff]
      constructor
      · intro h
        exact ⟨⟨pre b lo, pre_length _ _, .inl ⟨hlf.1, hlf.2.1, hlf.2.2.1, hlf.2.2.2, by rw [pre_length]; exact hl, by rw [pre_length]⟩⟩, by simp; omega⟩
      · rintro ⟨_, h⟩
        simp at h; omega
    | false =>
      have nlf : ¬ (b.Kids = [] ∧ keyP b ∧ b.Value.size ≤ 60 ∧ b.At = 256) := fun h => by rw [(isLf_iff b).2 h] at hlf; cases hlf
      rw [cond_false, isForkI, ob_some]
      cases hfk : isFk b with
      | false =>
        refine ⟨_, _, _, rfl, ⟨fun h => (by cases h), ?_⟩, fun h => (by cases h)⟩
        rintro ⟨⟨P, hP, ⟨k1, k2, k3, k4, _⟩ | ⟨x, y, Q, A, k1, k2, k3, k4, k5, k6, k7, _⟩⟩, _⟩
        · exact absurd ⟨k1, k2, k3, k4⟩ nlf
        · have := (isFk_iff b).2 ⟨k2, k3, by omega, by omega, x, y, k1⟩
          rw [hfk] at this; cases this
      | true =>
        obtain ⟨h1, h2, h3, h4, x, y, hk⟩ := (isFk_iff b).1 hfk
        rw [Bool.not_true, cond_false, cond_false]
        by_cases ha : b.At ≤ (lo : Int) - 1
        · rw [decide_eq_true ha, cond_true]
          refine ⟨_, _, _, rfl, ⟨fun h => (by cases h), ?_⟩, fun h => (by cases h)⟩
          rintro ⟨⟨P, hP, ⟨k1, k2, k3, k4, _⟩ | ⟨x, y, Q, A, k1, k2, k3, k4, k5, k6, k7, _⟩⟩, _⟩
          · exact absurd ⟨k1, k2, k3, k4⟩ nlf
          · omega
        rw [decide_eq_false ha, cond_false]
        obtain ⟨A, hA⟩ : ∃ A : Nat, b.At = (A : Int) := ⟨b.At.toNat, by omega⟩
        have cf := Cx_fork (n := n) hk h1 h2 hA (by omega) (show lo ≤ A by omega)
        have bx : bok n x := hb0.2.2.2 x (by rw [hk]; exact List.mem_cons_self)
        have bY : bok n y := hb0.2.2.2 y (by rw [hk]; exact List.mem_cons_of_mem _ List.mem_cons_self)
        have r0 : ((b.Kids.getD (Int.toNat 0) Branch.dz)) = x := by rw [hk]; rfl
        have r1 : ((b.Kids.getD (Int.toNat 1) Branch.dz)) = y := by rw [hk]; rfl
        have kl : (b.Kids.length : Int) = 2 := by rw [hk]; rfl
        have eA : b.At = ((A + 1 : Nat) : Int) - 1 := by omega
        rw [kl, Lv_fork hk, List.length_append]
        unfold impl_Branch_pairs.lp8
        obtain ⟨M, hM⟩ : ∃ M, N = M + 3 := ⟨N - 3, by omega⟩
        have un : ∀ (g : (Int × Int × Int × List pairOf → Option impl_Branch_pairs.R) → (Int × Int × Int × List pairOf → Option impl_Branch_pairs.R)) (s), miter g N s = g (g (g (miter g M))) s := by rw [hM]; intro g s; rfl
        rw [un]
        obtain ⟨l0, ok0, q0, i1, i2, i3⟩ := implPairs hN n f x (A + 1) rm (by omega) bx (by omega) hr0 hr
        rw [← eA] at i1
        have s0 : ∀ rec, impl_Branch_pairs.step8 N (impl_Branch_pairs.mF N f) b ((lo : Int) - 1) rm rec (2, 0, rm, []) = bif !ok0 then some ([], false, q0) else ob (slices_ContainsFunc_impl_pairOf_impl_pairOf__impl_Branch_pairs_1.m N l0 b 0) fun y5 => bif y5 then some ([], false, q0) else bif room (([] : List pairOf).length + l0.length) 48 then rec (2, 1, q0, [] ++ l0) else none := by
          intro rec
          unfold impl_Branch_pairs.step8
          simp only []
          rw [r0, brEta, brEta, kl, i1]
          rfl
        rw [s0]
        cases hk0 : ok0 with
        | false =>
          refine ⟨_, _, _, rfl, ⟨fun h => (by cases h), ?_⟩, fun h => (by cases h)⟩
          rintro ⟨h, hle⟩
          have := i2.2 ⟨(cf.1 h).1, by omega⟩
          rw [hk0] at this; cases this
        | true =>
        obtain ⟨c0, le0⟩ := i2.1 hk0
        obtain ⟨rfl, rfl⟩ := i3 hk0
        have p0 := Cx_pos c0
        obtain ⟨y5, j1, j2⟩ := contains1 hN (Lv n x) b 0 (show A ≤ 255 by omega) hA (by omega)
        rw [Bool.not_true, cond_false, j1, ob_some]
        cases hy5 : y5 with
        | true =>
          refine ⟨_, _, _, rfl, ⟨fun h => (by cases h), ?_⟩, fun h => (by cases h)⟩
          rintro ⟨h, _⟩
          have := j2.2 (cf.1 h).2.1
          rw [hy5] at this; cases this
        | false =>
        have b0 := j2.1 hy5
        rw [cond_false, roomB (by simp; omega) (by omega), cond_true, List.nil_append]
        obtain ⟨l1, ok1, q1, m1, m2, m3⟩ := implPairs hN n f y (A + 1) (rm - (Lv n x).length) (by omega) bY (by omega) (by omega) (by omega)
        rw [← eA] at m1
        have s1 : ∀ rec, impl_Branch_pairs.step8 N (impl_Branch_pairs.mF N f) b ((lo : Int) - 1) rm rec (2, 1, rm - (Lv n x).length, (Lv n x).map prO) = bif !ok1 then some ([], false, q1) else ob (slices_ContainsFunc_impl_pairOf_impl_pairOf__impl_Branch_pairs_1.m N l1 b 1) fun y5 => bif y5 then some ([], false, q1) else bif room (((Lv n x).map prO).length + l1.length) 48 then rec (2, 2, q1, (Lv n x).map prO ++ l1) else none := by
          intro rec
          unfold impl_Branch_pairs.step8
          simp only []
          rw [r1, brEta, brEta, kl, m1]
          rfl
        rw [s1]
        cases hk1 : ok1 with
        | false =>
          refine ⟨_, _, _, rfl, ⟨fun h => (by cases h), ?_⟩, fun h => (by cases h)⟩
          rintro ⟨h, hle⟩
          have := m2.2 ⟨(cf.1 h).2.2.1, by omega⟩
          rw [hk1] at this; cases this
        | true =>
        obtain ⟨c1, le1⟩ := m2.1 hk1
        obtain ⟨rfl, rfl⟩ := m3 hk1
        obtain ⟨y6, n1, n2⟩ := contains1 hN (Lv n y) b 1 (show A ≤ 255 by omega) hA (by omega)
        rw [Bool.not_true, cond_false, n1, ob_some]
        cases hy6 : y6 with
        | true =>
          refine ⟨_, _, _, rfl, ⟨fun h => (by cases h), ?_⟩, fun h => (by cases h)⟩
          rintro ⟨h, _⟩
          have := n2.2 (cf.1 h).2.2.2.1
          rw [hy6] at this; cases this
        | false =>
        have b1 := n2.1 hy6
        rw [cond_false, roomB (by simp; omega) (by omega), cond_true, ← List.map_append]
        obtain ⟨y7, o1, o2⟩ := contains2 hN (Lv n x ++ Lv n y) b (show A ≤ 255 by omega) hA (by rw [List.length_append]; omega)
        have s2 : ∀ rec, impl_Branch_pairs.step8 N (impl_Branch_pairs.mF N f) b ((lo : Int) - 1) rm rec (2, 2, rm - (Lv n x).length - (Lv n y).length, (Lv n x ++ Lv n y).map prO) = some ((Lv n x ++ Lv n y).map prO, !y7, rm - (Lv n x).length - (Lv n y).length) := by
          intro rec
          unfold impl_Branch_pairs.step8
          simp only []
          rw [brEta, brEta, o1]
          rfl
        rw [s2]
        refine ⟨_, _, _, rfl, ?_, fun _ => ⟨rfl, by omega⟩⟩
        rw [Bool.not_eq_true', o2, cf]
        constructor
        · intro h; exact ⟨⟨c0, b0, c1, b1, h⟩, by omega⟩
        · rintro ⟨⟨_, _, _, _, h⟩, _⟩; exact h
def emB (b : Branch) : Bool := seq b.Key ByteArray.empty && (seq b.Value ByteArray.empty && ((b.At == 0) && ((b.Kids.length : Int) == 0)))
theorem l07Empty (N : Nat) (b : Branch) : spec_l07Empty.m N b = some (emB b) := by
  unfold spec_l07Empty.m emB
  cases seq b.Key ByteArray.empty <;> cases seq b.Value ByteArray.empty <;> cases (b.At == 0) <;> rfl
theorem isEmptyI (N : Nat) (b : Branch) : impl_Branch_isEmpty.m N b = some (emB b) := by
  unfold impl_Branch_isEmpty.m emB
  cases seq b.Key ByteArray.empty <;> cases seq b.Value ByteArray.empty <;> cases (b.At == 0) <;> rfl
open Classical in
noncomputable def gdB (n : Nat) (b : Branch) : Bool := decide (Cx n b 0 ∧ ((Lv n b).length : Int) ≤ 40)
noncomputable def mapB (n : Nat) (b : Branch) : Bool := emB b || gdB n b
theorem Cx0 {n : Nat} {b : Branch} : Cx n b 0 ↔ C n b [] := by
  constructor
  · rintro ⟨P, h, hc⟩
    obtain rfl := List.eq_nil_of_length_eq_zero h
    exact hc
  · intro h; exact ⟨[], rfl, h⟩
open Classical in
theorem specMap {N : Nat} (hN : Big N) {n : Nat} (hn : n ≤ N) (b : Branch) (hb0 : bok n b) : spec_MapOK.m N b = some (mapB n b) := by
  unfold spec_MapOK.m mapB
  rw [brEta, l07Empty, ob_some]
  cases emB b with
  | true => rfl
  | false =>
    rw [cond_false]
    have := specCount hN n N b [] 40 hn hb0 (fun x hx => absurd hx List.not_mem_nil) (Nat.zero_le _) (by omega) (by omega)
    rw [show spec_l07Count.m N b 0 ByteArray.empty 40 = _ from this, ob_some, Bool.false_or, cond_false]
    unfold gdB
    rw [Cx0]
    by_cases h : C n b [] ∧ ((Lv n b).length : Int) ≤ 40
    · have := C_pos h.1
      rw [if_pos h, decide_eq_true h, decide_eq_true (show ((Lv n b).length : Int) > 0 by omega)]
    · rw [if_neg h, decide_eq_false h]; rfl
open Classical in
theorem implPairs0 {N : Nat} (hN : Big N) {n : Nat} (hn : n ≤ N) (b : Branch) (hb0 : bok n b) : ∃ (l : List pairOf), impl_mapPairs.m N b = some (l, mapB n b) ∧ (emB b = true → l = []) ∧ (emB b = false → mapB n b = true → l = (Lv n b).map prO) := by
  unfold impl_mapPairs.m mapB
  rw [brEta, isEmptyI, ob_some]
  cases emB b with
  | true => exact ⟨[], rfl, fun _ => rfl, fun h => by cases h⟩
  | false =>
    obtain ⟨l, ok, r, h1, h2, h3⟩ := implPairs hN n N b 0 40 hn hb0 (by omega) (by omega) (by omega)
    rw [cond_false, show impl_Branch_pairs.m N b (-1) 40 = _ from h1, ob_some]
    have e : ok = gdB n b := by
      unfold gdB
      rw [Bool.eq_iff_iff, h2, decide_eq_true_iff]
    refine ⟨l, by rw [Bool.false_or, e], fun h => (by cases h), fun _ h => ?_⟩
    rw [Bool.false_or, ← e] at h
    exact (h3 h).1
theorem implMap {N : Nat} (hN : Big N) {n : Nat} (hn : n ≤ N) (b : Branch) (hb0 : bok n b) : impl_MapOK.m N b = some (mapB n b) := by
  unfold impl_MapOK.m
  obtain ⟨l, h, _⟩ := implPairs0 hN hn b hb0
  rw [brEta, h]; rfl
/-! ### Ledgers -/
def shB (a : List ByteArray) : Bool := allF (fun i => !((((a.getD i ByteArray.empty).size : Nat) : Int) != 32)) 0 a.length
theorem isHashI {N : Nat} (hN : Big N) (a : List ByteArray) (h : a.length ≤ 1048576) : impl_isHash.m N a = some (shB a) := by
  unfold impl_isHash.m slices_ContainsFunc_string_string__impl_isHash_1.m slices_IndexFunc_string_string__impl_isHash_1.m slices_IndexFunc_string_string__impl_isHash_1.lp2
  obtain ⟨y, hy, hd⟩ := loop_idx (step := fun rec => slices_IndexFunc_string_string__impl_isHash_1.step2 N a rec) (n := a.length) (st := fun j => ((a.length : Int), (j : Int))) (p := fun i => ((((a.getD i ByteArray.empty).size : Nat) : Int) != 32)) (fun j hj rec => by
    simp only [slices_IndexFunc_string_string__impl_isHash_1.step2, lt_dec hj, nn_dec, cond_true, Int.toNat_natCast, impl_isHash_1.m, ob_some]
    rw [w_up j _ hj h]) (fun rec => by simp [slices_IndexFunc_string_string__impl_isHash_1.step2]) a.length 0 N (by omega) (by omega)
  have hy : miter (fun rec => slices_IndexFunc_string_string__impl_isHash_1.step2 N a rec) N ((a.length : Int), 0) = some y := hy
  rw [hy, ob_some, ob_some, hd, Bool.not_not]; rfl
/-- A number big enough for a depth. -/
theorem bigN (n : Nat) : ∃ N, Big N ∧ n ≤ N := ⟨16777216 + n, by omega, by omega⟩
theorem capQ {n : Nat} (h : n ≤ 4194304) : decide (n ≤ 9223372036854775807) = true := decide_eq_true (by omega)
theorem sz1 (x : UInt8) : (⟨#[x]⟩ : ByteArray).size = 1 := rfl
theorem strOf1 (x : Int) : bytesOf (strOf [wu8 x]) = [wu8 x] := strOf_bytes _ (by
  intro y hy
  rw [List.mem_singleton] at hy
  subst hy
  exact wu8_range x)
/-! ### The tree of a row of hashes -/
def ndQ (a b : ByteArray) : ByteArray := hb ((⟨#[1]⟩ ++ a) ++ b)
/-! ### The root of a good branch -/
def lfH (k v : ByteArray) : ByteArray := hb ((⟨#[0]⟩ ++ (strOf [wu8 (k.size : Int)] ++ k)) ++ v)
theorem specLf {N : Nat} (hN : Big N) (k v : ByteArray) (hk : k.size ≤ 1048576) (hv : v.size ≤ 1048570) : spec_l07LeafHash.m N k v = some (lfH k v) := by
  unfold spec_l07LeafHash.m
  have hb1 : ([(0:Int), (wu8 (k.size : Int))] ++ (bytesOf k)) ++ (bytesOf v) = bytesOf ((⟨#[0]⟩ ++ (strOf [wu8 (k.size : Int)] ++ k)) ++ v) := by
    rw [bytesOf_append, bytesOf_append, bytesOf_append, strOf1]; rfl
  have hsz : ((⟨#[0]⟩ ++ (strOf [wu8 (k.size : Int)] ++ k)) ++ v : ByteArray).size = 2 + k.size + v.size := by
    rw [size_append, size_append, size_append, strOf_size, sz1]; simp; omega
  rw [roomS (by rw [bytesOf_length]; simp; omega), roomS (by rw [List.length_append, bytesOf_length, bytesOf_length]; simp; omega), cond_true, cond_true, hb1, specHash hN _ (by omega)]
  rfl
theorem implLf {N : Nat} (hN : Big N) (k v : ByteArray) (hk : k.size ≤ 1048576) (hv : v.size ≤ 1048570) : impl_leafRoot.m N k v = some (lfH k v) := by
  unfold impl_leafRoot.m impl_counted.m
  have hsz : ((⟨#[0]⟩ ++ (strOf [wu8 (k.size : Int)] ++ k)) ++ v : ByteArray).size = 2 + k.size + v.size := by
    rw [size_append, size_append, size_append, strOf_size, sz1]; simp; omega
  rw [number1 hN, ob_some, strOf_size, capQ (by simp; omega), cond_true, ob_some, size_append, size_append, size_append, strOf_size, sz1, capQ (by simp; omega), capQ (by simp; omega), cond_true, cond_true, implHash hN _ (by omega)]
  rfl
def fkH (a : Int) (x y : ByteArray) : ByteArray := hb (((⟨#[1]⟩ ++ strOf [wu8 a]) ++ x) ++ y)
theorem specFk {N : Nat} (hN : Big N) (a : Int) (x y : ByteArray) (hx : x.size = 32) (hy : y.size = 32) : spec_l07ForkHash.m N a x y = some (fkH a x y) := by
  unfold spec_l07ForkHash.m
  have hb1 : ([(1:Int), (wu8 a)] ++ (bytesOf x)) ++ (bytesOf y) = bytesOf (((⟨#[1]⟩ ++ strOf [wu8 a]) ++ x) ++ y) := by
    rw [bytesOf_append, bytesOf_append, bytesOf_append, strOf1]; rfl
  have hsz : (((⟨#[1]⟩ ++ strOf [wu8 a]) ++ x) ++ y : ByteArray).size = 66 := by
    rw [size_append, size_append, size_append, strOf_size, sz1, hx, hy]; rfl
  rw [roomS (by rw [bytesOf_length, hx]; simp), roomS (by rw [List.length_append, bytesOf_length, bytesOf_length, hx, hy]; simp), cond_true, cond_true, hb1, specHash hN _ (by omega)]
  rfl
theorem implFk {N : Nat} (hN : Big N) (a : Int) (x y : ByteArray) (hx : x.size = 32) (hy : y.size = 32) : impl_forkRoot.m N a x y = some (fkH a x y) := by
  unfold impl_forkRoot.m
  have hsz : (((⟨#[1]⟩ ++ strOf [wu8 a]) ++ x) ++ y : ByteArray).size = 66 := by
    rw [size_append, size_append, size_append, strOf_size, sz1, hx, hy]; rfl
  rw [number1 hN, ob_some]
  simp only [size_append, strOf_size, sz1, hx, hy, List.length_singleton]
  rw [capQ (by omega), capQ (by omega), capQ (by omega), cond_true, cond_true, cond_true, implHash hN _ (by omega)]
  rfl
theorem rootsC {N : Nat} (hN : Big N) : ∀ (n f : Nat) (b : Branch) (P : List Int), n ≤ f → C n b P → ∃ r : ByteArray, r.size = 32 ∧ spec_l07Root.mF N f b = some r ∧ impl_mapRoot.mF N f b = some r
  | 0, _, _, _, _, h => h.elim
  | n + 1, 0, _, _, h, _ => by omega
  | n + 1, f + 1, b, P, hf, .inl ⟨h1, h2, h3, h4, _⟩ => by
    have em : emB b = false := by
      unfold emB; rw [h4]
      cases seq b.Key ByteArray.empty <;> cases seq b.Value ByteArray.empty <;> rfl
    have hk := h2.2
    refine ⟨lfH b.Key b.Value, hb_size _, ?_, ?_⟩
    · show spec_l07Root.mb N (spec_l07Root.mF N f) b = _
      unfold spec_l07Root.mb spec_l07Leaf.m
      rw [brEta, l07Empty, ob_some, em, cond_false, ob_some, brEta, h1, specLf hN _ _ (by omega) (by omega)]
      rfl
    · show impl_mapRoot.mb N (impl_mapRoot.mF N f) b = _
      unfold impl_mapRoot.mb
      rw [brEta, isEmptyI, ob_some, em, cond_false, h4, implLf hN _ _ (by omega) (by omega)]
      rfl
  | n + 1, f + 1, b, P, hf, .inr ⟨x, y, Q, A, h1, h2, h3, h4, _, _, h7, _, hx, hy⟩ => by
    obtain ⟨r1, s1, t1, u1⟩ := rootsC hN n f x _ (by omega) hx
    obtain ⟨r2, s2, t2, u2⟩ := rootsC hN n f y _ (by omega) hy
    have em : emB b = false := by
      unfold emB; rw [h1]
      cases seq b.Key ByteArray.empty <;> cases seq b.Value ByteArray.empty <;> cases (b.At == 0) <;> rfl
    have g0 : b.Kids.getD 0 Branch.dz = x := by rw [h1]; rfl
    have g1 : b.Kids.getD 1 Branch.dz = y := by rw [h1]; rfl
    have kl : (b.Kids.length : Int) = 2 := by rw [h1]; rfl
    have ea : (b.At == 256) = false := by rw [beq_eq_false_iff_ne]; omega
    refine ⟨fkH b.At r1 r2, hb_size _, ?_, ?_⟩
    · show spec_l07Root.mb N (spec_l07Root.mF N f) b = _
      unfold spec_l07Root.mb spec_l07Leaf.m
      rw [brEta, l07Empty, ob_some, em, cond_false, ob_some, brEta, g0, g1, brEta, t1, t2, kl, ob_some, ob_some, specFk hN _ _ _ s1 s2]
      rfl
    · show impl_mapRoot.mb N (impl_mapRoot.mF N f) b = _
      unfold impl_mapRoot.mb
      rw [brEta, isEmptyI, ob_some, em, cond_false, ea, g0, g1, brEta, brEta, u1, u2, kl, ob_some, ob_some, implFk hN _ _ _ s1 s2]
      rfl
open Classical in
theorem roots {N : Nat} (hN : Big N) {n : Nat} (hn : n ≤ N) (b : Branch) (h : mapB n b = true) : ∃ r : ByteArray, r.size = 32 ∧ spec_l07Root.m N b = some r ∧ impl_mapRoot.m N b = some r := by
  cases em : emB b with
  | false =>
    unfold mapB gdB at h
    rw [em, Bool.false_or, decide_eq_true_iff] at h
    exact rootsC hN n N b _ hn (Cx0.1 h.1)
  | true =>
    obtain ⟨M, hM⟩ : ∃ M, N = M + 1 := ⟨N - 1, by omega⟩
    refine ⟨hb ⟨#[2]⟩, hb_size _, ?_, ?_⟩
    · have : spec_l07Root.m N b = spec_l07Root.mb N (spec_l07Root.mF N M) b := by unfold spec_l07Root.m; rw [show spec_l07Root.mF N N = spec_l07Root.mF N (M + 1) by rw [← hM]]; rfl
      rw [this]
      unfold spec_l07Root.mb
      rw [brEta, l07Empty, ob_some, em, cond_true, show spec_l01Hash.m N ([(2:Int)]) = _ from specHash hN ⟨#[2]⟩ (by decide)]
      rfl
    · have : impl_mapRoot.m N b = impl_mapRoot.mb N (impl_mapRoot.mF N M) b := by unfold impl_mapRoot.m; rw [show impl_mapRoot.mF N N = impl_mapRoot.mF N (M + 1) by rw [← hM]]; rfl
      rw [this]
      unfold impl_mapRoot.mb
      rw [brEta, isEmptyI, ob_some, em, cond_true, implHash hN ⟨#[2]⟩ (by decide)]
      rfl
theorem shB_all {a : List ByteArray} (h : shB a = true) : ∀ x ∈ a, x.size = 32 := by
  intro x hx
  unfold shB at h
  rw [allF_iff] at h
  obtain ⟨j, hj, rfl⟩ := List.getElem_of_mem hx
  have := h j (Nat.zero_le _) (by omega)
  rw [getD_at hj, Bool.not_eq_true', bne_eq_false_iff_eq] at this
  omega
/-- Two that answer alike. -/
theorem mapB_C {n : Nat} {b : Branch} (h : mapB n b = true) (em : emB b = false) : C n b [] ∧ (Lv n b).length ≤ 40 := by
  classical
  unfold mapB gdB at h
  rw [em, Bool.false_or] at h
  have := of_decide_eq_true h
  exact ⟨Cx0.1 this.1, by omega⟩
/-! ### How many there are -/
def tl : Nat → List Branch → Nat
  | 0, l => l.length
  | n + 1, l => l.length + (l.map fun x => tl n x.Kids).sum
theorem loop_sz2 {X : Type} {step : (Int × Int → Option Int) → Int × Int → Option Int} {a : List X} {w : X → Nat} {c : Int}
    (hstep : ∀ (i : Nat) (hi : i < a.length) (v : Int), 0 ≤ v → v ≤ c → ∃ y, y ≤ v ∧ (0 ≤ y → y + w a[i] ≤ v) ∧ ∀ rec, step rec (v, (i : Int)) = bif decide (y < 0) then some (-1) else rec (y, ((i + 1 : Nat) : Int)))
    (hend : ∀ v rec, step rec (v, (a.length : Int)) = some v) : ∀ (k i N : Nat) (v : Int), i + k = a.length → k < N → 0 ≤ v → v ≤ c → ∃ y, miter step N (v, (i : Int)) = some y ∧ y ≤ v ∧ (0 ≤ y → y + ((a.drop i).map w).sum ≤ v)
  | 0, i, N + 1, v, h, _, _, _ => by
    obtain rfl : i = a.length := by omega
    exact ⟨v, hend v _, Int.le_refl _, fun _ => by simp⟩
  | k + 1, i, N + 1, v, h, hN, h0, hc => by
    obtain ⟨y, h1, h2, h3⟩ := hstep i (by omega) v h0 hc
    show ∃ z, step (miter step N) (v, (i : Int)) = some z ∧ _
    rw [h3]
    by_cases hy : y < 0
    · rw [decide_eq_true hy]; exact ⟨-1, rfl, by omega, fun h => by omega⟩
    · rw [decide_eq_false hy, cond_false]
      obtain ⟨z, k1, k2, k3⟩ := loop_sz2 hstep hend k (i + 1) N y (by omega) (by omega) (by omega) (by omega)
      refine ⟨z, k1, by omega, fun hz => ?_⟩
      have h4 := k3 hz
      have h5 := h2 (by omega)
      rw [List.drop_eq_getElem_cons (show i < a.length by omega), List.map_cons, List.sum_cons]
      push_cast
      omega
/-! ### Marks of branches -/
theorem getD_set {α : Type} {l : List α} {i : Nat} (h : i < l.length) (x d : α) : (l.set i x).getD i d = x := by
  rw [List.getD_eq_getElem?_getD, List.getElem?_set_self h]; rfl
/-! ### Steps -/
theorem fSt_txt {c : Int} (h0 : 0 ≤ c) (h1 : c ≤ 8388608) : w64 (c + 1) ≤ 8388616 := by
  rw [w_small (x := c + 1) (by omega) (by omega)]; omega
/-! ### The way down -/
theorem room24 {n : Nat} (h : n ≤ 1000) : room n 24 = true := by simp only [room, decide_eq_true_eq]; omega
theorem proveC {N : Nat} (hN : Big N) (a0 : Branch) (a1 h e1 e2 e3 e4 : ByteArray) (hh : h.size = 32) : ∀ (n K : Nat) (x : Branch) (P : List Int) (acc : List MapStep), n < K → n ≤ N → C n x P → acc.length ≤ P.length → P.length ≤ 256 → ∃ pf : MapProof, miter (fun rec => spec_l07Prove.step5 N a0 a1 rec) K (h, x.Key, x.Value, x.At, x.Kids, e1, e2, e3, e4, acc) = some pf ∧ miter (fun rec => impl_ProveKey.step7 N a0 a1 rec) K (.s1 h x.Key x.Value x.At x.Kids e1 e2 e3 e4 acc) = some (pf, 0) ∧ pf.Steps.length ≤ 256
  | 0, _, _, _, _, _, _, h, _, _ => h.elim
  | n + 1, 0, _, _, _, h, _, _, _, _ => by omega
  | n + 1, K + 1, x, P, acc, hK, hn, .inl ⟨h1, h2, h3, h4, _⟩, hl, hP => by
    refine ⟨MapProof.mk (seq x.Key a1) x.Key x.Value acc, ?_, ?_, by show acc.length ≤ 256; omega⟩
    · rw [miter_s]
      simp only [spec_l07Prove.step5, spec_l07Leaf.m, ob_some, h1, List.length_nil]
      rfl
    · rw [miter_s]
      simp only [impl_ProveKey.step7, h4]
      rfl
  | n + 1, K + 1, x, P, acc, hK, hn, .inr ⟨y, z, Q, A, h1, h2, h3, h4, h5, h6, h7, _, hy, hz⟩, hl, hP => by
    obtain ⟨r1, s1, t1, u1⟩ := rootsC hN n N y _ (by omega) hy
    obtain ⟨r2, s2, t2, u2⟩ := rootsC hN n N z _ (by omega) hz
    have t1 : spec_l07Root.m N y = some r1 := t1
    have u1 : impl_mapRoot.m N y = some r1 := u1
    have t2 : spec_l07Root.m N z = some r2 := t2
    have u2 : impl_mapRoot.m N z = some r2 := u2
    have bS := specBit N hh (show A < 256 by omega)
    have bI := implBit N hh (show A < 256 by omega)
    have hb2 := bt_lt h A
    have hr : room (acc.length + 1) 24 = true := room24 (by omega)
    have d2 : ∀ v : Int, decide (v < (([y, z] : List Branch).length : Int)) = decide (v < 2) := fun v => rfl
    have ne : ((([y, z] : List Branch).length : Int) == 0) = false := rfl
    have na : ((A : Int) != 256) = true := by rw [bne_iff_ne]; omega
    rcases (show bt h A = 0 ∨ bt h A = 1 by omega) with hb0 | hb0
    · obtain ⟨pf, i1, i2, i3⟩ := proveC hN a0 a1 h e1 e2 e3 e4 hh n K y (Q ++ [48]) (acc ++ [MapStep.mk (A : Int) r2]) (by omega) (by omega) hy (by simp; omega) (by simp; omega)
      refine ⟨pf, ?_, ?_, i3⟩
      · rw [miter_s]
        simp only [spec_l07Prove.step5, spec_l07Leaf.m, ob_some, h1, h4, ne, bS, hb0]
        have g : ([y, z] : List Branch).getD (Int.toNat (w64 ((1:Int) - ((0 : Nat) : Int)))) Branch.dz = z := rfl
        have g' : ([y, z] : List Branch).getD (Int.toNat ((0 : Nat) : Int)) Branch.dz = y := rfl
        rw [g, g', brEta, t2, ob_some, ← i1]
        simp only [List.length_singleton, hr]
        rfl
      · rw [miter_s]
        simp only [impl_ProveKey.step7, ob_some, h1, h4, na, bI, hb0]
        have g : ([y, z] : List Branch).getD (Int.toNat (w64 ((1:Int) - ((0 : Nat) : Int)))) Branch.dz = z := rfl
        have g' : ([y, z] : List Branch).getD (Int.toNat ((0 : Nat) : Int)) Branch.dz = y := rfl
        rw [g, g', brEta, u2, ob_some, ← i2]
        simp only [List.length_singleton, hr]
        rfl
    · obtain ⟨pf, i1, i2, i3⟩ := proveC hN a0 a1 h e1 e2 e3 e4 hh n K z (Q ++ [49]) (acc ++ [MapStep.mk (A : Int) r1]) (by omega) (by omega) hz (by simp; omega) (by simp; omega)
      refine ⟨pf, ?_, ?_, i3⟩
      · rw [miter_s]
        simp only [spec_l07Prove.step5, spec_l07Leaf.m, ob_some, h1, h4, ne, bS, hb0]
        have g : ([y, z] : List Branch).getD (Int.toNat (w64 ((1:Int) - ((1 : Nat) : Int)))) Branch.dz = y := rfl
        have g' : ([y, z] : List Branch).getD (Int.toNat ((1 : Nat) : Int)) Branch.dz = z := rfl
        rw [g, g', brEta, t1, ob_some, ← i1]
        simp only [List.length_singleton, hr]
        rfl
      · rw [miter_s]
        simp only [impl_ProveKey.step7, ob_some, h1, h4, na, bI, hb0]
        have g : ([y, z] : List Branch).getD (Int.toNat (w64 ((1:Int) - ((1 : Nat) : Int)))) Branch.dz = y := rfl
        have g' : ([y, z] : List Branch).getD (Int.toNat ((1 : Nat) : Int)) Branch.dz = z := rfl
        rw [g, g', brEta, u1, ob_some, ← i2]
        simp only [List.length_singleton, hr]
        rfl
theorem isText1 {N : Nat} (hN : Big N) (s : ByteArray) : impl_isText.m N [s] = some (!decide ((s.size : Int) > 65536)) := by
  obtain ⟨M, rfl⟩ : ∃ M, N = M + 9 := ⟨N - 9, by omega⟩
  unfold impl_isText.m slices_ContainsFunc_string_string__impl_isText_1.m slices_IndexFunc_string_string__impl_isText_1.m
  have : slices_IndexFunc_string_string__impl_isText_1.lp2 (M + 9) [s] ((([s] : List ByteArray).length : Int), 0) = bif decide ((s.size : Int) > 65536) then some 0 else some (-1) := by
    unfold slices_IndexFunc_string_string__impl_isText_1.lp2
    kernel_rfl
  rw [this]
  cases decide ((s.size : Int) > 65536) <;> rfl
theorem l02KeyS (N : Nat) (s : ByteArray) : ∃ y, spec_l02Key.m N s = some y ∧ impl_isKey.m N s = some y ∧ (y = true → s.size ≤ 24) := by
  refine ⟨keyB ⟨s, s, 0, []⟩, l02Key N ⟨s, s, 0, []⟩, isKeyI N ⟨s, s, 0, []⟩, fun h => ?_⟩
  exact ((keyB_iff _).1 h).2
theorem proveKey {N : Nat} (hN : Big N) {n : Nat} (hn : n < N) (b : Branch) (hb0 : bok n b) (s : ByteArray) : ∃ r : MapProof × Int, spec_ProveKey.m N b s = some r ∧ impl_ProveKey.m N b s = some r ∧ r.1.Steps.length ≤ 256 := by
  obtain ⟨y, k1, k2, k3⟩ := l02KeyS N s
  unfold spec_ProveKey.m impl_ProveKey.m impl_mapCode.m
  obtain ⟨l, p1, p2, p3⟩ := implPairs0 hN (by omega) b hb0
  simp only [brEta]
  rw [isText1 hN, specMap hN (by omega) b hb0, k1, k2, p1]
  simp only [ob_some, cond_false]
  by_cases h5 : (s.size : Int) > 65536
  · rw [decide_eq_true h5]
    exact ⟨_, rfl, rfl, Nat.zero_le _⟩
  rw [decide_eq_false h5]
  cases hm : mapB n b with
  | false => exact ⟨_, rfl, rfl, Nat.zero_le _⟩
  | true =>
    cases hy : y with
    | false => exact ⟨_, rfl, rfl, Nat.zero_le _⟩
    | true =>
      have hs := k3 hy
      simp only [Bool.not_false, Bool.not_true, cond_false, cond_true, ob_some, bne_self_eq_false]
      unfold spec_l07Prove.m
      simp only [brEta]
      rw [implHash hN _ (by omega), ob_some, isEmptyI, ob_some, l07Empty, ob_some, l07Hash hN _ (by omega), ob_some]
      cases em : emB b with
      | true => exact ⟨_, rfl, rfl, Nat.zero_le _⟩
      | false =>
        obtain ⟨hc, _⟩ := mapB_C hm em
        obtain ⟨pf, i1, i2, i3⟩ := proveC hN b s (hb s) ByteArray.empty ByteArray.empty ByteArray.empty ByteArray.empty (hb_size s) n N b [] [] hn (by omega) hc (Nat.le_refl _) (Nat.zero_le _)
        have i1' : spec_l07Prove.lp5 N b s (hb s, b.Key, b.Value, b.At, b.Kids, ByteArray.empty, ByteArray.empty, ByteArray.empty, ByteArray.empty, []) = some pf := i1
        have i2' : impl_ProveKey.lp7 N b s (.s0 (hb s) ByteArray.empty ByteArray.empty ByteArray.empty ByteArray.empty) = some (pf, 0) := by
          rw [← i2]
          unfold impl_ProveKey.lp7
          obtain ⟨M, hM⟩ : ∃ M, N = M + 1 := ⟨N - 1, by omega⟩
          have un : ∀ (g : (impl_ProveKey.A7 → Option impl_ProveKey.R) → (impl_ProveKey.A7 → Option impl_ProveKey.R)) (s), miter g N s = g (miter g M) s := by rw [hM]; intro g s; rfl
          rw [un, un]
          rfl
        rw [cond_false, cond_false, i1', i2', ob_some]
        exact ⟨_, rfl, rfl, i3⟩
theorem bok_kids {n : Nat} {b : Branch} (h : bok n b) : ∀ x ∈ b.Kids, bok n x := by
  have up : ∀ {n m : Nat} {b : Branch}, n ≤ m → bok n b → bok m b := by
    intro n
    induction n with
    | zero => intro m b _ h; exact h.elim
    | succ n ih =>
      intro m b hm h
      cases m with
      | zero => omega
      | succ m => exact ⟨h.1, h.2.1, h.2.2.1, fun x hx => ih (by omega) (h.2.2.2 x hx)⟩
  cases n with
  | zero => exact h.elim
  | succ n => exact fun x hx => up (by omega) (h.2.2.2 x hx)
theorem tl_up : ∀ {n : Nat} {l : List Branch}, (∀ x ∈ l, bok n x) → tl (n + 1) l = tl n l
  | 0, l, h => by
    have : l = [] := by
      cases l with
      | nil => rfl
      | cons x r => exact (h x List.mem_cons_self).elim
    rw [this]; rfl
  | n + 1, l, h => by
    show l.length + (l.map fun x => tl (n + 1) x.Kids).sum = l.length + (l.map fun x => tl n x.Kids).sum
    congr 2
    refine List.map_congr_left fun x hx => ?_
    exact tl_up fun y hy => (h x hx).2.2.2 y hy
end Mir.Y
