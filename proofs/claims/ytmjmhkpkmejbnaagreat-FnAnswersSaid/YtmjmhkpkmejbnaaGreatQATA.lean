/- Pure laws: branches and ledgers: sizes, copies, equality. -/
import Derived.Test.YtmjmhkpkmejbnaaGreatQASA
import Derived.Laws.Strings
namespace Mir.Y
set_option linter.unusedVariables false
set_option linter.unusedSimpArgs false
open Go
set_option linter.unusedSectionVars false
variable [UU]
abbrev K20 : Nat := 1048576
theorem wfTx {n : Nat} {s : ByteArray} (h : WfA E n .str s) : s.size ≤ maxLen := by cases n <;> exact h
theorem brEta (b : Branch) : Branch.mk b.Key b.Value b.At b.Kids = b := by cases b; rfl
def wfB : Nat → Branch → Prop
  | 0, _ => False
  | n + 1, b => b.Key.size ≤ maxLen ∧ b.Value.size ≤ maxLen ∧ b.Kids.length ≤ maxLen ∧ ∀ x ∈ b.Kids, wfB n x
/-- Branches no part of which is big; no deeper than the number. -/
def bok : Nat → Branch → Prop
  | 0, _ => False
  | n + 1, b => b.Key.size ≤ K20 ∧ b.Value.size ≤ K20 ∧ b.Kids.length ≤ K20 ∧ ∀ x ∈ b.Kids, bok n x
/-! ### Rows of texts -/
/-! ### Sessions -/
/-! ### Ledgers -/
structure LedWf (n : Nat) (x : Ledger) : Prop where
  Leaves : x.Leaves.length ≤ maxLen
  Leaf : ∀ s ∈ x.Leaves, s.size ≤ maxLen
  Map : wfB n x.Map
  Sessions : x.Sessions.length ≤ maxLen
  Value : ∀ s ∈ x.Sessions, s.Last.Value.size ≤ maxLen
structure LedOK (n : Nat) (x : Ledger) : Prop where
  Leaves : x.Leaves.length ≤ 1048576
  Leaf : ∀ s ∈ x.Leaves, s.size ≤ K20
  Map : bok n x.Map
  Sessions : x.Sessions.length ≤ 1048576
  Value : ∀ s ∈ x.Sessions, s.Last.Value.size ≤ K20
theorem ledEta (x : Ledger) : Ledger.mk x.Leaves (Branch.mk x.Map.Key x.Map.Value x.Map.At x.Map.Kids) x.Sessions = x := by rw [brEta]
theorem bytesOf_inj {a b : ByteArray} (h : bytesOf a = bytesOf b) : a = b := by
  have h1 : a.data.toList = b.data.toList := by
    unfold bytesOf at h
    refine (List.map_inj_right (fun x y hxy => ?_)).1 h
    exact UInt8.toNat_inj.1 (Int.ofNat.inj hxy)
  cases a; cases b
  simp only at h1
  exact congrArg _ (Array.toList_inj.1 h1)
theorem seq_iff {a b : ByteArray} : seq a b = true ↔ a = b := by
  constructor
  · intro h
    unfold seq at h
    have e1 := ByteArray.toList_eq a
    have e2 := ByteArray.toList_eq b
    rw [e1, e2, beq_iff_eq] at h
    cases a; cases b
    simp only at h
    exact congrArg _ (Array.toList_inj.1 h)
  · rintro rfl; exact seq_self a
theorem seq_dec {a b : ByteArray} {p : Prop} [Decidable p] (h : a = b ↔ p) : seq a b = decide p := by
  rw [Bool.eq_iff_iff, seq_iff, decide_eq_true_iff]; exact h
/-- Rows of numbers that fit in bytes. -/
def isBy (l : List Int) : Prop := ∀ x ∈ l, 0 ≤ x ∧ x < 256
theorem strOf_inj {a b : List Int} (ha : isBy a) (hb : isBy b) : strOf a = strOf b ↔ a = b := by
  constructor
  · intro h
    have := congrArg bytesOf h
    rwa [strOf_bytes a ha, strOf_bytes b hb] at this
  · rintro rfl; rfl
theorem strOf_take {l : List Int} (h : isBy l) (k : Nat) : (strOf l).extract 0 k = strOf (l.take k) := by
  apply bytesOf_inj
  rw [bytesOf_extract, strOf_bytes l h, strOf_bytes _ (fun x hx => h x (List.mem_of_mem_take hx))]
  simp
/-! ### Bits -/
def bt (h : ByteArray) (i : Nat) : Nat := ((sb h ((i / 8 : Nat) : Int)).toNat / 2 ^ (7 - i % 8)) % 2
theorem bt_lt (h : ByteArray) (i : Nat) : bt h i < 2 := Nat.mod_lt _ (by omega)
theorem bitI : ∀ n, n < 256 → ∀ r, r < 8 → ibit .and .i64 (w64 (Int.fdiv ((n : Nat) : Int) (2 ^ (min (Int.toNat (w64 ((7:Int) - ((r : Nat) : Int)))) 8)))) (1:Int) = ((n / 2 ^ (7 - r) % 2 : Nat) : Int) ∧ decide (w64 ((7:Int) - ((r : Nat) : Int)) < 0) = false := by decide +kernel
theorem bitS : ∀ n, n < 256 → ∀ r, r < 8 → ibit .and .i64 (w64 (Int.fdiv ((n : Nat) : Int) (2 ^ (min (Int.toNat (wu64 (w64 ((7:Int) - ((r : Nat) : Int))))) 8)))) (1:Int) = ((n / 2 ^ (7 - r) % 2 : Nat) : Int) ∧ decide (wu64 (w64 ((7:Int) - ((r : Nat) : Int))) < 0) = false := by decide +kernel
theorem bitT : ∀ n, n < 256 → ∀ r, r < 8 → wu8 ((48:Int) + (ibit .and .u8 (Int.fdiv ((n : Nat) : Int) (2 ^ (min (Int.toNat (wu64 ((7:Int) - ((r : Nat) : Int)))) 8))) (1:Int))) = ((48 + n / 2 ^ (7 - r) % 2 : Nat) : Int) ∧ decide (wu64 ((7:Int) - ((r : Nat) : Int)) < 0) = false := by decide +kernel
theorem sbN (h : ByteArray) (j : Nat) : ∃ n : Nat, sb h (j : Int) = (n : Int) ∧ n < 256 ∧ (sb h (j : Int)).toNat = n := by
  have := sb_range h (j : Int)
  exact ⟨(sb h (j : Int)).toNat, by omega, by omega, rfl⟩
theorem implBit (N : Nat) {h : ByteArray} (hh : h.size = 32) {i : Nat} (hi : i < 256) : impl_bit.m N h (i : Int) = some (bt h i : Int) := by
  unfold impl_bit.m
  have e1 : Int.tdiv (i : Int) 8 = ((i / 8 : Nat) : Int) := rfl
  have e2 : Int.tmod (i : Int) 8 = ((i % 8 : Nat) : Int) := rfl
  have e3 : w64 ((i / 8 : Nat) : Int) = ((i / 8 : Nat) : Int) := w_small (by omega) (by omega)
  obtain ⟨n, h1, h2, h3⟩ := sbN h (i / 8)
  obtain ⟨k1, k2⟩ := bitI n h2 (i % 8) (Nat.mod_lt _ (by omega))
  simp only [e1, e2, e3, h1, k1, k2, nn_dec, decide_eq_true (show ((i / 8 : Nat) : Int) < (h.size : Int) by omega), cond_true, Bool.not_false, show (!decide ((8:Int) = 0)) = true from rfl]
  rw [bt, h3]
theorem specBit (N : Nat) {h : ByteArray} (hh : h.size = 32) {i : Nat} (hi : i < 256) : spec_l07Bit.m N h (i : Int) = some (bt h i : Int) := by
  unfold spec_l07Bit.m
  have e1 : Int.tdiv (i : Int) 8 = ((i / 8 : Nat) : Int) := rfl
  have e2 : Int.tmod (i : Int) 8 = ((i % 8 : Nat) : Int) := rfl
  have e3 : w64 ((i / 8 : Nat) : Int) = ((i / 8 : Nat) : Int) := w_small (by omega) (by omega)
  obtain ⟨n, h1, h2, h3⟩ := sbN h (i / 8)
  obtain ⟨k1, k2⟩ := bitS n h2 (i % 8) (Nat.mod_lt _ (by omega))
  simp only [e1, e2, e3, h1, k1, k2, nn_dec, decide_eq_true (show ((i / 8 : Nat) : Int) < (h.size : Int) by omega), cond_true, Bool.not_false, show (!decide ((8:Int) = 0)) = true from rfl]
  rw [bt, h3]
def bitL (h : ByteArray) (n : Nat) : List Int := (List.range n).map fun i => ((48 + bt h i : Nat) : Int)
theorem bitL_length (h : ByteArray) (n : Nat) : (bitL h n).length = n := by simp [bitL]
theorem bitL_snoc (h : ByteArray) (n : Nat) : bitL h n ++ [((48 + bt h n : Nat) : Int)] = bitL h (n + 1) := by simp [bitL, List.range_succ]
theorem bitL_by (h : ByteArray) (n : Nat) : isBy (bitL h n) := by
  intro x hx
  simp only [bitL, List.mem_map] at hx
  obtain ⟨i, _, rfl⟩ := hx
  have := bt_lt h i
  omega
theorem bitL_take (h : ByteArray) {k n : Nat} (hk : k ≤ n) : (bitL h n).take k = bitL h k := by
  rw [bitL, ← List.map_take, List.take_range, Nat.min_eq_left hk]; rfl
def pre (x : Branch) (k : Nat) : List Int := bitL (hb x.Key) k
theorem pre_length (x : Branch) (k : Nat) : (pre x k).length = k := bitL_length _ _
theorem pre_take (x : Branch) {j k : Nat} (h : j ≤ k) : (pre x k).take j = pre x j := bitL_take _ h
theorem pre_succ (x : Branch) (k : Nat) : pre x (k + 1) = pre x k ++ [((48 + bt (hb x.Key) k : Nat) : Int)] := (bitL_snoc _ _).symm
def keyP (x : Branch) : Prop := 1 ≤ x.Key.size ∧ x.Key.size ≤ 24
def Lv : Nat → Branch → List Branch
  | 0, _ => []
  | n + 1, b => match b.Kids with
    | [] => [b]
    | ks => ks.flatMap (Lv n)
/-- A good branch all of whose leaves begin so. -/
def C : Nat → Branch → List Int → Prop
  | 0, _, _ => False
  | n + 1, b, P => (b.Kids = [] ∧ keyP b ∧ b.Value.size ≤ 60 ∧ b.At = 256 ∧ P.length ≤ 256 ∧ pre b P.length = P) ∨
      ∃ (x y : Branch) (Q : List Int) (A : Nat), b.Kids = [x, y] ∧ b.Key = ByteArray.empty ∧ b.Value = ByteArray.empty ∧ b.At = (A : Int) ∧ Q.length = A ∧ P.length ≤ A ∧ A ≤ 255 ∧ P = Q.take P.length ∧ C n x (Q ++ [48]) ∧ C n y (Q ++ [49])
theorem Lv_leaf {n : Nat} {b : Branch} (h : b.Kids = []) : Lv (n + 1) b = [b] := by
  show (match b.Kids with | [] => [b] | ks => ks.flatMap (Lv n)) = _
  rw [h]
theorem Lv_fork {n : Nat} {b x y : Branch} (h : b.Kids = [x, y]) : Lv (n + 1) b = Lv n x ++ Lv n y := by
  show (match b.Kids with | [] => [b] | ks => ks.flatMap (Lv n)) = _
  rw [h]; simp
theorem C_all : ∀ {n : Nat} {b : Branch} {P : List Int}, C n b P → ∀ l ∈ Lv n b, keyP l ∧ pre l P.length = P
  | 0, _, _, h => h.elim
  | n + 1, b, P, .inl ⟨h1, h2, _, _, _, h6⟩ => by
    intro l hl
    rw [Lv_leaf h1, List.mem_singleton] at hl
    subst hl
    exact ⟨h2, h6⟩
  | n + 1, b, P, .inr ⟨x, y, Q, A, h1, _, _, _, h5, h6, _, h8, hx, hy⟩ => by
    intro l hl
    rw [Lv_fork h1, List.mem_append] at hl
    have : ∀ (c : Int), keyP l ∧ pre l (Q ++ [c]).length = Q ++ [c] → keyP l ∧ pre l P.length = P := by
      rintro c ⟨k1, k2⟩
      refine ⟨k1, ?_⟩
      have k3 := congrArg (List.take P.length) k2
      have hle : P.length ≤ (Q ++ [c]).length := by simp; omega
      rw [pre_take _ hle, List.take_append_of_le_length (by omega), ← h8] at k3
      exact k3
    rcases hl with hl | hl
    · exact this _ (C_all hx l hl)
    · exact this _ (C_all hy l hl)
theorem C_pos : ∀ {n : Nat} {b : Branch} {P : List Int}, C n b P → 0 < (Lv n b).length
  | 0, _, _, h => h.elim
  | n + 1, b, P, .inl ⟨h1, _⟩ => by rw [Lv_leaf h1]; exact Nat.one_pos
  | n + 1, b, P, .inr ⟨x, y, Q, A, h1, _, _, _, _, _, _, _, hx, _⟩ => by rw [Lv_fork h1, List.length_append]; have := C_pos hx; omega
/-- Down the first kids. -/
def dn : Nat → Branch → Branch
  | 0, x => x
  | k + 1, x => match x.Kids with
    | [] => x
    | y :: _ => dn k y
theorem dn_leaf {k : Nat} {x : Branch} (h : x.Kids = []) : dn k x = x := by cases k <;> simp [dn, h]
theorem C_dn : ∀ {n : Nat} {b : Branch} {P : List Int} {k : Nat}, C n b P → 256 - P.length ≤ k → (dn k b).Kids = [] ∧ dn k b ∈ Lv n b
  | 0, _, _, _, h, _ => h.elim
  | n + 1, b, P, k, .inl ⟨h1, _⟩, _ => by rw [dn_leaf h1, Lv_leaf h1]; exact ⟨h1, List.mem_singleton_self _⟩
  | n + 1, b, P, k, .inr ⟨x, y, Q, A, h1, _, _, _, h5, h6, h7, _, hx, _⟩, hk => by
    obtain ⟨k, rfl⟩ : ∃ j, k = j + 1 := ⟨k - 1, by omega⟩
    have e : dn (k + 1) b = dn k x := by simp only [dn, h1]
    obtain ⟨h, h'⟩ := C_dn hx (k := k) (by simp; omega)
    rw [e, Lv_fork h1]
    exact ⟨h, List.mem_append_left _ h'⟩
/-! ### What the specification counts -/
def keyB (x : Branch) : Bool := decide ((x.Key.size : Int) ≥ 1) && decide ((x.Key.size : Int) ≤ 24)
theorem keyB_iff (x : Branch) : keyB x = true ↔ keyP x := by
  unfold keyB keyP
  rw [Bool.and_eq_true, decide_eq_true_iff, decide_eq_true_iff]; omega
theorem l02Key (N : Nat) (x : Branch) : spec_l02Key.m N x.Key = some (keyB x) := by
  unfold spec_l02Key.m keyB
  cases decide ((x.Key.size : Int) ≥ 1) <;> rfl
theorem l07Hash {N : Nat} (hN : Big N) (s : ByteArray) (h : s.size ≤ 2097152) : spec_l07Hash.m N s = some (hb s) := by
  unfold spec_l07Hash.m
  first
    | (rw [specHash hN s h]; rfl)
    | (rw [roomS (by omega), cond_true, specHash hN s h]; rfl)
def lfB (x : Branch) : Bool := ((x.Kids.length : Int) == 0)
theorem lfB_iff (x : Branch) : lfB x = true ↔ x.Kids = [] := by
  unfold lfB
  rw [beq_iff_eq]
  constructor
  · intro h; exact List.eq_nil_of_length_eq_zero (by omega)
  · intro h; rw [h]; rfl
theorem isBy_pre (x : Branch) (k : Nat) : isBy (pre x k) := bitL_by _ _
/-- What stands behind the descent. -/
theorem miter_s {α R : Type} (g : (α → Option R) → α → Option R) (K : Nat) (s : α) : miter g (K + 1) s = g (miter g K) s := rfl
def prO (x : Branch) : pairOf := ⟨x.Key, x.Value, hb x.Key⟩
theorem bitL_eq (h g : ByteArray) (A : Nat) : bitL h A = bitL g A ↔ ∀ j, j < A → bt h j = bt g j := by
  constructor
  · intro e j hj
    have := congrArg (fun l : List Int => l[j]?) e
    simp only [bitL, List.getElem?_map, List.getElem?_range hj, Option.map_some, Option.some.injEq] at this
    omega
  · intro e
    unfold bitL
    refine List.map_congr_left fun j hj => ?_
    rw [e j (List.mem_range.1 hj)]
theorem prO_at {l : List Branch} {j : Nat} (h : j < l.length) : (l.map prO).getD j pairOf.dz = prO l[j] := by
  rw [getD_at (by simpa using h), List.getElem_map]
theorem allF_mem {l : List Branch} {p : Branch → Bool} : allF (fun j => p (l.getD j Branch.dz)) 0 l.length = true ↔ ∀ x ∈ l, p x = true := by
  rw [allF_iff]
  constructor
  · intro h x hx
    obtain ⟨j, hj, rfl⟩ := List.getElem_of_mem hx
    have := h j (Nat.zero_le _) (by omega)
    rwa [getD_at hj] at this
  · intro h j _ hj
    have hj : j < l.length := by omega
    rw [getD_at hj]
    exact h _ (List.getElem_mem hj)
theorem isKeyI (N : Nat) (x : Branch) : impl_isKey.m N x.Key = some (keyB x) := by
  unfold impl_isKey.m; rw [within]; rfl
def vlB (x : Branch) : Bool := decide ((x.Value.size : Int) ≤ 60)
def isLf (x : Branch) : Bool := (x.At == 256) && (keyB x && (vlB x && lfB x))
def isFk (x : Branch) : Bool := seq x.Key ByteArray.empty && (seq x.Value ByteArray.empty && (inB x.At 0 255 && ((x.Kids.length : Int) == 2)))
theorem isLf_iff (x : Branch) : isLf x = true ↔ x.Kids = [] ∧ keyP x ∧ x.Value.size ≤ 60 ∧ x.At = 256 := by
  unfold isLf vlB
  rw [Bool.and_eq_true, Bool.and_eq_true, Bool.and_eq_true, keyB_iff, lfB_iff, beq_iff_eq, decide_eq_true_iff]
  constructor
  · rintro ⟨h1, h2, h3, h4⟩; exact ⟨h4, h2, by omega, h1⟩
  · rintro ⟨h1, h2, h3, h4⟩; exact ⟨h4, h2, by omega, h1⟩
theorem isFk_iff (b : Branch) : isFk b = true ↔ b.Key = ByteArray.empty ∧ b.Value = ByteArray.empty ∧ 0 ≤ b.At ∧ b.At ≤ 255 ∧ ∃ x y, b.Kids = [x, y] := by
  unfold isFk inB
  simp only [Bool.and_eq_true, seq_iff, decide_eq_true_iff, beq_iff_eq]
  constructor
  · rintro ⟨h1, h2, ⟨h3, h4⟩, h5⟩
    refine ⟨h1, h2, h3, h4, ?_⟩
    match hk : b.Kids with
    | [] => rw [hk] at h5; simp at h5
    | [x] => rw [hk] at h5; simp at h5
    | [x, y] => exact ⟨x, y, rfl⟩
    | x :: y :: z :: r => rw [hk] at h5; simp only [List.length_cons] at h5; omega
  · rintro ⟨h1, h2, h3, h4, x, y, h5⟩
    exact ⟨h1, h2, ⟨h3, h4⟩, by rw [h5]; rfl⟩
/-- A good branch of its own. -/
def Cx (n : Nat) (b : Branch) (lo : Nat) : Prop := ∃ P : List Int, P.length = lo ∧ C n b P
theorem snoc_inj {a b : List Int} {x y : Int} (h : a ++ [x] = b ++ [y]) : a = b ∧ x = y := by
  have := List.append_inj' h rfl
  exact ⟨this.1, by simpa using this.2⟩
theorem Cx_fork {n : Nat} {b x y : Branch} {A lo : Nat} (hk : b.Kids = [x, y]) (h1 : b.Key = ByteArray.empty) (h2 : b.Value = ByteArray.empty) (h3 : b.At = (A : Int)) (h4 : A ≤ 255) (h5 : lo ≤ A) :
    Cx (n + 1) b lo ↔ Cx n x (A + 1) ∧ (∀ l ∈ Lv n x, ((bt (hb l.Key) A : Nat) : Int) = 0) ∧ Cx n y (A + 1) ∧ (∀ l ∈ Lv n y, ((bt (hb l.Key) A : Nat) : Int) = 1) ∧ ∀ l ∈ Lv n x ++ Lv n y, pre l A = pre ((Lv n x ++ Lv n y).getD 0 Branch.dz) A := by
  constructor
  · rintro ⟨P, hP, ⟨h, _⟩ | ⟨x', y', Q, A', k1, k2, k3, k4, k5, k6, k7, k8, k9, k10⟩⟩
    · rw [hk] at h; cases h
    rw [hk] at k1
    obtain ⟨rfl, rfl⟩ : x = x' ∧ y = y' := by simpa using k1
    obtain rfl : A = A' := by omega
    have bit : ∀ {n : Nat} {z : Branch} {c : Int}, C n z (Q ++ [c]) → ∀ l ∈ Lv n z, pre l A = Q ∧ ((48 + bt (hb l.Key) A : Nat) : Int) = c := by
      intro n z c hz l hl
      have := (C_all hz l hl).2
      rw [List.length_append, List.length_singleton, k5, pre_succ] at this
      exact snoc_inj this
    refine ⟨⟨_, by simp [k5], k9⟩, fun l hl => by have := (bit k9 l hl).2; omega, ⟨_, by simp [k5], k10⟩, fun l hl => by have := (bit k10 l hl).2; omega, ?_⟩
    have all : ∀ l ∈ Lv n x ++ Lv n y, pre l A = Q := by
      intro l hl
      rcases List.mem_append.1 hl with hl | hl
      · exact (bit k9 l hl).1
      · exact (bit k10 l hl).1
    intro l hl
    have hp := C_pos k9
    have hq : (Lv n x ++ Lv n y).getD 0 Branch.dz ∈ Lv n x ++ Lv n y := by
      have h0 : 0 < (Lv n x ++ Lv n y).length := by rw [List.length_append]; omega
      rw [getD_at h0]; exact List.getElem_mem h0
    rw [all l hl, all _ hq]
  · rintro ⟨⟨P0, p1, p2⟩, p3, ⟨P1, q1, q2⟩, q3, r⟩
    generalize hf : pre ((Lv n x ++ Lv n y).getD 0 Branch.dz) A = Q at r
    have hQ : Q.length = A := by rw [← hf, pre_length]
    have back : ∀ {n : Nat} {z : Branch} {R : List Int} {c : Nat}, C n z R → R.length = A + 1 → (∀ l ∈ Lv n z, ((bt (hb l.Key) A : Nat) : Int) = (c : Int)) → (∀ l ∈ Lv n z, pre l A = Q) → R = Q ++ [((48 + c : Nat) : Int)] := by
      intro n z R c hz hR hc hq
      have hp := C_pos hz
      have hm : (Lv n z)[0] ∈ Lv n z := List.getElem_mem hp
      have := (C_all hz _ hm).2
      rw [hR, pre_succ, hq _ hm, show bt (hb (Lv n z)[0].Key) A = c from by have := hc _ hm; omega] at this
      exact this.symm
    have e0 := back p2 p1 (c := 0) p3 (fun l hl => r l (List.mem_append_left _ hl))
    have e1 := back q2 q1 (c := 1) q3 (fun l hl => r l (List.mem_append_right _ hl))
    subst e0; subst e1
    exact ⟨Q.take lo, by rw [List.length_take]; omega, .inr ⟨x, y, Q, A, hk, h1, h2, h3, hQ, by rw [List.length_take]; omega, h4, by rw [List.length_take]; congr 1; omega, p2, q2⟩⟩
theorem Cx_pos {n : Nat} {b : Branch} {lo : Nat} (h : Cx n b lo) : 0 < (Lv n b).length := by obtain ⟨P, _, h⟩ := h; exact C_pos h
def emB (b : Branch) : Bool := seq b.Key ByteArray.empty && (seq b.Value ByteArray.empty && ((b.At == 0) && ((b.Kids.length : Int) == 0)))
theorem l07Empty (N : Nat) (b : Branch) : spec_l07Empty.m N b = some (emB b) := by
  unfold spec_l07Empty.m emB
  cases seq b.Key ByteArray.empty <;> cases seq b.Value ByteArray.empty <;> cases (b.At == 0) <;> rfl
open Classical in
noncomputable def gdB (n : Nat) (b : Branch) : Bool := decide (Cx n b 0 ∧ ((Lv n b).length : Int) ≤ 40)
noncomputable def mapB (n : Nat) (b : Branch) : Bool := emB b || gdB n b
theorem Cx0 {n : Nat} {b : Branch} : Cx n b 0 ↔ C n b [] := by
  constructor
  · rintro ⟨P, h, hc⟩
    obtain rfl := List.eq_nil_of_length_eq_zero h
    exact hc
  · intro h; exact ⟨[], rfl, h⟩
/-! ### Ledgers -/
def shB (a : List ByteArray) : Bool := allF (fun i => !((((a.getD i ByteArray.empty).size : Nat) : Int) != 32)) 0 a.length
def sx (a : List Session) (i : Nat) : Session := a.getD i Session.dz
theorem sxe (a : List Session) (i : Nat) : a.getD i Session.dz = sx a i := rfl
def rpB (r : Reply) : Bool := inB r.Kind 0 6 && (inB r.Place 0 50 && decide ((r.Value.size : Int) ≤ 60))
def seP (a : List Session) (i : Nat) : Bool := inB (sx a i).Id 0 65535 && (inB (sx a i).Seq 0 65535 && (!(decide (0 < i) && decide ((sx a (i - 1)).Id ≥ (sx a i).Id)) && rpB (sx a i).Last))
def seB (a : List Session) : Bool := allF (seP a) 0 a.length
theorem shortI (N : Nat) (a : Int) : impl_isShort.m N a = some (inB a 0 65535) := by
  unfold impl_isShort.m; rw [within]; rfl
theorem not60 (r : Reply) [Decidable ((r.Value.size : Int) > 60)] : decide ((r.Value.size : Int) > 60) = !decide ((r.Value.size : Int) ≤ 60) := by
  rw [Bool.eq_iff_iff]; simp
noncomputable def ledB (n : Nat) (x : Ledger) : Bool := !decide ((x.Leaves.length : Int) > 50) && (shB x.Leaves && (mapB n x.Map && (!decide ((x.Sessions.length : Int) > 8) && seB x.Sessions)))
/-- A number big enough for a depth. -/
theorem bigN (n : Nat) : ∃ N, Big N ∧ n ≤ N := ⟨16777216 + n, by omega, by omega⟩
theorem capQ {n : Nat} (h : n ≤ 4194304) : decide (n ≤ 9223372036854775807) = true := decide_eq_true (by omega)
theorem sz1 (x : UInt8) : (⟨#[x]⟩ : ByteArray).size = 1 := rfl
theorem strOf1 (x : Int) : bytesOf (strOf [wu8 x]) = [wu8 x] := strOf_bytes _ (by
  intro y hy
  rw [List.mem_singleton] at hy
  subst hy
  exact wu8_range x)
/-! ### The tree of a row of hashes -/
def ndQ (a b : ByteArray) : ByteArray := hb ((⟨#[1]⟩ ++ a) ++ b)
/-! ### The root of a good branch -/
def lfH (k v : ByteArray) : ByteArray := hb ((⟨#[0]⟩ ++ (strOf [wu8 (k.size : Int)] ++ k)) ++ v)
def fkH (a : Int) (x y : ByteArray) : ByteArray := hb (((⟨#[1]⟩ ++ strOf [wu8 a]) ++ x) ++ y)
theorem shB_all {a : List ByteArray} (h : shB a = true) : ∀ x ∈ a, x.size = 32 := by
  intro x hx
  unfold shB at h
  rw [allF_iff] at h
  obtain ⟨j, hj, rfl⟩ := List.getElem_of_mem hx
  have := h j (Nat.zero_le _) (by omega)
  rw [getD_at hj, Bool.not_eq_true', bne_eq_false_iff_eq] at this
  omega
/-- Two that answer alike. -/
theorem mapB_C {n : Nat} {b : Branch} (h : mapB n b = true) (em : emB b = false) : C n b [] ∧ (Lv n b).length ≤ 40 := by
  classical
  unfold mapB gdB at h
  rw [em, Bool.false_or] at h
  have := of_decide_eq_true h
  exact ⟨Cx0.1 this.1, by omega⟩
theorem bytesOf_by (s : ByteArray) : isBy (bytesOf s) := by
  intro x hx
  simp only [bytesOf, List.mem_map] at hx
  obtain ⟨b, _, rfl⟩ := hx
  have := b.toNat_lt
  omega
theorem strOf_bytesOf (s : ByteArray) : strOf (bytesOf s) = s := bytesOf_inj (strOf_bytes _ (bytesOf_by s))
theorem flat_snoc {α : Type} (g : α → List Int) (a : List α) (i : Nat) (hi : i < a.length) : (a.take i).flatMap g ++ g a[i] = (a.take (i + 1)).flatMap g := by
  have ht : a.take (i + 1) = a.take i ++ [a[i]] := by rw [List.take_add_one, List.getElem?_eq_getElem hi]; rfl
  rw [ht, List.flatMap_append]; simp
theorem flat_len {α : Type} {g : α → List Int} {c : Nat} : ∀ {l : List α}, (∀ x ∈ l, (g x).length ≤ c) → (l.flatMap g).length ≤ l.length * c
  | [], _ => by simp
  | x :: l, h => by
    have h1 := h x List.mem_cons_self
    have h2 := flat_len (l := l) fun y hy => h y (List.mem_cons_of_mem _ hy)
    rw [List.flatMap_cons, List.length_append, List.length_cons, Nat.succ_mul]; omega
theorem flat_take {α : Type} {g : α → List Int} {c n : Nat} {l : List α} (h : ∀ x ∈ l, (g x).length ≤ c) (hn : l.length ≤ n) (i : Nat) : ((l.take i).flatMap g).length ≤ n * c := by
  have h1 := flat_len (l := l.take i) (g := g) (c := c) fun y hy => h y (List.mem_of_mem_take hy)
  have h2 : (l.take i).length ≤ n := by rw [List.length_take]; omega
  exact Nat.le_trans h1 (Nat.mul_le_mul_right _ h2)
theorem number2 {N : Nat} (hN : Big N) (x : Int) : impl_number.m N x 2 = some (strOf [wu8 (f8 x), wu8 x]) := by
  obtain ⟨M, rfl⟩ : ∃ M, N = M + 9 := ⟨N - 9, by omega⟩
  unfold impl_number.m impl_number.m0 impl_number.lp3
  kernel_rfl
theorem countedI {N : Nat} (hN : Big N) (s : ByteArray) (h : s.size ≤ 4194240) : impl_counted.m N s = some (strOf ([wu8 (s.size : Int)] ++ bytesOf s)) := by
  unfold impl_counted.m
  rw [number1 hN, ob_some, strOf_size, capQ (by rw [List.length_singleton]; omega), cond_true, ← strOf_append, strOf_bytesOf]
theorem twoS (N : Nat) (x : Int) (h0 : 0 ≤ x) (h1 : x ≤ 65535) : spec_l02Two.m N x = some [wu8 (f8 x), wu8 x] := by
  unfold spec_l02Two.m
  obtain ⟨k, rfl⟩ : ∃ k : Nat, x = (k : Int) := ⟨x.toNat, by omega⟩
  have e1 : Int.tdiv (k : Int) 256 = ((k / 256 : Nat) : Int) := rfl
  have e2 : w64 ((k / 256 : Nat) : Int) = ((k / 256 : Nat) : Int) := w_small (by omega) (by omega)
  rw [e1, e2, f8_nat]; rfl
/-! ### What a snapshot tells -/
def cmdO (x : Branch) : Command := ⟨1, 0, 0, x.Key, x.Value⟩
def gP (x : Branch) : List Int := [wu8 (x.Key.size : Int)] ++ bytesOf x.Key ++ [wu8 (x.Value.size : Int)] ++ bytesOf x.Value
def gS (s : Session) : List Int := [wu8 (f8 s.Id), wu8 s.Id] ++ [wu8 (f8 s.Seq), wu8 s.Seq] ++ [wu8 s.Last.Kind, wu8 s.Last.Place, wu8 (s.Last.Value.size : Int)] ++ bytesOf s.Last.Value
def lsOf (n : Nat) (b : Branch) : List Branch := bif emB b then [] else Lv n b
def snA (lv : List ByteArray) (i : Nat) : List Int := [wu8 (lv.length : Int)] ++ (lv.take i).flatMap bytesOf
def snB (lv : List ByteArray) (ls : List Branch) (i : Nat) : List Int := (snA lv lv.length ++ [wu8 (ls.length : Int)]) ++ (ls.take i).flatMap gP
def snC (lv : List ByteArray) (ls : List Branch) (ss : List Session) (i : Nat) : List Int := (snB lv ls ls.length ++ [wu8 (ss.length : Int)]) ++ (ss.take i).flatMap gS
structure SnOK (lv : List ByteArray) (ls : List Branch) (ss : List Session) : Prop where
  nl : lv.length ≤ 50
  l : ∀ x ∈ lv, x.size = 32
  np : ls.length ≤ 40
  p : ∀ x ∈ ls, x.Key.size ≤ 24 ∧ x.Value.size ≤ 60
  ns : ss.length ≤ 8
  s : ∀ x ∈ ss, 0 ≤ x.Id ∧ x.Id ≤ 65535 ∧ 0 ≤ x.Seq ∧ x.Seq ≤ 65535 ∧ x.Last.Value.size ≤ 60
variable {lv : List ByteArray} {ls : List Branch} {ss : List Session}
theorem gP_len (h : SnOK lv ls ss) : ∀ x ∈ ls, (gP x).length ≤ 86 := by
  intro x hx
  have := h.p x hx
  simp only [gP, List.length_append, bytesOf_length, List.length_singleton]; omega
theorem gS_len (h : SnOK lv ls ss) : ∀ x ∈ ss, (gS x).length ≤ 67 := by
  intro x hx
  have := h.s x hx
  simp only [gS, List.length_append, bytesOf_length, List.length_cons, List.length_nil]; omega
theorem snA_len (h : SnOK lv ls ss) (i : Nat) : (snA lv i).length ≤ 1601 := by
  have := flat_take (g := bytesOf) (c := 32) (n := 50) (fun x hx => by rw [bytesOf_length, h.l x hx]; exact Nat.le_refl _) h.nl i
  simp only [snA, List.length_append, List.length_singleton]; omega
theorem snB_len (h : SnOK lv ls ss) (i : Nat) : (snB lv ls i).length ≤ 5042 := by
  have := flat_take (gP_len h) h.np i
  have := snA_len h lv.length
  simp only [snB, List.length_append, List.length_singleton]; omega
theorem snC_len (h : SnOK lv ls ss) (i : Nat) : (snC lv ls ss i).length ≤ 5579 := by
  have := flat_take (gS_len h) h.ns i
  have := snB_len h ls.length
  simp only [snC, List.length_append, List.length_singleton]; omega
theorem snA_snoc {i : Nat} (hi : i < lv.length) : snA lv i ++ bytesOf lv[i] = snA lv (i + 1) := by
  rw [snA, snA, List.append_assoc, flat_snoc _ _ _ hi]
theorem snB_snoc {i : Nat} (hi : i < ls.length) : snB lv ls i ++ gP ls[i] = snB lv ls (i + 1) := by
  rw [snB, snB, List.append_assoc, flat_snoc _ _ _ hi]
theorem snC_snoc {i : Nat} (hi : i < ss.length) : snC lv ls ss i ++ gS ss[i] = snC lv ls ss (i + 1) := by
  rw [snC, snC, List.append_assoc, flat_snoc _ _ _ hi]
theorem cmd_at {j : Nat} (h : j < ls.length) : (ls.map cmdO).getD j Command.dz = cmdO ls[j] := by
  rw [getD_at (by simpa using h), List.getElem_map]
theorem roomT {n : Nat} (h : n ≤ 100000) : room n 1 = true := roomS (by omega)
/-! ### The specification's snapshot -/
theorem C_val : ∀ {n : Nat} {b : Branch} {P : List Int}, C n b P → ∀ l ∈ Lv n b, l.Value.size ≤ 60
  | 0, _, _, h => h.elim
  | n + 1, b, P, .inl ⟨h1, _, h3, _⟩ => by
    intro l hl
    rw [Lv_leaf h1, List.mem_singleton] at hl
    subst hl
    exact h3
  | n + 1, b, P, .inr ⟨x, y, Q, A, h1, _, _, _, _, _, _, _, hx, hy⟩ => by
    intro l hl
    rw [Lv_fork h1, List.mem_append] at hl
    rcases hl with hl | hl
    · exact C_val hx l hl
    · exact C_val hy l hl
theorem ledSn {n : Nat} {x : Ledger} (h : ledB n x = true) : mapB n x.Map = true ∧ SnOK x.Leaves (lsOf n x.Map) x.Sessions := by
  unfold ledB at h
  simp only [Bool.and_eq_true, Bool.not_eq_true', decide_eq_false_iff_not] at h
  obtain ⟨k1, k2, k3, k4, k5⟩ := h
  refine ⟨k3, by omega, shB_all k2, ?_, ?_, by omega, ?_⟩
  · cases em : emB x.Map with
    | true => rw [lsOf, em]; exact Nat.zero_le _
    | false => rw [lsOf, em]; exact (mapB_C k3 em).2
  · cases em : emB x.Map with
    | true => rw [lsOf, em]; intro y hy; exact absurd hy List.not_mem_nil
    | false =>
      rw [lsOf, em]
      intro y hy
      exact ⟨(C_all (mapB_C k3 em).1 y hy).1.2, C_val (mapB_C k3 em).1 y hy⟩
  · intro s hs
    obtain ⟨j, hj, rfl⟩ := List.getElem_of_mem hs
    unfold seB at k5
    rw [allF_iff] at k5
    have := k5 j (Nat.zero_le _) (by omega)
    unfold seP rpB inB at this
    rw [sx, getD_at hj] at this
    simp only [Bool.and_eq_true, decide_eq_true_eq] at this
    have h3 : decide (((x.Sessions[j]).Last.Value.size : Int) ≤ 60) = true := decide_eq_true this.2.2.2.2.2
    exact ⟨this.1.1, this.1.2, this.2.1.1, this.2.1.2, by have := of_decide_eq_true h3; omega⟩
def snap (n : Nat) (x : Ledger) : List Int := snC x.Leaves (lsOf n x.Map) x.Sessions x.Sessions.length
/-! ### The program's snapshot -/
noncomputable def sameR (n : Nat) (x y : Ledger) : Bool × Int := bif ledB n x && ledB n y then (seq (strOf (snap n x)) (strOf (snap n y)), 0) else (false, 1)
theorem wfB_up : ∀ {n m : Nat} {b : Branch}, n ≤ m → wfB n b → wfB m b
  | 0, _, _, _, h => h.elim
  | n + 1, 0, _, h, _ => by omega
  | n + 1, m + 1, b, hm, ⟨h1, h2, h3, h4⟩ => ⟨h1, h2, h3, fun x hx => wfB_up (by omega) (h4 x hx)⟩
theorem LedWf.up {n m : Nat} {x : Ledger} (hm : n ≤ m) (h : LedWf n x) : LedWf m x := ⟨h.1, h.2, wfB_up hm h.3, h.4, h.5⟩
end Mir.Y
