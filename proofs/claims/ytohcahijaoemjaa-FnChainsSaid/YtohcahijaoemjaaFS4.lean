/- Pure laws: Chain, SecretPart, LeafKey, PublicRoot. -/
import Derived.Test.YtohcahijaoemjaaFS3
namespace Mir.Y
set_option linter.unusedVariables false
set_option linter.unusedSimpArgs false
open Go
def inB (a lo hi : Int) : Bool := decide (a ≥ lo) && decide (a ≤ hi)
theorem l01In (N : Nat) (a lo hi : Int) : spec_l01In.m N a lo hi = some (inB a lo hi) := by
  unfold spec_l01In.m inB
  cases decide (a ≥ lo) <;> rfl
theorem within (N : Nat) (a lo hi : Int) : impl_within.m N a lo hi = some (inB a lo hi) := by
  unfold impl_within.m inB
  cases decide (a ≥ lo) <;> rfl
theorem inB_iff {a lo hi : Int} : inB a lo hi = true ↔ lo ≤ a ∧ a ≤ hi := by simp [inB]
theorem isText1 {N : Nat} (hN : Big N) (s : ByteArray) : impl_isText.m N [s] = some (!decide ((s.size : Int) > 65536)) := by
  obtain ⟨M, rfl⟩ : ∃ M, N = M + 2 := ⟨N - 2, by omega⟩
  unfold impl_isText.m slices_ContainsFunc_string_string__impl_isText_1.m slices_IndexFunc_string_string__impl_isText_1.m slices_IndexFunc_string_string__impl_isText_1.lp2
  have e : w64 ((0 : Int) + 1) = 1 := w64_eq (by omega) (by omega)
  simp only [miter, slices_IndexFunc_string_string__impl_isText_1.step2, impl_isText_1.m, e]
  cases hc : decide ((s.size : Int) > 65536) with
  | false => simp [hc]
  | true => simp [hc]
theorem isHash1 {N : Nat} (hN : Big N) (s : ByteArray) : impl_isHash.m N [s] = some (!((s.size : Int) != 32)) := by
  obtain ⟨M, rfl⟩ : ∃ M, N = M + 2 := ⟨N - 2, by omega⟩
  unfold impl_isHash.m slices_ContainsFunc_string_string__impl_isHash_1.m slices_IndexFunc_string_string__impl_isHash_1.m slices_IndexFunc_string_string__impl_isHash_1.lp2
  have e : w64 ((0 : Int) + 1) = 1 := w64_eq (by omega) (by omega)
  simp only [miter, slices_IndexFunc_string_string__impl_isHash_1.step2, impl_isHash_1.m, e]
  cases hc : ((s.size : Int) != 32) with
  | false => simp [hc]
  | true => simp [hc]
theorem w8_bytes (x : Int) : bytesOf (strOf [wu8 x]) = [wu8 x] := strOf_bytes _ (by
  intro y hy
  rw [List.mem_singleton] at hy
  subst hy
  exact wu8_range x)
theorem w8_size (x : Int) : (strOf [wu8 x]).size = 1 := by rw [strOf_size]; rfl
theorem cap63 {n : Nat} (h : n ≤ 4194304) : decide (n ≤ 9223372036854775807) = true := decide_eq_true (by omega)
/-! ### Chains -/
def chn (s : ByteArray) (a : Nat) : Nat → ByteArray
  | 0 => s
  | i + 1 => hb ((⟨#[3]⟩ ++ strOf [wu8 ((a + i : Nat) : Int)]) ++ chn s a i)
theorem chn_size {s : ByteArray} (hs : s.size = 32) (a : Nat) : ∀ i, (chn s a i).size = 32
  | 0 => hs
  | i + 1 => hb_size _
theorem q3 : (⟨#[3]⟩ : ByteArray).size = 1 := rfl
theorem q4 : (⟨#[4]⟩ : ByteArray).size = 1 := rfl
theorem q5 : (⟨#[5]⟩ : ByteArray).size = 1 := rfl
theorem q1 : (⟨#[1]⟩ : ByteArray).size = 1 := rfl
theorem specChain {N : Nat} (hN : Big N) (s : ByteArray) (a c : Nat) (hs : s.size = 32) (ha : a ≤ 15) (hc : c ≤ 15) : spec_l08Chain.m N s a c = some (chn s a c) := by
  unfold spec_l08Chain.m spec_l08Chain.lp2
  exact miter_up (step := fun rec => spec_l08Chain.step2 N s a c rec) (n := c) (st := fun i => (chn s a i, (i : Int))) (fun i hi rec => by
    have e1 : w64 ((a : Int) + (i : Int)) = ((a + i : Nat) : Int) := by rw [w_small (by omega) (by omega)]; omega
    have hz := chn_size hs a i
    have hb1 : [(3:Int), wu8 ((a + i : Nat) : Int)] ++ bytesOf (chn s a i) = bytesOf ((⟨#[3]⟩ ++ strOf [wu8 ((a + i : Nat) : Int)]) ++ chn s a i) := by
      rw [bytesOf_append, bytesOf_append, w8_bytes]; rfl
    have hsz : ((⟨#[3]⟩ ++ strOf [wu8 ((a + i : Nat) : Int)]) ++ chn s a i : ByteArray).size = 34 := by
      rw [size_append, size_append, w8_size, hz]; rfl
    simp only [spec_l08Chain.step2, lt_dec hi, cond_true, e1]
    rw [roomS (by rw [bytesOf_length, hz]; simp), cond_true, hb1, specHash hN _ (by omega), ob_some, w_up i c hi (by omega)]
    rfl) (fun rec => by simp [spec_l08Chain.step2]) c 0 N (by omega) (by omega)
theorem implChain {N : Nat} (hN : Big N) (s : ByteArray) (a c : Nat) (hs : s.size = 32) (ha : a ≤ 15) (hc : c ≤ 15) : impl_chain.m N s a c = some (chn s a c) := by
  unfold impl_chain.m impl_chain.lp2
  have e0 : w64 ((a : Int) + (c : Int)) = ((a + c : Nat) : Int) := by rw [w_small (by omega) (by omega)]; omega
  exact miter_up (step := fun rec => impl_chain.step2 N s a c rec) (n := c) (st := fun i => (chn s a i, ((a + i : Nat) : Int))) (fun i hi rec => by
    have hz := chn_size hs a i
    have hsz : ((⟨#[3]⟩ ++ strOf [wu8 ((a + i : Nat) : Int)]) ++ chn s a i : ByteArray).size = 34 := by
      rw [size_append, size_append, w8_size, hz]; rfl
    simp only [impl_chain.step2, e0, lt_dec (show a + i < a + c by omega), cond_true, number1 hN, ob_some, size_append, q3, w8_size, hz]
    rw [cap63 (by omega), cap63 (by omega), cond_true, cond_true, implHash hN _ (by omega), ob_some, w_up (a + i) (a + c) (by omega) (by omega)]
    rfl) (fun rec => by simp only [impl_chain.step2, e0, ge_dec, cond_false]) c 0 N (by omega) (by omega)
def chR (s : ByteArray) (a c : Int) : ByteArray × Int := bif decide ((s.size : Int) > 65536) then (ByteArray.empty, 2) else bif (s.size : Int) != 32 then (ByteArray.empty, 1) else bif inB a 0 15 && inB c 0 (w64 (15 - a)) then (chn s a.toNat c.toNat, 0) else (ByteArray.empty, 4)
theorem chArgs {s : ByteArray} {a c : Int} (h1 : ((s.size : Int) != 32) = false) (h2 : inB a 0 15 = true) (h3 : inB c 0 (w64 (15 - a)) = true) : ∃ x y : Nat, a = x ∧ c = y ∧ s.size = 32 ∧ x ≤ 15 ∧ y ≤ 15 := by
  obtain ⟨a1, a2⟩ := inB_iff.1 h2
  obtain ⟨c1, c2⟩ := inB_iff.1 h3
  rw [w_small (by omega) (by omega)] at c2
  obtain ⟨x, rfl⟩ := Int.eq_ofNat_of_zero_le a1
  obtain ⟨y, rfl⟩ := Int.eq_ofNat_of_zero_le c1
  have : (s.size : Int) = 32 := by simpa using h1
  exact ⟨x, y, rfl, rfl, by omega, by omega, by omega⟩
theorem implChainR {N : Nat} (hN : Big N) (s : ByteArray) (a c : Int) : impl_Chain.m N s a c = some (chR s a c) := by
  unfold impl_Chain.m chR
  simp only [isText1 hN, isHash1 hN, within, ob_some, cond_false, Bool.not_not]
  cases decide ((s.size : Int) > 65536) with
  | true => rfl
  | false =>
    cases h1 : (s.size : Int) != 32 with
    | true => rfl
    | false =>
      cases h2 : inB a 0 15 with
      | false => rfl
      | true =>
        cases h3 : inB c 0 (w64 (15 - a)) with
        | false => rfl
        | true =>
          obtain ⟨x, y, rfl, rfl, hs, hx, hy⟩ := chArgs h1 h2 h3
          rw [implChain hN s x y hs hx hy]; rfl
/-! ### Secret parts -/
def sec (s : ByteArray) (i j : Int) : ByteArray := hb (((⟨#[4]⟩ ++ strOf [wu8 i]) ++ strOf [wu8 j]) ++ s)
theorem specSecret {N : Nat} (hN : Big N) (s : ByteArray) (i j : Int) (hs : s.size = 32) : spec_l08Secret.m N s i j = some (sec s i j) := by
  unfold spec_l08Secret.m
  have hb1 : [(4:Int), wu8 i, wu8 j] ++ bytesOf s = bytesOf (((⟨#[4]⟩ ++ strOf [wu8 i]) ++ strOf [wu8 j]) ++ s) := by
    rw [bytesOf_append, bytesOf_append, bytesOf_append, w8_bytes, w8_bytes]; rfl
  have hsz : (((⟨#[4]⟩ ++ strOf [wu8 i]) ++ strOf [wu8 j]) ++ s : ByteArray).size = 35 := by
    rw [size_append, size_append, size_append, w8_size, w8_size, hs]; rfl
  rw [roomS (by rw [bytesOf_length, hs]; simp), cond_true, hb1, specHash hN _ (by omega)]
  rfl
theorem implSecret {N : Nat} (hN : Big N) (s : ByteArray) (i j : Int) (hs : s.size = 32) : impl_secretPart.m N s i j = some (sec s i j) := by
  unfold impl_secretPart.m
  have hsz : (((⟨#[4]⟩ ++ strOf [wu8 i]) ++ strOf [wu8 j]) ++ s : ByteArray).size = 35 := by
    rw [size_append, size_append, size_append, w8_size, w8_size, hs]; rfl
  simp only [number1 hN, ob_some, size_append, q4, w8_size, hs]
  rw [cap63 (by omega), cap63 (by omega), cap63 (by omega), cond_true, cond_true, cond_true, implHash hN _ (by omega)]
  rfl
theorem seedCode {N : Nat} (hN : Big N) (s : ByteArray) (i : Int) : impl_seedCode.m N s i = some (bif decide ((s.size : Int) > 65536) then 2 else bif (s.size : Int) != 32 then 1 else bif inB i 0 3 then 0 else 4) := by
  unfold impl_seedCode.m
  simp only [isText1 hN, isHash1 hN, within, ob_some, Bool.not_not]
  cases decide ((s.size : Int) > 65536) <;> cases (s.size : Int) != 32 <;> cases inB i 0 3 <;> rfl
theorem sz32 {s : ByteArray} (h1 : ((s.size : Int) != 32) = false) : s.size = 32 := by
  have : (s.size : Int) = 32 := by simpa using h1
  omega
def secR (s : ByteArray) (i j : Int) : ByteArray × Int := bif decide ((s.size : Int) > 65536) then (ByteArray.empty, 2) else bif (s.size : Int) != 32 then (ByteArray.empty, 1) else bif inB i 0 3 && inB j 0 17 then (sec s i j, 0) else (ByteArray.empty, 4)
theorem implSecretR {N : Nat} (hN : Big N) (s : ByteArray) (i j : Int) : impl_SecretPart.m N s i j = some (secR s i j) := by
  unfold impl_SecretPart.m secR
  simp only [seedCode hN, within, ob_some]
  cases decide ((s.size : Int) > 65536) with
  | true => rfl
  | false =>
    cases h1 : (s.size : Int) != 32 with
    | true => rfl
    | false =>
      rw [implSecret hN s i j (sz32 h1)]
      cases inB i 0 3 <;> cases inB j 0 17 <;> rfl
/-! ### Leaf keys -/
def catB (l : List ByteArray) : ByteArray := l.foldl (· ++ ·) ⟨#[5]⟩
theorem catB_snoc (l : List ByteArray) (x : ByteArray) : catB (l ++ [x]) = catB l ++ x := by simp [catB]
theorem catB_size (l : List ByteArray) (h : ∀ x ∈ l, x.size = 32) : (catB l).size = 1 + 32 * l.length := by
  have : ∀ (l : List ByteArray) (z : ByteArray), (∀ x ∈ l, x.size = 32) → (l.foldl (· ++ ·) z).size = z.size + 32 * l.length := by
    intro l
    induction l with
    | nil => intro z _; rfl
    | cons x l ih =>
      intro z hx
      rw [List.foldl_cons, ih _ (fun y hy => hx y (List.mem_cons_of_mem _ hy)), size_append, hx x (List.mem_cons_self ..), List.length_cons]
      omega
  exact this l _ h
theorem specEnds {N : Nat} (hN : Big N) (l : List ByteArray) (h : ∀ x ∈ l, x.size = 32) (hl : l.length ≤ 64) : spec_l08Ends.m N l = some (hb (catB l)) := by
  unfold spec_l08Ends.m spec_l08Ends.lp3
  have ht : ∀ i, (catB (l.take i)).size ≤ 2049 := fun i => by
    rw [catB_size _ (fun x hx => h x (List.mem_of_mem_take hx))]
    have : (l.take i).length ≤ l.length := by simp; omega
    omega
  have := miter_up (step := fun rec => spec_l08Ends.step3 N l rec) (n := l.length) (st := fun i => ((i : Int), bytesOf (catB (l.take i)))) (r := some (hb (catB l))) (fun i hi rec => by
    have hx : l[i].size = 32 := h _ (List.getElem_mem hi)
    have htk : l.take (i + 1) = l.take i ++ [l[i]] := by rw [List.take_add_one, List.getElem?_eq_getElem hi]; rfl
    have hti := ht i
    simp only [spec_l08Ends.step3, lt_dec hi, nn_dec, cond_true, Int.toNat_natCast, getD_at hi]
    rw [roomS (by rw [bytesOf_length, bytesOf_length, hx]; omega), cond_true, w_up i _ hi (by omega), htk, catB_snoc, bytesOf_append]) (fun rec => by
    simp only [spec_l08Ends.step3, ge_dec, cond_false, List.take_length]
    have := ht l.length
    rw [List.take_length] at this
    rw [specHash hN _ (by omega), ob_some]) l.length 0 N (by omega) (by omega)
  exact this
theorem implEnds {N : Nat} (hN : Big N) (l : List ByteArray) (h : ∀ x ∈ l, x.size = 32) (hl : l.length ≤ 64) : impl_endsLeaf.m N l = some (hb (catB l)) := by
  unfold impl_endsLeaf.m impl_endsLeaf.lp3
  have ht : ∀ i, (catB (l.take i)).size ≤ 2049 := fun i => by
    rw [catB_size _ (fun x hx => h x (List.mem_of_mem_take hx))]
    have : (l.take i).length ≤ l.length := by simp; omega
    omega
  have := miter_up (step := fun rec => impl_endsLeaf.step3 N l rec) (n := l.length) (st := fun i => (catB (l.take i), (l.length : Int), (i : Int))) (r := some (hb (catB l))) (fun i hi rec => by
    have hx : l[i].size = 32 := h _ (List.getElem_mem hi)
    have htk : l.take (i + 1) = l.take i ++ [l[i]] := by rw [List.take_add_one, List.getElem?_eq_getElem hi]; rfl
    have hti := ht i
    simp only [impl_endsLeaf.step3, lt_dec hi, nn_dec, cond_true, Int.toNat_natCast, getD_at hi, hx]
    rw [cap63 (by omega), cond_true, w_up i _ hi (by omega), htk, catB_snoc]) (fun rec => by
    simp only [impl_endsLeaf.step3, ge_dec, cond_false, List.take_length]
    have := ht l.length
    rw [List.take_length] at this
    rw [implHash hN _ (by omega), ob_some]) l.length 0 N (by omega) (by omega)
  exact this
def keyE (s : ByteArray) (i : Int) (n : Nat) : List ByteArray := (List.range n).map fun (j : Nat) => chn (sec s i (j : Int)) 0 15
def leafK (s : ByteArray) (i : Int) : ByteArray := hb (catB (keyE s i 18))
theorem keyE_len (s : ByteArray) (i : Int) (n : Nat) : (keyE s i n).length = n := by simp [keyE]
theorem keyE_size (s : ByteArray) (i : Int) (n : Nat) : ∀ x ∈ keyE s i n, x.size = 32 := by
  intro x hx
  simp only [keyE, List.mem_map] at hx
  obtain ⟨j, _, rfl⟩ := hx
  exact chn_size (hb_size _) _ _
theorem keyE_snoc (s : ByteArray) (i : Int) (n : Nat) : keyE s i n ++ [chn (sec s i (n : Int)) 0 15] = keyE s i (n + 1) := by simp [keyE, List.range_succ]
theorem room16 {n : Nat} (h : n ≤ 4096) : room n 16 = true := by simp only [room, decide_eq_true_eq]; omega
theorem specLeaf {N : Nat} (hN : Big N) (s : ByteArray) (i : Int) (hs : s.size = 32) : spec_l08Leaf.m N s i = some (leafK s i) := by
  unfold spec_l08Leaf.m spec_l08Leaf.lp3
  exact miter_up (step := fun rec => spec_l08Leaf.step3 N s i rec) (n := 18) (st := fun j => ((j : Int), keyE s i j)) (fun j hj rec => by
    simp only [spec_l08Leaf.step3, decide_eq_true (show (j : Int) < 18 by omega), cond_true, specSecret hN s i _ hs, ob_some]
    have := specChain hN (sec s i (j : Int)) 0 15 (hb_size _) (by omega) (by omega)
    rw [show spec_l08Chain.m N (sec s i (j : Int)) 0 15 = some (chn (sec s i (j : Int)) 0 15) from this, ob_some, room16 (by rw [keyE_len]; simp; omega), cond_true, keyE_snoc, w_up j 18 hj (by omega)]) (fun rec => by
    have : spec_l08Ends.m N (keyE s i 18) = some (leafK s i) := specEnds hN _ (keyE_size s i 18) (by rw [keyE_len]; omega)
    show ob (spec_l08Ends.m N (keyE s i 18)) _ = _
    rw [this]; rfl) 18 0 N (by omega) (by omega)
theorem implLeaf {N : Nat} (hN : Big N) (s : ByteArray) (i : Int) (hs : s.size = 32) : impl_leafKey.m N s i = some (leafK s i) := by
  unfold impl_leafKey.m impl_leafKey.lp3
  exact miter_up (step := fun rec => impl_leafKey.step3 N s i rec) (n := 18) (st := fun j => ((j : Int), keyE s i j)) (fun j hj rec => by
    simp only [impl_leafKey.step3, decide_eq_true (show (j : Int) < 18 by omega), cond_true, implSecret hN s i _ hs, ob_some]
    have := implChain hN (sec s i (j : Int)) 0 15 (hb_size _) (by omega) (by omega)
    rw [show impl_chain.m N (sec s i (j : Int)) 0 15 = some (chn (sec s i (j : Int)) 0 15) from this, ob_some, room16 (by rw [keyE_len]; simp; omega), cond_true, keyE_snoc, w_up j 18 hj (by omega)]) (fun rec => by
    have : impl_endsLeaf.m N (keyE s i 18) = some (leafK s i) := implEnds hN _ (keyE_size s i 18) (by rw [keyE_len]; omega)
    show ob (impl_endsLeaf.m N (keyE s i 18)) _ = _
    rw [this]; rfl) 18 0 N (by omega) (by omega)
def leafR (s : ByteArray) (i : Int) : ByteArray × Int := bif decide ((s.size : Int) > 65536) then (ByteArray.empty, 2) else bif (s.size : Int) != 32 then (ByteArray.empty, 1) else bif inB i 0 3 then (leafK s i, 0) else (ByteArray.empty, 4)
theorem specLeafR {N : Nat} (hN : Big N) (s : ByteArray) (i : Int) : spec_LeafKey.m N s i = some (leafR s i) := by
  unfold spec_LeafKey.m leafR spec_l08Index.m
  simp only [l01In, ob_some]
  cases decide ((s.size : Int) > 65536) with
  | true => rfl
  | false =>
    cases h1 : (s.size : Int) != 32 with
    | true => rfl
    | false =>
      rw [specLeaf hN s i (sz32 h1)]
      cases inB i 0 3 <;> rfl
theorem implLeafR {N : Nat} (hN : Big N) (s : ByteArray) (i : Int) : impl_LeafKey.m N s i = some (leafR s i) := by
  unfold impl_LeafKey.m leafR
  simp only [seedCode hN, ob_some]
  cases decide ((s.size : Int) > 65536) with
  | true => rfl
  | false =>
    cases h1 : (s.size : Int) != 32 with
    | true => rfl
    | false =>
      rw [implLeaf hN s i (sz32 h1)]
      cases inB i 0 3 <;> rfl
end Mir.Y
