/- Pure laws: what is drawn out of a code. -/
import Derived.Test.YtojpcjbdehoibaaIL
namespace Mir.Y
set_option linter.unusedVariables false
set_option linter.unusedSimpArgs false
open Go
theorem wu8_rng (x : Int) : 0 ≤ wu8 x ∧ wu8 x < 256 := by
  simp only [wu8, IntKind.wrap, IntKind.bits, IntKind.signed]
  simp
  omega
/-- A source behind t bytes. -/
structure SrcOK (s : l00Src) (t : Nat) : Prop where
  at_ : s.«at» = (t : Int)
  len : s.code.length ≤ 2000000
  lo : 0 ≤ s.seed
  hi : s.seed < 2147483648
  bytes : ∀ x ∈ s.code, 0 ≤ x ∧ x < 256
theorem srcNew {a : List Int} (hl : a.length ≤ 2000000) (hb : ∀ x ∈ a, 0 ≤ x ∧ x < 256) : SrcOK (l00Src.mk a 0 (Int.tmod (a.length : Int) 1000)) 0 := by
  have h := Int.tmod_lt_of_pos (a.length : Int) (show (0:Int) < 1000 by omega)
  have h0 := Int.tmod_nonneg (1000:Int) (show (0:Int) ≤ (a.length : Int) by omega)
  have h2 : Int.tmod (a.length : Int) 1000 < 2147483648 := by omega
  exact ⟨rfl, hl, h0, h2, hb⟩
theorem srcS (N : Nat) (a : List Int) : spec_l00Source.m N a = some (l00Src.mk a 0 (Int.tmod (a.length : Int) 1000)) := by kernel_rfl
theorem getD_rng {a : List Int} (hb : ∀ x ∈ a, 0 ≤ x ∧ x < 256) (i : Nat) : 0 ≤ a.getD i 0 ∧ a.getD i 0 < 256 := by
  rw [List.getD_eq_getElem?_getD]
  cases h : a[i]? with
  | none => exact ⟨Int.le_refl _, by decide⟩
  | some x => exact hb x (List.mem_of_getElem? h)
theorem srcByte (N : Nat) {s : l00Src} {t : Nat} (h : SrcOK s t) (ht : t ≤ 4000000) : ∃ b q, spec_l00Src_byte_.m N s = some (b, q) ∧ 0 ≤ b ∧ b < 256 ∧ SrcOK q (t + 1) := by
  obtain ⟨h1, h2, h3, h4, h5⟩ := h
  obtain ⟨code, at_, seed⟩ := s
  have h1 : at_ = (t : Int) := h1
  have h2 : code.length ≤ 2000000 := h2
  have h3 : 0 ≤ seed := h3
  have h4 : seed < 2147483648 := h4
  have h5 : ∀ x ∈ code, 0 ≤ x ∧ x < 256 := h5
  subst h1
  have e1 : w64 ((t : Int) + 1) = ((t + 1 : Nat) : Int) := by rw [w_small (by omega) (by omega)]; omega
  have e2 : w64 (((t + 1 : Nat) : Int) - 1) = (t : Int) := by rw [w_small (by omega) (by omega)]; omega
  have ht0 : (t : Int).toNat = t := Int.toNat_natCast t
  have gg : 0 ≤ code.getD t 0 ∧ code.getD t 0 < 256 := getD_rng h5 t
  obtain ⟨g0, g1⟩ := gg
  have e3 : w64 (code.getD t 0) = code.getD t 0 := w_small (by omega) (by omega)
  have m31 : ∀ x : Int, 0 ≤ x → 0 ≤ Int.tmod x 2147483648 ∧ Int.tmod x 2147483648 < 2147483648 := fun x hx => ⟨Int.tmod_nonneg _ hx, Int.tmod_lt_of_pos x (by omega)⟩
  unfold spec_l00Src_byte_.m
  simp only [e1, e2, ht0, e3]
  by_cases hc : ((t + 1 : Nat) : Int) ≤ (code.length : Int)
  · rw [decide_eq_true hc, cond_true, nn_dec, cond_true, decide_eq_true (show (t : Int) < (code.length : Int) by omega)]
    refine ⟨_, _, rfl, g0, g1, ⟨rfl, h2, ?_, ?_, h5⟩⟩
    all_goals
      have q1 : w64 (seed * 31) = seed * 31 := w64_eq (by omega) (by omega)
      have q2 : w64 (seed * 31 + code.getD t 0) = seed * 31 + code.getD t 0 := w64_eq (by omega) (by omega)
      have q3 : w64 (seed * 31 + code.getD t 0 + 7) = seed * 31 + code.getD t 0 + 7 := w64_eq (by omega) (by omega)
      have q4 := m31 (seed * 31 + code.getD t 0 + 7) (by omega)
      simp only [q1, q2, q3]
    · exact q4.1
    · exact q4.2
  · rw [decide_eq_false hc, cond_false]
    by_cases hd : ((t + 1 : Nat) : Int) > 3000
    · rw [decide_eq_true hd, cond_true]
      exact ⟨_, _, rfl, Int.le_refl _, by decide, ⟨rfl, h2, h3, h4, h5⟩⟩
    · rw [decide_eq_false hd, cond_false]
      have q1 : w64 (seed * 1103515245) = seed * 1103515245 := w64_eq (by omega) (by omega)
      have q2 : w64 (seed * 1103515245 + 12345) = seed * 1103515245 + 12345 := w64_eq (by omega) (by omega)
      have q4 := m31 (seed * 1103515245 + 12345) (by omega)
      simp only [q1, q2]
      generalize Int.tmod (seed * 1103515245 + 12345) 2147483648 = z at q4
      have d0 : 0 ≤ Int.tdiv z 65536 := Int.tdiv_nonneg q4.1 (by omega)
      have d1 : Int.tdiv z 65536 ≤ z := Int.tdiv_le_self _ q4.1
      have q5 : w64 (Int.tdiv z 65536) = Int.tdiv z 65536 := w64_eq (by omega) (by omega)
      rw [q5]
      exact ⟨_, _, rfl, Int.tmod_nonneg _ d0, Int.tmod_lt_of_pos _ (by omega), ⟨rfl, h2, q4.1, q4.2, h5⟩⟩
theorem nextS (N : Nat) {s : l00Src} {t : Nat} (h : SrcOK s t) (ht : t ≤ 4000000) {n : Int} (h1 : 1 < n) (hn : n ≤ 256) : ∃ b q, spec_l00Src_next_.m N s n = some (b, q) ∧ 0 ≤ b ∧ b < n ∧ SrcOK q (t + 1) := by
  obtain ⟨b, q, e, b0, b1, hq⟩ := srcByte N h ht
  unfold spec_l00Src_next_.m
  rw [decide_eq_false (show ¬ n ≤ 1 by omega), cond_false, decide_eq_true hn, cond_true, e, ob_some, decide_eq_false (show ¬ n = 0 by omega)]
  exact ⟨_, _, rfl, Int.tmod_nonneg _ b0, Int.tmod_lt_of_pos _ (by omega), hq⟩
def msgs : List ByteArray := [ByteArray.empty, (⟨#[104, 101, 108, 108, 111]⟩ : ByteArray), (⟨#[97, 32, 114, 111, 111, 116]⟩ : ByteArray), (⟨#[98]⟩ : ByteArray), (⟨#[109, 101, 115, 115, 97, 103, 101]⟩ : ByteArray)]
theorem msgs_size (n : Nat) : (msgs.getD n ByteArray.empty).size ≤ 16 := by
  match n with
  | 0 => exact Nat.zero_le _
  | 1 => exact (by omega : 5 ≤ 16)
  | 2 => exact (by omega : 6 ≤ 16)
  | 3 => exact (by omega : 1 ≤ 16)
  | 4 => exact (by omega : 7 ≤ 16)
  | n + 5 => exact Nat.zero_le _
theorem pickS (N : Nat) {s : l00Src} {t : Nat} (h : SrcOK s t) (ht : t ≤ 4000000) : ∃ n q, spec_l00Src_pick_.m N s msgs = some (msgs.getD n ByteArray.empty, q) ∧ SrcOK q (t + 1) := by
  obtain ⟨b, q, e, b0, b1, hq⟩ := nextS N h ht (show (1:Int) < 5 by omega) (by omega)
  refine ⟨b.toNat, q, ?_, hq⟩
  have hl : (msgs.length : Int) = 5 := rfl
  unfold spec_l00Src_pick_.m
  rw [hl, show ((5:Int) == 0) = false from rfl, cond_false, e, ob_some, decide_eq_true b0, cond_true, decide_eq_true b1, cond_true]
theorem lawsAt (N : Nat) (a : List Int) (i n : Int) (hl : a.length ≤ 1048576) (hb' : ∀ x ∈ a, 0 ≤ x ∧ x < 256) (i0 : 0 ≤ i) (i1 : i ≤ 8) (h1 : 0 < n) (hn : n ≤ 65536) : ∃ k : Int, laws_at.m N a i n = some k ∧ (0 : Int) ≤ k ∧ k < n := by
  unfold laws_at.m
  by_cases hc : n ≤ 1
  · rw [decide_eq_true hc]; exact ⟨0, rfl, Int.le_refl _, by omega⟩
  rw [decide_eq_false hc, cond_false, decide_eq_false (show ¬ n = 0 by omega)]
  by_cases hz : (a.length : Int) = 0
  · rw [beq_iff_eq.2 hz]
    have q1 : w64 (i * 7) = i * 7 := w_small (by omega) (by omega)
    rw [q1]
    exact ⟨_, rfl, Int.tmod_nonneg _ (by omega), Int.tmod_lt_of_pos _ (by omega)⟩
  · have hz' : ((a.length : Int) == 0) = false := by rw [beq_eq_false_iff_ne]; exact hz
    rw [hz', cond_false, decide_eq_false hz]
    have q1 : w64 (i + 1) = i + 1 := w_small (by omega) (by omega)
    rw [q1]
    have p0 := Int.tmod_nonneg (a.length : Int) i0
    have p1 := Int.tmod_lt_of_pos i (show (0:Int) < (a.length : Int) by omega)
    have r0 := Int.tmod_nonneg (a.length : Int) (show 0 ≤ i + 1 by omega)
    have r1 := Int.tmod_lt_of_pos (i + 1) (show (0:Int) < (a.length : Int) by omega)
    rw [decide_eq_true p0, decide_eq_true p1, decide_eq_true r0, decide_eq_true r1]
    obtain ⟨g0, g1⟩ := getD_rng hb' (Int.toNat (Int.tmod i (a.length : Int)))
    obtain ⟨k0, k1⟩ := getD_rng hb' (Int.toNat (Int.tmod (i + 1) (a.length : Int)))
    generalize a.getD (Int.toNat (Int.tmod i (a.length : Int))) 0 = x at g0 g1
    generalize a.getD (Int.toNat (Int.tmod (i + 1) (a.length : Int))) 0 = y at k0 k1
    have d0 : 0 ≤ Int.tdiv i (a.length : Int) := Int.tdiv_nonneg i0 (by omega)
    have d1 : Int.tdiv i (a.length : Int) ≤ i := Int.tdiv_le_self _ i0
    generalize Int.tdiv i (a.length : Int) = z at d0 d1
    have s1 : w64 x = x := w_small (by omega) (by omega)
    have s2 : w64 (x * 31) = x * 31 := w_small (by omega) (by omega)
    have s3 : w64 y = y := w_small (by omega) (by omega)
    have s4 : w64 (x * 31 + y) = x * 31 + y := w_small (by omega) (by omega)
    have s5 : w64 z = z := w_small (by omega) (by omega)
    have s6 : w64 (x * 31 + y + z) = x * 31 + y + z := w_small (by omega) (by omega)
    simp only [s1, s2, s3, s4, s5, s6]
    exact ⟨_, rfl, Int.tmod_nonneg _ (by omega), Int.tmod_lt_of_pos _ (by omega)⟩
theorem wfBytes {a : List Int} (h : ∃ n, WfE E (WfA E n) (.slice 5 (.int .u8)) a) : ∀ x ∈ a, 0 ≤ x ∧ x < 256 := by
  obtain ⟨n, h⟩ := h
  cases n with
  | zero => exact False.elim h
  | succ n =>
    intro x hx
    have := h.2 x hx
    have hw : (Lit.int .u8 x).wf = true := by cases n <;> exact this
    simp only [Lit.wf, Bool.and_eq_true, decide_eq_true_eq] at hw
    have h1 : IntKind.min .u8 = 0 := rfl
    have h2 : IntKind.max .u8 = 255 := rfl
    rw [h1, h2] at hw
    omega
end Mir.Y
