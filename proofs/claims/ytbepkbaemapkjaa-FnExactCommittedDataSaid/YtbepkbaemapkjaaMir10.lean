/- The mirror machine: appends. -/
import Derived.Test.YtbepkbaemapkjaaMir9
import Derived.Lib.AppendStr
namespace Mir
set_option linter.unusedVariables false
set_option linter.unusedSimpArgs false
open Go
variable {E : Env} {P : Program} {T : Tb} {cx : Cx} {G G' : Gh} {S : St E} {tm : Array Value} {a : Act} {W W' : World}

/-- What is appended: so many elements, these cells, whatever has been drawn. -/
structure Src (P : Program) (W : World) (size : Nat) (x : Value) (m : Nat) (news : List Value) : Prop where
  len : ∀ W', (Builtin.lenOf x).run P W' = .ok m W'
  first : ∀ W' : World, W'.heap = W.heap → (Builtin.firstCells size m x).run P W' = .ok news.toArray W'
  cut : ∀ n, n ≤ m → ∀ W' : World, W'.heap = W.heap → (Builtin.firstCells size n x).run P W' = .ok (news.take (n * size)).toArray W'
  size : news.length = m * size
theorem cell_heap {W W' : World} (h : W'.heap = W.heap) (a : Addr) : W'.cell? a = W.cell? a := by simp [World.cell?, h]
theorem Src.slice {size : Nat} {A : Option Addr} {m c : Nat} {news : List Value} (hs : news.length = m * size) (h : 0 < news.length → ∃ a, A = some a ∧ ∀ (j : Nat) (hj : j < news.length), W.cell? (a.add j) = some news[j]) (hn : news.length = 0 → m = 0) : Src P W size (.slice A m c) m news := by
  have cut : ∀ n, n ≤ m → ∀ W' : World, W'.heap = W.heap → (Builtin.firstCells size n (.slice A m c)).run P W' = .ok (news.take (n * size)).toArray W' := by
    intro n hnm W' hW
    rcases Nat.eq_zero_or_pos news.length with h0 | h0
    · have : news = [] := List.eq_nil_of_length_eq_zero h0
      subst this
      have hm := hn rfl
      subst hm
      obtain rfl : n = 0 := by omega
      cases A with
      | none => simp [Builtin.firstCells]
      | some a => simp [Builtin.firstCells, loadCells, loadCellsFrom]
    · obtain ⟨a, rfl, hc⟩ := h h0
      have hle : n * size ≤ news.length := by rw [hs]; exact Nat.mul_le_mul_right _ hnm
      exact run_firstCells_some (P := P) W' size n a m c (news.take (n * size)) (by simp; omega) (fun j v hv => by
        rw [List.getElem?_take] at hv
        split at hv
        · obtain ⟨hj, rfl⟩ := List.getElem?_eq_some_iff.1 hv
          rw [cell_heap hW]; exact hc j hj
        · cases hv)
  refine ⟨fun W' => by simp [Builtin.lenOf], fun W' hW => ?_, cut, hs⟩
  have := cut m (Nat.le_refl _) W' hW
  rwa [← hs, List.take_length] at this
theorem Src.string (s : ByteArray) : Src P W 1 (.string s) s.size ((bytesOf s).map (Value.int .u8)) := by
  have he : (bytesOf s).map (Value.int .u8) = Lib.strCells s := by simp [bytesOf, Lib.strCells]
  rw [he]
  refine ⟨fun W' => by simp [Builtin.lenOf], fun W' _ => Lib.run_firstCells_string W' 1 s, fun n hn W' _ => ?_, by simp [Lib.strCells_length]⟩
  simp only [Builtin.firstCells, Lib.strCells, Nat.mul_one, Sem.run_pure]
  congr 1
  apply Array.ext'
  simp [List.map_take]
section
variable (t u ty e : TypeId) (i : TypeInfo) (z : Value) (ht : P.underlying t = some (.slice e)) (hu : (∃ q, P.underlying u = some (.slice q)) ∨ P.underlying u = some .string) (hi : P.info? e = some i) (hz : i.zero = some z)
  {x : Value} {m : Nat} {news : List Value} (hsrc : Src P W i.size x m news)
include ht hu hi hz hsrc
theorem append_grows {base : Option Addr} {sLen sCap : Nat} {olds : List Value} (hold : Src P W i.size (.slice base sLen sCap) sLen olds) (hg : sCap < sLen + m) (hb : (sLen + m) * i.bytes ≤ 140737488355328) (h0 : 0 < i.bytes) :
    ∃ cap, sLen + m ≤ cap ∧ cap ≤ maxLen ∧ (Builtin.append_ #[t, u] ty #[.slice base sLen sCap, x]).run P W = .ok (.slice (some ⟨W.heap.size, 0, none⟩) (sLen + m) cap) (W.drew.alloc (.cells (olds ++ news ++ (Builtin.zeroCells z.cells (cap - (sLen + m))).toList).toArray e)) := by
  have hle : sLen + m ≤ (sLen + m) * i.bytes := Nat.le_mul_of_pos_right _ h0
  have hn : ¬ (sLen + m ≤ sCap) := by omega
  have h63' : ¬ (9223372036854775807 < ((sLen : Int) + (m : Int))) := by omega
  have h48' : ¬ (281474976710656 < Builtin.nextslicecap (sLen + m) sCap * i.bytes) := by have := growslice_fits (bytes := i.bytes) hg hb; omega
  refine ⟨grownCap W (sLen + m) sCap e, grownCap_ge _ _ _ _, grownCap_le_maxLen _ _ _ _ (by simp only [maxLen]; omega), ?_⟩
  have hf := hsrc.first W.drew rfl
  have hfo := hold.first W.drew rfl
  have hl := hsrc.len W
  rcases hu with ⟨q, hu⟩ | hu <;>
  · simp [Builtin.append_, run_underlying ht, run_underlying hu, Go.sizeOf, typeInfo, zeroValue, hi, hz, hl, hn, h63', h48', Question.forced, hf, hfo, newRow, grownCap]
    congr 2
    apply Array.ext'
    simp [List.append_assoc]
omit hz in
theorem append_room {base : Option Addr} {sLen sCap : Nat} {W1 : World} (hr : sLen + m ≤ sCap) (hst : ∀ a, base = some a → (storeCells (a.add (sLen * i.size)) news).run P W = .ok () W1) (hno : base = none → W1 = W) :
    (Builtin.append_ #[t, u] ty #[.slice base sLen sCap, x]).run P W = .ok (.slice base (sLen + m) sCap) W1 := by
  have hf := hsrc.first W rfl
  have hl := hsrc.len W
  cases base with
  | none =>
    rw [hno rfl]
    rcases hu with ⟨q, hu⟩ | hu <;> simp [Builtin.append_, run_underlying ht, run_underlying hu, Go.sizeOf, typeInfo, hi, hl, hr, hf]
  | some ad =>
    have hst := hst ad rfl
    rcases hu with ⟨q, hu⟩ | hu <;> simp [Builtin.append_, run_underlying ht, run_underlying hu, Go.sizeOf, typeInfo, hi, hl, hr, hf, hst]
end
/-- Cells of a row of data. -/
def RowC (E : Env) (W : World) (F : Nat → Prop) (d : Nat) (t : Ty) (xs : List (Ty.D E.S t)) (cs : List Value) : Prop :=
  cs.length = xs.length * tsz E t ∧ ∀ (i : Nat) (hi : i < xs.length), RoE E (RoA E W F d) t xs[i] (seg cs i (tsz E t))
theorem RowC.more {F F' : Nat → Prop} (hF : ∀ b, F b → F' b) (hW : ∀ b, F b → W'.heap[b]? = W.heap[b]?) {d d' : Nat} (hd : d ≤ d') {t : Ty} {xs : List (Ty.D E.S t)} {cs : List Value} (h : RowC E W F d t xs cs) : RowC E W' F' d' t xs cs :=
  ⟨h.1, fun i hi => (h.2 i hi).mono fun t x v => RoA.more hF hW d d' hd t x v⟩
theorem seg_append_left {α : Type} (l r : List α) (i sz : Nat) (h : i * sz + sz ≤ l.length) : seg (l ++ r) i sz = seg l i sz := by
  apply List.ext_getElem?
  intro j
  rw [seg_get, seg_get]
  by_cases hj : j < sz
  · rw [if_pos hj, if_pos hj, List.getElem?_append_left (by omega)]
  · rw [if_neg hj, if_neg hj]
theorem RowC.append {F : Nat → Prop} {d : Nat} {t : Ty} {xs ys : List (Ty.D E.S t)} {cs ds : List Value} (h : RowC E W F d t xs cs) (k : RowC E W F d t ys ds) : RowC E W F d t (xs ++ ys) (cs ++ ds) := by
  refine ⟨by rw [List.length_append, List.length_append, h.1, k.1, Nat.add_mul], fun i hi => ?_⟩
  by_cases hx : i < xs.length
  · rw [List.getElem_append_left hx, seg_append_left]
    · exact h.2 i hx
    · rw [h.1]
      have : (i + 1) * tsz E t ≤ xs.length * tsz E t := Nat.mul_le_mul_right _ hx
      rw [Nat.add_mul] at this
      omega
  · rw [List.getElem_append_right (by omega)]
    have hi' : i - xs.length < ys.length := by simp at hi; omega
    have := k.2 (i - xs.length) hi'
    have he : seg (cs ++ ds) i (tsz E t) = seg ds (i - xs.length) (tsz E t) := by
      apply List.ext_getElem?
      intro j
      rw [seg_get, seg_get]
      by_cases hj : j < tsz E t
      · rw [if_pos hj, if_pos hj, List.getElem?_append_right (by rw [h.1]; have := Nat.mul_le_mul_right (tsz E t) (show xs.length ≤ i by omega); omega)]
        congr 1
        rw [h.1, Nat.sub_mul]
        have := Nat.mul_le_mul_right (tsz E t) (show xs.length ≤ i by omega)
        omega
      · rw [if_neg hj, if_neg hj]
    rw [he]
    exact this
theorem RowC.take {F : Nat → Prop} {d : Nat} {t : Ty} {xs : List (Ty.D E.S t)} {cs : List Value} (h : RowC E W F d t xs cs) (n : Nat) (hn : n ≤ xs.length) : RowC E W F d t (xs.take n) (cs.take (n * tsz E t)) := by
  have hm : n * tsz E t ≤ xs.length * tsz E t := Nat.mul_le_mul_right _ hn
  refine ⟨by rw [List.length_take, List.length_take, h.1]; rw [Nat.min_eq_left hn]; omega, fun i hi => ?_⟩
  have hi' : i < n := by simp at hi; omega
  rw [List.getElem_take]
  have he : seg (cs.take (n * tsz E t)) i (tsz E t) = seg cs i (tsz E t) := by
    apply List.ext_getElem?
    intro j
    rw [seg_get, seg_get]
    by_cases hj : j < tsz E t
    · rw [if_pos hj, if_pos hj, List.getElem?_take, if_pos]
      have : (i + 1) * tsz E t ≤ n * tsz E t := Nat.mul_le_mul_right _ hi'
      rw [Nat.add_mul] at this
      omega
    · rw [if_neg hj, if_neg hj]
  rw [he]
  exact h.2 i (by omega)
/-- The cells of data that a slice leads to. -/
theorem RoA.src {F : Nat → Prop} {d e c m : Nat} {t : Ty} {xs : List (Ty.D E.S t)} {A : Option Addr} (h : RoA E W F (d + 1) (.slice e t) xs (.slice A m c)) (h0 : 0 < tsz E t) :
    m = xs.length ∧ ∃ cs, RowC E W F d t xs cs ∧ Src P W (tsz E t) (.slice A m c) m cs := by
  obtain ⟨A', c', hv, hc, h⟩ := h
  cases hv
  refine ⟨rfl, ?_⟩
  rcases Nat.eq_zero_or_pos xs.length with hx | hx
  · have : xs = [] := List.eq_nil_of_length_eq_zero hx
    subst this
    exact ⟨[], ⟨by simp, fun i hi => absurd hi (by simp)⟩, Src.slice (by simp) (fun h => absurd h (by simp)) (fun _ => rfl)⟩
  · obtain ⟨a, rfl, hF, hel⟩ := h hx
    -- the cells, one by one
    have key : ∀ n, n ≤ xs.length → ∃ cs : List Value, cs.length = n * tsz E t ∧ (∀ (i : Nat) (hi : i < n) (hx : i < xs.length), RoE E (RoA E W F d) t xs[i] (seg cs i (tsz E t))) ∧ ∀ (j : Nat) (hj : j < cs.length), W.cell? (a.add j) = some cs[j] := by
      intro n
      induction n with
      | zero => exact fun _ => ⟨[], by simp, fun i hi => absurd hi (by omega), fun j hj => absurd hj (by simp)⟩
      | succ n ih =>
        intro hn
        obtain ⟨cs, h1, h2, h3⟩ := ih (by omega)
        obtain ⟨vs, hr, hcell⟩ := hel n (by omega)
        have hvl := hr.length
        refine ⟨cs ++ vs, by rw [List.length_append, h1, hvl, Nat.add_mul, Nat.one_mul], fun i hi hx => ?_, fun j hj => ?_⟩
        · by_cases hin : i < n
          · rw [seg_append_left]
            · exact h2 i hin hx
            · rw [h1]
              have : (i + 1) * tsz E t ≤ n * tsz E t := Nat.mul_le_mul_right _ hin
              rw [Nat.add_mul] at this
              omega
          · obtain rfl : i = n := by omega
            have he : seg (cs ++ vs) i (tsz E t) = vs := by
              unfold seg
              rw [← h1, List.drop_left, ← hvl, List.take_length]
            rw [he]; exact hr
        · by_cases hjc : j < cs.length
          · rw [List.getElem_append_left hjc]; exact h3 j hjc
          · rw [List.getElem_append_right (by omega)]
            have hj' : j - cs.length < vs.length := by simp at hj; omega
            have := hcell (j - cs.length) hj'
            rw [← this]
            congr 2
            rw [h1] at hjc ⊢
            omega
    obtain ⟨cs, h1, h2, h3⟩ := key xs.length (Nat.le_refl _)
    refine ⟨cs, ⟨h1, fun i hi => h2 i hi hi⟩, Src.slice h1 (fun _ => ⟨a, rfl, h3⟩) (fun h => ?_)⟩
    rw [h1] at h
    rcases Nat.mul_eq_zero.1 h with h | h
    · exact h
    · omega
end Mir
