/- Pure laws: marks of branches that are held; FnExactMapPut. -/
import Derived.Test.YtojpcjbdehoibaaHUA
namespace Mir.Y
set_option linter.unusedVariables false
set_option linter.unusedSimpArgs false
open Go
/-- Branches that bear the marks from c to k; their kids by another relation. -/
def MkG (Q : List Branch → Int → Int → Prop) (N : Nat) : List Branch → Int → Int → Prop
  | [], c, k => k = c
  | x :: r, c, k => ∃ k1, x.Key = txt N c ∧ x.Value = txt N (c + 1) ∧ x.At = c + 2 ∧ Q x.Kids (c + 3) k1 ∧ MkG Q N r k1 k
/-- Branches that bear the marks from c to k. -/
def MkL (N : Nat) : Nat → List Branch → Int → Int → Prop
  | 0 => fun l c k => l = [] ∧ k = c
  | d + 1 => MkG (MkL N d) N
theorem MkL_nil {N d : Nat} {c k : Int} (h : k = c) : MkL N d [] c k := by
  cases d with
  | zero => exact ⟨rfl, h⟩
  | succ d => exact h
theorem MkL_nil' {N d : Nat} {c k : Int} (h : MkL N d [] c k) : k = c := by
  cases d with
  | zero => exact h.2
  | succ d => exact h
theorem markBr2 {N : Nat} (hN : Big N) : ∀ (n f : Nat) (l : List Branch) (c : Int), n < f → (∀ x ∈ l, bok n x) → l.length ≤ 1048576 → 0 ≤ c → c + 3 * tl n l ≤ 8388000 → ∃ (z : List Branch), laws_markBranchS.mF N f l c = some (c + 3 * tl n l, z) ∧ z.length = l.length ∧ MkL N n z c (c + 3 * tl n l)
  | _, 0, _, _, h, _, _, _, _ => by omega
  | n, f + 1, l, c, hf, hb0, hl, h0, hc => by
    show ∃ (z : List Branch), laws_markBranchS.lp2 N (laws_markBranchS.mF N f) l c (c, 0, l) = some (c + 3 * tl n l, z) ∧ _
    unfold laws_markBranchS.lp2
    have go : ∀ (k i K : Nat) (v : Int) (v2 : List Branch), i + k = l.length → k < K → v2.length = l.length → (∀ j, i ≤ j → v2.getD j Branch.dz = l.getD j Branch.dz) → 0 ≤ v → v + 3 * ((l.drop i).length + ((l.drop i).map fun x => tl (n - 1) x.Kids).sum : Nat) ≤ 8388000 → ∃ (z : List Branch), miter (fun rec => laws_markBranchS.step2 N (laws_markBranchS.mF N f) l c rec) K (v, (i : Int), v2) = some (v + 3 * ((l.drop i).length + ((l.drop i).map fun x => tl (n - 1) x.Kids).sum : Nat), z) ∧ z.length = l.length ∧ z.take i = v2.take i ∧ MkL N n (z.drop i) v (v + 3 * ((l.drop i).length + ((l.drop i).map fun x => tl (n - 1) x.Kids).sum : Nat)) := by
      intro k
      induction k with
      | zero =>
        intro i K v v2 hi hK h2 _ _ _
        obtain ⟨K, rfl⟩ : ∃ j, K = j + 1 := ⟨K - 1, by omega⟩
        refine ⟨v2, ?_, h2, rfl, ?_⟩
        · rw [miter_s, List.drop_eq_nil_of_le (by omega)]
          simp only [laws_markBranchS.step2]
          rw [decide_eq_false (show ¬ ((i : Int) < (v2.length : Int)) by omega)]
          simp
        · rw [List.drop_eq_nil_of_le (show v2.length ≤ i by omega), List.drop_eq_nil_of_le (show l.length ≤ i by omega)]
          exact MkL_nil (by simp)
      | succ k ih =>
        intro i K v v2 hi hK h2 hj hv hb1
        obtain ⟨K, rfl⟩ : ∃ j, K = j + 1 := ⟨K - 1, by omega⟩
        have hil : i < l.length := by omega
        have hx := hb0 _ (List.getElem_mem hil)
        obtain ⟨n, rfl⟩ : ∃ m, n = m + 1 := by
          cases n with
          | zero => exact hx.elim
          | succ m => exact ⟨m, rfl⟩
        rw [List.drop_eq_getElem_cons hil, List.map_cons, List.sum_cons, List.length_cons] at hb1 ⊢
        rw [Nat.add_sub_cancel] at *
        rw [miter_s, markStep hN _ _ _ _ v hv (by omega) v2 i (by omega) (by omega), hj i (Nat.le_refl _), getD_at hil]
        obtain ⟨z6, m1, _, m3⟩ := markBr2 hN n f (l[i]).Kids (v + 3) (by omega) (fun y hy => hx.2.2.2 y hy) hx.2.2.1 (by omega) (by omega)
        rw [m1, ob_some]
        obtain ⟨z, p1, p2, p3, p4⟩ := ih (i + 1) K (v + 3 + 3 * tl n (l[i]).Kids) (v2.set i (Branch.mk (txt N v) (txt N (v + 1)) (v + 2) z6)) (by omega) (by omega) (by rw [List.length_set]; exact h2) (fun j hji => by
          rw [← hj j (by omega), List.getD_eq_getElem?_getD, List.getElem?_set_ne (by omega), ← List.getD_eq_getElem?_getD]) (by omega) (by omega)
        have ek : v + 3 + 3 * (tl n (l[i]).Kids : Int) + 3 * (((l.drop (i + 1)).length + ((l.drop (i + 1)).map fun x => tl n x.Kids).sum : Nat) : Int) = v + 3 * (((l.drop (i + 1)).length + 1 + (tl n (l[i]).Kids + ((l.drop (i + 1)).map fun x => tl n x.Kids).sum) : Nat) : Int) := by push_cast; omega
        rw [ek] at p1 p4
        refine ⟨z, p1, p2, ?_, ?_⟩
        · have := congrArg (List.take i) p3
          rw [List.take_take, List.take_take, Nat.min_eq_left (by omega), List.take_set_of_le (by omega)] at this
          exact this
        · have hiz : i < z.length := by omega
          have hzi : z[i] = Branch.mk (txt N v) (txt N (v + 1)) (v + 2) z6 := by
            have := congrArg (fun q : List Branch => q[i]?) p3
            simp only [List.getElem?_take, show i < i + 1 by omega, if_true] at this
            rw [List.getElem?_set_self (by omega), List.getElem?_eq_getElem hiz] at this
            exact Option.some.inj this
          rw [List.drop_eq_getElem_cons hiz, hzi]
          exact ⟨v + 3 + 3 * tl n (l[i]).Kids, rfl, rfl, rfl, m3, p4⟩
    have e : tl n l = l.length + (l.map fun x => tl (n - 1) x.Kids).sum := by
      cases n with
      | zero =>
        have : l = [] := by
          cases l with
          | nil => rfl
          | cons x r => exact (hb0 x List.mem_cons_self).elim
        rw [this]; rfl
      | succ m => rfl
    obtain ⟨z, h1, h2, _, h4⟩ := go l.length 0 N c l (by omega) (by omega) rfl (fun _ _ => rfl) h0 (by rw [List.drop_zero, ← e]; exact hc)
    rw [List.drop_zero, ← e] at h1
    rw [List.drop_zero, List.drop_zero, ← e] at h4
    exact ⟨z, h1, h2, h4⟩
theorem MkG_le {N : Nat} {Q : List Branch → Int → Int → Prop} (hQ : ∀ l c k, Q l c k → c ≤ k) : ∀ {l : List Branch} {c k : Int}, MkG Q N l c k → c + 3 * (l.length : Int) ≤ k
  | [], c, k, h => by have h : k = c := h; simp; omega
  | x :: r, c, k, ⟨k1, _, _, _, h4, h5⟩ => by
    have := hQ _ _ _ h4
    have := MkG_le hQ h5
    simp only [List.length_cons]
    push_cast
    omega
theorem MkL_le {N : Nat} : ∀ {d : Nat} {l : List Branch} {c k : Int}, MkL N d l c k → c + 3 * (l.length : Int) ≤ k
  | 0, l, c, k, h => by obtain ⟨rfl, h⟩ := h; simp; omega
  | d + 1, l, c, k, h => MkG_le (fun l c k h => by have := MkL_le h; omega) h
theorem heldBr {N : Nat} (hN : Big N) : ∀ (d f : Nat) (l : List Branch) (c k : Int), d < f → 0 ≤ c → k ≤ 8388000 → MkL N d l c k → laws_heldBranchS.mF N f l c = some k
  | _, 0, _, _, _, h, _, _, _ => by omega
  | d, f + 1, l, c, k, hf, h0, hk, hm => by
    show laws_heldBranchS.lp2 N (laws_heldBranchS.mF N f) l c (c, 0) = some k
    unfold laws_heldBranchS.lp2
    have hll := MkL_le hm
    have go : ∀ (m i K : Nat) (v : Int), i + m = l.length → m < K → 0 ≤ v → MkL N d (l.drop i) v k → miter (fun rec => laws_heldBranchS.step2 N (laws_heldBranchS.mF N f) l c rec) K (v, (i : Int)) = some k := by
      intro m
      induction m with
      | zero =>
        intro i K v hi hK hv h
        obtain ⟨K, rfl⟩ : ∃ j, K = j + 1 := ⟨K - 1, by omega⟩
        rw [List.drop_eq_nil_of_le (by omega)] at h
        have h := MkL_nil' h
        rw [miter_s]
        simp only [laws_heldBranchS.step2, decide_eq_false (show ¬ ((i : Int) < (l.length : Int)) by omega), cond_false, h]
      | succ m ih =>
        intro i K v hi hK hv h
        obtain ⟨K, rfl⟩ : ∃ j, K = j + 1 := ⟨K - 1, by omega⟩
        have hil : i < l.length := by omega
        rw [List.drop_eq_getElem_cons hil] at h
        obtain ⟨d, rfl⟩ : ∃ e, d = e + 1 := by
          cases d with
          | zero => exact absurd h.1 (List.cons_ne_nil _ _)
          | succ e => exact ⟨e, rfl⟩
        obtain ⟨k1, e1, e2, e3, e4, e5⟩ := h
        have l4 := MkL_le e4
        have l5 := MkL_le (d := d + 1) e5
        have w1 : w64 (v + 1) = v + 1 := w_small (by omega) (by omega)
        have w2 : w64 (v + 1 + 1) = v + 2 := by rw [w_small (by omega) (by omega)]; omega
        have w3 : w64 (v + 2 + 1) = v + 3 := by rw [w_small (by omega) (by omega)]; omega
        have w4 : w64 ((i : Int) + 1) = ((i + 1 : Nat) : Int) := by rw [w_small (by omega) (by omega)]; omega
        have hr := heldBr hN d f (l[i]).Kids (v + 3) k1 (by omega) (by omega) (by omega) e4
        rw [miter_s]
        simp only [laws_heldBranchS.step2, lt_dec hil, nn_dec, cond_true, Int.toNat_natCast, getD_at hil, txt_eq hN _ (show v ≤ 8388616 by omega), ob_some, w1, txt_eq hN _ (show v + 1 ≤ 8388616 by omega), e1, e2, e3, seq_self, Bool.not_true, cond_false, w2, w3, bne_self_eq_false, hr, decide_eq_false (show ¬ k1 < 0 by omega), w4]
        exact ih (i + 1) K k1 (by omega) (by omega) (by omega) e5
    exact go l.length 0 N c (by omega) (by omega) h0 (by rw [List.drop_zero]; exact hm)
theorem C_tl : ∀ {n : Nat} {b : Branch} {P : List Int}, C n b P → tl n b.Kids + 2 ≤ 2 * (Lv n b).length
  | 0, _, _, h => h.elim
  | n + 1, b, P, .inl ⟨h1, _⟩ => by rw [h1, Lv_leaf h1]; simp [tl]
  | n + 1, b, P, .inr ⟨x, y, Q, A, h1, _, _, _, _, _, _, _, hx, hy⟩ => by
    have := C_tl hx
    have := C_tl hy
    rw [h1, Lv_fork h1, List.length_append]
    show [x, y].length + ([x, y].map fun x => tl n x.Kids).sum + 2 ≤ _
    simp only [List.length_cons, List.length_nil, List.map_cons, List.map_nil, List.sum_cons, List.sum_nil]
    omega
theorem Mq.tl {b : Branch} {L : List Branch} (h : Mq b L) : tl 257 b.Kids ≤ 2 * L.length := by
  rcases h with ⟨rfl, rfl⟩ | ⟨h, rfl⟩
  · exact Nat.le_refl _
  · have := C_tl h; omega
theorem Mq.marks {N : Nat} (hN : Big N) {b : Branch} {L : List Branch} (h : Mq b L) (hl : L.length ≤ 1000) : ∃ (k : Int) (z : List Branch), laws_markBranch.m N b 1 = some (k, Branch.mk b.Key b.Value b.At z) ∧ 0 ≤ k ∧ laws_heldBranch.m N (Branch.mk b.Key b.Value b.At z) 1 = some k := by
  have ht := h.tl
  have hb0 := h.bok
  obtain ⟨z, m1, m2, m3⟩ := markBr2 hN 257 N b.Kids 1 (by omega) (bok_kids hb0) hb0.2.2.1 (by omega) (by omega)
  have m1 : laws_markBranchS.m N b.Kids 1 = _ := m1
  have hh : laws_heldBranchS.m N z 1 = some (1 + 3 * (Mir.Y.tl 257 b.Kids : Int)) := heldBr hN 257 N z 1 _ (by omega) (by omega) (by omega) m3
  refine ⟨1 + 3 * (Mir.Y.tl 257 b.Kids : Int), z, ?_, ?_, ?_⟩
  · unfold laws_markBranch.m
    rw [m1]; rfl
  · omega
  · unfold laws_heldBranch.m
    rw [hh, ob_some, decide_eq_false (show ¬ (1 + 3 * (Mir.Y.tl 257 b.Kids : Int)) < 0 by omega)]; rfl
theorem l02KeyE (N : Nat) (s : ByteArray) : ∃ y, spec_l02Key.m N s = some y ∧ impl_isKey.m N s = some y ∧ (y = true → 1 ≤ s.size ∧ s.size ≤ 24) :=
  ⟨keyB ⟨s, s, 0, []⟩, l02Key N ⟨s, s, 0, []⟩, isKeyI N ⟨s, s, 0, []⟩, fun h => (keyB_iff _).1 h⟩
/-- Both answer alike. -/
theorem mapPutE {N : Nat} (hN : Big N) {n : Nat} (hn : n ≤ N) (b : Branch) (hb0 : bok n b) (k v : ByteArray) : ∃ (r : Branch × Int) (L : List Branch), spec_MapPut.m N b k v = some r ∧ impl_MapPut.m N b k v = some r ∧ Mq r.1 L ∧ L.length ≤ 1000 := by
  have em : Mq eB [] := .inl ⟨rfl, rfl⟩
  by_cases hk : (k.size : Int) > 65536
  · refine ⟨(eB, 2), [], ?_, ?_, em, by simp⟩
    · unfold spec_MapPut.m
      rw [decide_eq_true hk]; rfl
    · unfold impl_MapPut.m impl_mapCode.m
      rw [isText1 hN, isText1 hN, ob_some, ob_some, decide_eq_true hk]
      cases decide ((v.size : Int) > 65536) <;> rfl
  by_cases hv : (v.size : Int) > 65536
  · refine ⟨(eB, 2), [], ?_, ?_, em, by simp⟩
    · unfold spec_MapPut.m
      rw [decide_eq_false hk, decide_eq_true hv]; rfl
    · unfold impl_MapPut.m
      rw [isText1 hN, ob_some, decide_eq_true hv]; rfl
  cases hm : mapB n b with
  | false =>
    obtain ⟨l, p1, _⟩ := implPairs0 hN hn b hb0
    refine ⟨(eB, 1), [], ?_, ?_, em, by simp⟩
    · unfold spec_MapPut.m
      rw [decide_eq_false hk, decide_eq_false hv, brEta, specMap hN hn b hb0, hm]; rfl
    · unfold impl_MapPut.m impl_mapCode.m
      rw [isText1 hN, isText1 hN, ob_some, ob_some, decide_eq_false hk, decide_eq_false hv, brEta, brEta, p1, hm]; rfl
  | true =>
    obtain ⟨L, hM, hl⟩ := Mq.conv hm
    obtain ⟨y, k1, k2, k3⟩ := l02KeyE N k
    cases y with
    | false =>
      obtain ⟨l, p1, _⟩ := implPairs0 hN hn b hb0
      refine ⟨(eB, 1), [], ?_, ?_, em, by simp⟩
      · unfold spec_MapPut.m
        rw [decide_eq_false hk, decide_eq_false hv, brEta, specMap hN hn b hb0, hm, k1]; rfl
      · unfold impl_MapPut.m impl_mapCode.m
        rw [isText1 hN, isText1 hN, ob_some, ob_some, decide_eq_false hk, decide_eq_false hv, brEta, brEta, p1, hm, k2]; rfl
    | true =>
      by_cases h60 : (v.size : Int) ≤ 60
      · obtain ⟨r, r1, r2, r3⟩ := mapPutM hN hM hl (k3 rfl) (v := v) (by omega)
        rcases r3 with ⟨rfl, _⟩ | ⟨_, L', l1, l2, _⟩
        · exact ⟨_, [], r1, r2, em, by simp⟩
        · exact ⟨r, L', r1, r2, l2, by omega⟩
      · refine ⟨(eB, 1), [], ?_, ?_, em, by simp⟩
        · unfold spec_MapPut.m
          rw [decide_eq_false hk, decide_eq_false hv, brEta, hM.specOK hN hl, k1, ob_some, ob_some, decide_eq_true (show (v.size : Int) > 60 by omega)]; rfl
        · unfold impl_MapPut.m impl_isValue.m
          rw [isText1 hN, ob_some, decide_eq_false hv, brEta, mapCodeM hN hM hl (k3 rfl), ob_some, decide_eq_false h60]; rfl
theorem pureMapPut (a0 : Branch) (a1 a2 : ByteArray) (h0 : ∃ n, WfE E (WfA E n) (.st 67) a0) (h1 : ∃ n, WfE E (WfA E n) .str a1) (h2 : ∃ n, WfE E (WfA E n) .str a2) : ∃ N, laws_FnExactMapPut.m N a0 a1 a2 = some true := by
  obtain ⟨n, hw⟩ := h0
  have hw := wfB_of hw
  obtain ⟨N, hN, hn⟩ : ∃ N, Big N ∧ n + 1 < N := ⟨16777216 + n, by omega, by omega⟩
  refine ⟨N, ?_⟩
  unfold laws_FnExactMapPut.m
  by_cases hl : (a1.size : Int) > 1048576
  · rw [decide_eq_true hl]; rfl
  by_cases hl2 : (a2.size : Int) > 1048576
  · rw [decide_eq_true hl2, decide_eq_false hl]; rfl
  rw [decide_eq_false hl, decide_eq_false hl2, cond_false, cond_false]
  obtain ⟨y, e, l, hy⟩ := szBr hN n N a0 1048576 (by omega) hw (by omega) (by omega)
  obtain ⟨y', e', l', hy'⟩ := szBr2 hN n N a0 1048576 (by omega) hw (by omega) (by omega)
  rw [e] at e'
  obtain rfl : y = y' := by simpa using e'
  rw [brEta, show laws_szBranch.m N a0 1048576 = some y from e, ob_some]
  by_cases h : y < 0
  · rw [decide_eq_true h]; rfl
  rw [decide_eq_false h, cond_false]
  have hs := hy (by omega)
  have ht := hy' (by omega)
  have eT : laws_toBranch.m N a0 = some a0 := toBr hN n N a0 (by omega) hs
  have eE : laws_eqBranch.m N a0 a0 = some true := eqBr hN n N a0 (by omega) hs
  obtain ⟨r, L, p1, p2, p3, p4⟩ := mapPutE hN (by omega) a0 hs a1 a2
  obtain ⟨k, z, m1, m2⟩ := markBr hN n N a0.Kids 1 (by omega) (bok_kids hs) (by
    cases n with
    | zero => exact hs.elim
    | succ n => exact hs.2.2.1) (by omega) (by omega)
  have m1 : laws_markBranchS.m N a0.Kids 1 = some (k, z) := m1
  have eM : laws_markBranch.m N a0 1 = some (k, Branch.mk a0.Key a0.Value a0.At z) := by
    unfold laws_markBranch.m
    rw [m1]; rfl
  have eR : laws_eqBranch.m N r.1 r.1 = some true := eqBr hN 257 N r.1 (by omega) p3.bok
  obtain ⟨q, zr, q1, q2, q3⟩ := p3.marks hN p4
  simp only [eT, ob_some, brEta, p1, p2, eR, eE, eM, q1, q3, bne_self_eq_false, Bool.not_true, cond_false, decide_eq_false (show ¬ k < 0 by omega), decide_eq_false (show ¬ q < 0 by omega)]
end Mir.Y
