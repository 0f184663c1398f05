/- Pure laws: what the steps of a proof lead to; FnMapProofs. -/
import Derived.Test.YtojpcjbdehoibaaGreatKUB
namespace Mir.Y
set_option linter.unusedVariables false
set_option linter.unusedSimpArgs false
open Go
/-! ### Roots by the branch -/
def rt : Nat → Branch → ByteArray
  | 0, _ => ByteArray.empty
  | n + 1, b => match b.Kids with
    | x :: y :: _ => fkH b.At (rt n x) (rt n y)
    | _ => lfH b.Key b.Value
theorem rt_leaf {n : Nat} {b : Branch} (h : b.Kids = []) : rt (n + 1) b = lfH b.Key b.Value := by
  show (match b.Kids with | x :: y :: _ => fkH b.At (rt n x) (rt n y) | _ => lfH b.Key b.Value) = _
  rw [h]
theorem rt_fork {n : Nat} {b x y : Branch} (h : b.Kids = [x, y]) : rt (n + 1) b = fkH b.At (rt n x) (rt n y) := by
  show (match b.Kids with | x :: y :: _ => fkH b.At (rt n x) (rt n y) | _ => lfH b.Key b.Value) = _
  rw [h]
theorem rt_size : ∀ {n : Nat} {b : Branch} {P : List Int}, C n b P → (rt n b).size = 32
  | 0, _, _, h => h.elim
  | n + 1, b, P, .inl ⟨h1, _⟩ => by rw [rt_leaf h1]; exact hb_size _
  | n + 1, b, P, .inr ⟨x, y, Q, A, h1, _⟩ => by rw [rt_fork h1]; exact hb_size _
theorem rootsR {N : Nat} (hN : Big N) : ∀ (n f : Nat) (b : Branch) (P : List Int), n ≤ f → C n b P → spec_l07Root.mF N f b = some (rt n b) ∧ impl_mapRoot.mF N f b = some (rt n b)
  | 0, _, _, _, _, h => h.elim
  | n + 1, 0, _, _, h, _ => by omega
  | n + 1, f + 1, b, P, hf, .inl ⟨h1, h2, h3, h4, _⟩ => by
    have em : emB b = false := by
      unfold emB; rw [h4]
      cases seq b.Key ByteArray.empty <;> cases seq b.Value ByteArray.empty <;> rfl
    have hk := h2.2
    rw [rt_leaf h1]
    refine ⟨?_, ?_⟩
    · show spec_l07Root.mb N (spec_l07Root.mF N f) b = _
      unfold spec_l07Root.mb spec_l07Leaf.m
      rw [brEta, l07Empty, ob_some, em, cond_false, ob_some, brEta, h1, specLf hN _ _ (by omega) (by omega)]
      rfl
    · show impl_mapRoot.mb N (impl_mapRoot.mF N f) b = _
      unfold impl_mapRoot.mb
      rw [brEta, isEmptyI, ob_some, em, cond_false, h4, implLf hN _ _ (by omega) (by omega)]
      rfl
  | n + 1, f + 1, b, P, hf, .inr ⟨x, y, Q, A, h1, h2, h3, h4, _, _, h7, _, hx, hy⟩ => by
    obtain ⟨t1, u1⟩ := rootsR hN n f x _ (by omega) hx
    obtain ⟨t2, u2⟩ := rootsR hN n f y _ (by omega) hy
    have s1 := rt_size hx
    have s2 := rt_size hy
    have em : emB b = false := by
      unfold emB; rw [h1]
      cases seq b.Key ByteArray.empty <;> cases seq b.Value ByteArray.empty <;> cases (b.At == 0) <;> rfl
    have g0 : b.Kids.getD 0 Branch.dz = x := by rw [h1]; rfl
    have g1 : b.Kids.getD 1 Branch.dz = y := by rw [h1]; rfl
    have kl : (b.Kids.length : Int) = 2 := by rw [h1]; rfl
    have ea : (b.At == 256) = false := by rw [beq_eq_false_iff_ne]; omega
    rw [rt_fork h1]
    refine ⟨?_, ?_⟩
    · show spec_l07Root.mb N (spec_l07Root.mF N f) b = _
      unfold spec_l07Root.mb spec_l07Leaf.m
      rw [brEta, l07Empty, ob_some, em, cond_false, ob_some, brEta, g0, g1, brEta, t1, t2, kl, ob_some, ob_some, specFk hN _ _ _ s1 s2]
      rfl
    · show impl_mapRoot.mb N (impl_mapRoot.mF N f) b = _
      unfold impl_mapRoot.mb
      rw [brEta, isEmptyI, ob_some, em, cond_false, ea, g0, g1, brEta, brEta, u1, u2, kl, ob_some, ob_some, implFk hN _ _ _ s1 s2]
      rfl
/-! ### The way of a hash -/
def Way (h : ByteArray) : Nat → Branch → List MapStep
  | 0, _ => []
  | n + 1, b => match b.Kids with
    | x :: y :: _ => if bt h b.At.toNat = 0 then MapStep.mk b.At (rt n y) :: Way h n x else MapStep.mk b.At (rt n x) :: Way h n y
    | _ => []
theorem Way_leaf {h : ByteArray} {n : Nat} {b : Branch} (hk : b.Kids = []) : Way h (n + 1) b = [] := by
  show (match b.Kids with | x :: y :: _ => if bt h b.At.toNat = 0 then MapStep.mk b.At (rt n y) :: Way h n x else MapStep.mk b.At (rt n x) :: Way h n y | _ => []) = _
  rw [hk]
theorem Way_fork {h : ByteArray} {n : Nat} {b x y : Branch} (hk : b.Kids = [x, y]) : Way h (n + 1) b = if bt h b.At.toNat = 0 then MapStep.mk b.At (rt n y) :: Way h n x else MapStep.mk b.At (rt n x) :: Way h n y := by
  show (match b.Kids with | x :: y :: _ => if bt h b.At.toNat = 0 then MapStep.mk b.At (rt n y) :: Way h n x else MapStep.mk b.At (rt n x) :: Way h n y | _ => []) = _
  rw [hk]
def fr1 (h : ByteArray) (s : MapStep) (o : ByteArray) : ByteArray := if bt h s.At.toNat = 0 then fkH s.At o s.Hash else fkH s.At s.Hash o
def fr (h : ByteArray) (S : List MapStep) (o : ByteArray) : ByteArray := S.foldr (fr1 h) o
theorem way_root {h : ByteArray} : ∀ {n : Nat} {b : Branch} {P : List Int}, C n b P → fr h (Way h n b) (lfH (near n h b).Key (near n h b).Value) = rt n b
  | 0, _, _, h => h.elim
  | n + 1, b, P, .inl ⟨h1, _⟩ => by rw [Way_leaf h1, near_leaf h1, rt_leaf h1]; rfl
  | n + 1, b, P, .inr ⟨x, y, Q, A, h1, _, _, h4, h5, _, h7, _, hx, hy⟩ => by
    rw [Way_fork h1, near_fork h1, rt_fork h1]
    by_cases hb0 : bt h b.At.toNat = 0
    · rw [if_pos hb0, if_pos hb0]
      show fr1 h _ (fr h (Way h n x) _) = _
      rw [way_root hx]
      unfold fr1
      rw [if_pos hb0]
    · rw [if_neg hb0, if_neg hb0]
      show fr1 h _ (fr h (Way h n y) _) = _
      rw [way_root hy]
      unfold fr1
      rw [if_neg hb0]
/-- Steps that a proof may have, from a bit on. -/
structure WOK (h g : ByteArray) (k : Nat) (S : List MapStep) : Prop where
  each : ∀ s ∈ S, ∃ A : Nat, s.At = (A : Int) ∧ k ≤ A ∧ A ≤ 255 ∧ s.Hash.size = 32 ∧ bt h A = bt g A
  rise : S.Pairwise fun a b => a.At < b.At
  len : S.length + k ≤ 256
theorem way_ok {h : ByteArray} : ∀ {n : Nat} {b : Branch} {P : List Int}, C n b P → P.length ≤ 256 → WOK h (hb (near n h b).Key) P.length (Way h n b)
  | 0, _, _, h, _ => h.elim
  | n + 1, b, P, .inl ⟨h1, _⟩, hP => by
    rw [Way_leaf h1]
    refine ⟨fun s hs => (by cases hs), List.Pairwise.nil, ?_⟩
    simp; omega
  | n + 1, b, P, .inr ⟨x, y, Q, A, h1, _, _, h4, h5, h6, h7, _, hx, hy⟩, hP => by
    have hx0 := C_bits (c := 0) hx
    have hy0 := C_bits (c := 1) hy
    rw [Way_fork h1, near_fork h1, h4, Int.toNat_natCast]
    by_cases hb0 : bt h A = 0
    · rw [if_pos hb0, if_pos hb0]
      have w := way_ok (h := h) hx (by simp; omega)
      have hl : (Q ++ [48]).length = A + 1 := by simp [h5]
      rw [hl] at w
      have g := (hx0 _ (near_mem (h := h) hx)).2
      rw [h5] at g
      refine ⟨fun s hs => ?_, List.pairwise_cons.2 ⟨fun s hs => ?_, w.rise⟩, ?_⟩
      · rcases List.mem_cons.1 hs with rfl | hs
        · exact ⟨A, rfl, by omega, by omega, rt_size hy, by rw [hb0, g]⟩
        · obtain ⟨B, q1, q2, q3, q4, q5⟩ := w.each s hs
          exact ⟨B, q1, by omega, q3, q4, q5⟩
      · obtain ⟨B, q1, q2, _⟩ := w.each s hs
        rw [q1]
        show (A : Int) < B
        omega
      · have := w.len
        rw [List.length_cons]
        omega
    · rw [if_neg hb0, if_neg hb0]
      have w := way_ok (h := h) hy (by simp; omega)
      have hl : (Q ++ [49]).length = A + 1 := by simp [h5]
      rw [hl] at w
      have g := (hy0 _ (near_mem (h := h) hy)).2
      rw [h5] at g
      have hb2 := bt_lt h A
      refine ⟨fun s hs => ?_, List.pairwise_cons.2 ⟨fun s hs => ?_, w.rise⟩, ?_⟩
      · rcases List.mem_cons.1 hs with rfl | hs
        · exact ⟨A, rfl, by omega, by omega, rt_size hx, by rw [g]; omega⟩
        · obtain ⟨B, q1, q2, q3, q4, q5⟩ := w.each s hs
          exact ⟨B, q1, by omega, q3, q4, q5⟩
      · obtain ⟨B, q1, q2, _⟩ := w.each s hs
        rw [q1]
        show (A : Int) < B
        omega
      · have := w.len
        rw [List.length_cons]
        omega
/-- Who has the hash is who is found. -/
theorem near_hit {h : ByteArray} : ∀ {n : Nat} {b z : Branch} {P : List Int}, C n b P → z ∈ Lv n b → hb z.Key = h → near n h b = z
  | 0, _, _, _, h, _, _ => h.elim
  | n + 1, b, z, P, .inl ⟨h1, _⟩, hz, he => by
    rw [Lv_leaf h1, List.mem_singleton] at hz
    rw [near_leaf h1, hz]
  | n + 1, b, z, P, .inr ⟨x, y, Q, A, h1, _, _, h4, h5, h6, h7, _, hx, hy⟩, hz, he => by
    rw [Lv_fork h1] at hz
    rw [near_fork h1, h4, Int.toNat_natCast]
    rcases List.mem_append.1 hz with hz | hz
    · have g := (C_bits (c := 0) hx _ hz).2
      rw [h5, he] at g
      rw [if_pos g]
      exact near_hit hx hz he
    · have g := (C_bits (c := 1) hy _ hz).2
      rw [h5, he] at g
      rw [if_neg (by omega)]
      exact near_hit hy hz he
theorem proveW {N : Nat} (hN : Big N) (a0 : Branch) (a1 h e1 e2 e3 e4 : ByteArray) (hh : h.size = 32) : ∀ (n K : Nat) (x : Branch) (P : List Int) (acc : List MapStep), n < K → n ≤ N → C n x P → acc.length ≤ P.length → P.length ≤ 256 → miter (fun rec => spec_l07Prove.step5 N a0 a1 rec) K (h, x.Key, x.Value, x.At, x.Kids, e1, e2, e3, e4, acc) = some (MapProof.mk (seq (near n h x).Key a1) (near n h x).Key (near n h x).Value (acc ++ Way h n x)) ∧ miter (fun rec => impl_ProveKey.step7 N a0 a1 rec) K (.s1 h x.Key x.Value x.At x.Kids e1 e2 e3 e4 acc) = some (MapProof.mk (seq (near n h x).Key a1) (near n h x).Key (near n h x).Value (acc ++ Way h n x), 0)
  | 0, _, _, _, _, _, _, h, _, _ => h.elim
  | n + 1, 0, _, _, _, h, _, _, _, _ => by omega
  | n + 1, K + 1, x, P, acc, hK, hn, .inl ⟨h1, h2, h3, h4, _⟩, hl, hP => by
    rw [near_leaf h1, Way_leaf h1, List.append_nil]
    refine ⟨?_, ?_⟩
    · rw [miter_s]
      simp only [spec_l07Prove.step5, spec_l07Leaf.m, ob_some, h1, List.length_nil]
      rfl
    · rw [miter_s]
      simp only [impl_ProveKey.step7, h4]
      rfl
  | n + 1, K + 1, x, P, acc, hK, hn, .inr ⟨y, z, Q, A, h1, h2, h3, h4, h5, h6, h7, _, hy, hz⟩, hl, hP => by
    obtain ⟨t1, u1⟩ := rootsR hN n N y _ (by omega) hy
    obtain ⟨t2, u2⟩ := rootsR hN n N z _ (by omega) hz
    have t1 : spec_l07Root.m N y = some (rt n y) := t1
    have u1 : impl_mapRoot.m N y = some (rt n y) := u1
    have t2 : spec_l07Root.m N z = some (rt n z) := t2
    have u2 : impl_mapRoot.m N z = some (rt n z) := u2
    have bS := specBit N hh (show A < 256 by omega)
    have bI := implBit N hh (show A < 256 by omega)
    have hb2 := bt_lt h A
    have hr : room (acc.length + 1) 24 = true := room24 (by omega)
    have ne : ((([y, z] : List Branch).length : Int) == 0) = false := rfl
    have na : ((A : Int) != 256) = true := by rw [bne_iff_ne]; omega
    have hat : x.At.toNat = A := by rw [h4, Int.toNat_natCast]
    rcases (show bt h A = 0 ∨ bt h A = 1 by omega) with hb0 | hb0
    · obtain ⟨i1, i2⟩ := proveW hN a0 a1 h e1 e2 e3 e4 hh n K y (Q ++ [48]) (acc ++ [MapStep.mk (A : Int) (rt n z)]) (by omega) (by omega) hy (by simp; omega) (by simp; omega)
      have ew : Way h (n + 1) x = MapStep.mk (A : Int) (rt n z) :: Way h n y := by rw [Way_fork h1, hat, if_pos hb0, h4]
      have en : near (n + 1) h x = near n h y := by rw [near_fork h1, hat, if_pos hb0]
      rw [List.append_assoc, List.singleton_append] at i1 i2
      rw [ew, en]
      refine ⟨?_, ?_⟩
      · rw [miter_s]
        simp only [spec_l07Prove.step5, spec_l07Leaf.m, ob_some, h1, h4, ne, bS, hb0]
        have g : ([y, z] : List Branch).getD (Int.toNat (w64 ((1:Int) - ((0 : Nat) : Int)))) Branch.dz = z := rfl
        have g' : ([y, z] : List Branch).getD (Int.toNat ((0 : Nat) : Int)) Branch.dz = y := rfl
        rw [g, g', brEta, t2, ob_some, ← i1]
        simp only [List.length_singleton, hr]
        rfl
      · rw [miter_s]
        simp only [impl_ProveKey.step7, ob_some, h1, h4, na, bI, hb0]
        have g : ([y, z] : List Branch).getD (Int.toNat (w64 ((1:Int) - ((0 : Nat) : Int)))) Branch.dz = z := rfl
        have g' : ([y, z] : List Branch).getD (Int.toNat ((0 : Nat) : Int)) Branch.dz = y := rfl
        rw [g, g', brEta, u2, ob_some, ← i2]
        simp only [List.length_singleton, hr]
        rfl
    · obtain ⟨i1, i2⟩ := proveW hN a0 a1 h e1 e2 e3 e4 hh n K z (Q ++ [49]) (acc ++ [MapStep.mk (A : Int) (rt n y)]) (by omega) (by omega) hz (by simp; omega) (by simp; omega)
      have hb1 : ¬ bt h A = 0 := by omega
      have ew : Way h (n + 1) x = MapStep.mk (A : Int) (rt n y) :: Way h n z := by rw [Way_fork h1, hat, if_neg hb1, h4]
      have en : near (n + 1) h x = near n h z := by rw [near_fork h1, hat, if_neg hb1]
      rw [List.append_assoc, List.singleton_append] at i1 i2
      rw [ew, en]
      refine ⟨?_, ?_⟩
      · rw [miter_s]
        simp only [spec_l07Prove.step5, spec_l07Leaf.m, ob_some, h1, h4, ne, bS, hb0]
        have g : ([y, z] : List Branch).getD (Int.toNat (w64 ((1:Int) - ((1 : Nat) : Int)))) Branch.dz = y := rfl
        have g' : ([y, z] : List Branch).getD (Int.toNat ((1 : Nat) : Int)) Branch.dz = z := rfl
        rw [g, g', brEta, t1, ob_some, ← i1]
        simp only [List.length_singleton, hr]
        rfl
      · rw [miter_s]
        simp only [impl_ProveKey.step7, ob_some, h1, h4, na, bI, hb0]
        have g : ([y, z] : List Branch).getD (Int.toNat (w64 ((1:Int) - ((1 : Nat) : Int)))) Branch.dz = y := rfl
        have g' : ([y, z] : List Branch).getD (Int.toNat ((1 : Nat) : Int)) Branch.dz = z := rfl
        rw [g, g', brEta, u1, ob_some, ← i2]
        simp only [List.length_singleton, hr]
        rfl
end Mir.Y
