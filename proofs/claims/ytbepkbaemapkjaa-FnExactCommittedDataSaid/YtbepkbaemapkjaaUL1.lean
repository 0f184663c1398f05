/- Pure laws: what the copying, comparing, marking functions compute. -/
import Derived.Test.YtbepkbaemapkjaaUM2
import Derived.Test.YtbepkbaemapkjaaMir32
namespace Mir.Y
set_option linter.unusedVariables false
set_option linter.unusedSimpArgs false
open Go
abbrev Big (N : Nat) : Prop := 16777216 ≤ N
theorem roomB {n b : Nat} (h : n ≤ 1048576) (hb : b ≤ 1024) : room n b = true := by
  have := Nat.mul_le_mul h hb
  simp only [room, decide_eq_true_eq]; omega
theorem lt_dec {i n : Nat} (h : i < n) : decide ((i : Int) < (n : Int)) = true := decide_eq_true (by omega)
theorem nn_dec (i : Nat) : decide (0 ≤ (i : Int)) = true := decide_eq_true (by omega)
theorem ge_dec (n : Nat) : decide ((n : Int) < (n : Int)) = false := decide_eq_false (by omega)
/-! ### Rows of numbers -/
theorem toIntS {N : Nat} (hN : Big N) (a : List Int) (h : a.length ≤ 1048576) : laws_toIntS.m N a = some a := by
  unfold laws_toIntS.m laws_toIntS.lp3
  simp only [Int.toNat_natCast, roomB h (by omega : 8 ≤ 1024), Int.natCast_nonneg, decide_true, cond_true]
  exact loop_fill (fun i hi v hv rec => by
    simp only [laws_toIntS.step3, lt_dec hi, nn_dec, hv, cond_true, Int.toNat_natCast, getD_at hi]
    rw [w_up i _ hi h]) (fun rec => by simp [laws_toIntS.step3]) (by omega)
theorem eqIntS {N : Nat} (hN : Big N) (a : List Int) (h : a.length ≤ 1048576) : laws_eqIntS.m N a a = some true := by
  unfold laws_eqIntS.m laws_eqIntS.lp4
  simp only [bne_self_eq_false, cond_false]
  exact miter_up (n := a.length) (st := fun i => (i : Int)) (fun i hi rec => by
    simp only [laws_eqIntS.step4, lt_dec hi, nn_dec, cond_true, Int.toNat_natCast, bne_self_eq_false, cond_false]
    rw [w_up i _ hi h]) (fun rec => by simp [laws_eqIntS.step4]) a.length 0 N (by omega) (by omega)
def fInt (c : Int) (_ : Int) : Int × Int := (w64 (c + 1), c)
theorem fInt_count (c x : Int) (h0 : 0 ≤ c) (h1 : c ≤ 8388608) : (fInt c x).1 = c + 1 := w_small (by omega) (by omega)
theorem markIntS {N : Nat} (hN : Big N) (a : List Int) (c : Int) (h : a.length ≤ 1048576) : laws_markIntS.m N a c = some (marks fInt c a) := by
  unfold laws_markIntS.m laws_markIntS.lp2
  exact loop_mark (f := fInt) (fun i hi v hv rec => by
    simp only [laws_markIntS.step2, hv, lt_dec hi, nn_dec, cond_true, Int.toNat_natCast]
    rw [w_up i _ hi h]; rfl) (fun rec => by simp [laws_markIntS.step2, marks_length]) (by omega)
/-! ### Texts that mark -/
theorem size_append (a b : ByteArray) : (a ++ b).size = a.size + b.size := by simp
theorem markText {N : Nat} (hN : Big N) (c : Int) (h : c ≤ 8388616) : ∃ s, laws_markText.m N c = some s := by
  unfold laws_markText.m
  by_cases h0 : c ≤ 0
  · rw [decide_eq_true h0]; exact ⟨_, rfl⟩
  · rw [decide_eq_false h0, cond_false, laws_markText.lp4]
    refine miter_all (p := fun (r : Option ByteArray) => ∃ s, r = some s) (fun q : Int × ByteArray => q.1.toNat) (fun q => 0 ≤ q.1 ∧ q.1 + q.2.size ≤ 8388616) ?_ N (c, ByteArray.empty) ⟨by simp only; omega, by simpa using h⟩ (by simp only; omega)
    rintro ⟨v, s⟩ ⟨hv, hs⟩ rec hrec
    simp only at hv hs
    have one : ∀ x : Int, (strOf [x]).size = 1 := fun x => rfl
    simp only [laws_markText.step4]
    by_cases hv0 : v > 0
    · have e10 : decide ((10 : Int) = 0) = false := rfl
      have hq : Int.tdiv v 10 = v / 10 := Int.tdiv_eq_ediv_of_nonneg hv
      have hw : w64 (Int.tdiv v 10) = v / 10 := by rw [hq]; exact w_small (by omega) (by omega)
      rw [decide_eq_true hv0, cond_true, e10, Bool.not_false, cond_true, one, decide_eq_true (by omega), cond_true, cond_true, hw]
      refine hrec _ ⟨by simp only; omega, ?_⟩ (by simp only; omega)
      simp only [size_append, one]
      omega
    · have e1 : (⟨#[109]⟩ : ByteArray).size = 1 := rfl
      rw [decide_eq_false hv0, cond_false, e1, decide_eq_true (by omega), cond_true]
      exact ⟨_, rfl⟩
noncomputable def txt (N : Nat) (c : Int) : ByteArray := (laws_markText.m N c).getD ByteArray.empty
theorem txt_eq {N : Nat} (hN : Big N) (c : Int) (h : c ≤ 8388616) : laws_markText.m N c = some (txt N c) := by
  obtain ⟨s, hs⟩ := markText hN c h
  rw [txt, hs]; rfl
/-! ### Entries -/
theorem toEntryS {N : Nat} (hN : Big N) (a : List Entry) (h : a.length ≤ 1048576) : laws_toEntryS.m N a = some a := by
  unfold laws_toEntryS.m laws_toEntryS.lp3
  simp only [Int.toNat_natCast, roomB h (by omega : 32 ≤ 1024), Int.natCast_nonneg, decide_true, cond_true]
  exact loop_fill (fun i hi v hv rec => by
    simp only [laws_toEntryS.step3, laws_toEntry.m, ob_some, lt_dec hi, nn_dec, hv, cond_true, Int.toNat_natCast, getD_at hi]
    rw [w_up i _ hi h]) (fun rec => by simp [laws_toEntryS.step3]) (by omega)
theorem eqEntry (N : Nat) (x : Entry) : laws_eqEntry.m N x x = some true := by simp [laws_eqEntry.m, seq_self]
theorem eqEntryS {N : Nat} (hN : Big N) (a : List Entry) (h : a.length ≤ 1048576) : laws_eqEntryS.m N a a = some true := by
  unfold laws_eqEntryS.m laws_eqEntryS.lp4
  simp only [bne_self_eq_false, cond_false]
  exact miter_up (n := a.length) (st := fun i => (i : Int)) (fun i hi rec => by
    simp only [laws_eqEntryS.step4, lt_dec hi, nn_dec, cond_true, Int.toNat_natCast, eqEntry, ob_some, Bool.not_true, cond_false]
    rw [w_up i _ hi h]) (fun rec => by simp [laws_eqEntryS.step4]) a.length 0 N (by omega) (by omega)
noncomputable def fEnt (N : Nat) (c : Int) (_ : Entry) : Int × Entry := (w64 (w64 (w64 (c + 1) + 1) + 1), ⟨c, w64 (c + 1), txt N (w64 (w64 (c + 1) + 1))⟩)
theorem fEnt_count (N : Nat) (c : Int) (x : Entry) (h0 : 0 ≤ c) (h1 : c ≤ 8388608) : (fEnt N c x).1 = c + 3 := by
  simp only [fEnt]
  rw [w_small (x := c + 1) (by omega) (by omega), w_small (x := c + 1 + 1) (by omega) (by omega), w_small (by omega) (by omega)]; omega
theorem fEnt_txt {c : Int} (h0 : 0 ≤ c) (h1 : c ≤ 8388608) : w64 (w64 (c + 1) + 1) ≤ 8388616 := by
  rw [w_small (x := c + 1) (by omega) (by omega), w_small (by omega) (by omega)]; omega
theorem count_take {X : Type} {f : Int → X → Int × X} {d : Int} (h : ∀ c x, 0 ≤ c → c ≤ 8388608 → (f c x).1 = c + d) (hd : 0 ≤ d) (hd4 : d ≤ 16) {c : Int} {a : List X} (h0 : 0 ≤ c) (hb : c + d * a.length ≤ 8388608) (i : Nat) : 0 ≤ (marks f c (a.take i)).1 ∧ (marks f c (a.take i)).1 ≤ 8388608 := by
  have hl : d * ((a.take i).length : Int) ≤ d * (a.length : Int) := Int.mul_le_mul_of_nonneg_left (by simp; omega) hd
  have hm : 0 ≤ d * ((a.take i).length : Int) := Int.mul_nonneg hd (by omega)
  rw [marks_count h hd hd4 h0 (by omega)]
  omega
theorem markEntryS {N : Nat} (hN : Big N) (a : List Entry) (c : Int) (h : a.length ≤ 1048576) (h0 : 0 ≤ c) (hb : c + 3 * a.length ≤ 8388608) : laws_markEntryS.m N a c = some (marks (fEnt N) c a) := by
  unfold laws_markEntryS.m laws_markEntryS.lp2
  exact loop_mark (f := fEnt N) (fun i hi v hv rec => by
    obtain ⟨k0, k1⟩ := count_take (fEnt_count N) (by omega) (by omega) h0 hb i
    have hi' : i < v.length := by omega
    simp only [laws_markEntryS.step2, hv, lt_dec hi, nn_dec, cond_true, Int.toNat_natCast, List.length_set, txt_eq hN _ (fEnt_txt k0 k1), ob_some, List.set_set, getD_at hi', List.getD_eq_getElem?_getD, List.getElem?_set_self hi', Option.getD_some]
    rw [w_up i _ hi h]; rfl) (fun rec => by simp [laws_markEntryS.step2, marks_length]) (by omega)
/-! ### Nodes -/
structure NodeSz (x : Node) (n : Nat) : Prop where
  Log : x.Log.length ≤ n
  Start : x.Start.length ≤ n
  Votes : x.Votes.length ≤ n
  Next : x.Next.length ≤ n
  Match : x.Match.length ≤ n
theorem toNode {N : Nat} (hN : Big N) (x : Node) (h : NodeSz x 1048576) : laws_toNode.m N x = some x := by
  unfold laws_toNode.m
  rw [toEntryS hN _ h.Log, ob_some, toIntS hN _ h.Start, ob_some, toIntS hN _ h.Votes, ob_some, toIntS hN _ h.Next, ob_some, toIntS hN _ h.Match]
  rfl
theorem eqNode {N : Nat} (hN : Big N) (x : Node) (h : NodeSz x 1048576) : laws_eqNode.m N x x = some true := by
  unfold laws_eqNode.m
  simp [eqEntryS hN _ h.Log, eqIntS hN _ h.Start, eqIntS hN _ h.Votes, eqIntS hN _ h.Next, eqIntS hN _ h.Match]
end Mir.Y
