/- Pure laws: FnMap. -/
import Derived.Test.YtojpcjbdehoibaaJUB
namespace Mir.Y
set_option linter.unusedVariables false
set_option linter.unusedSimpArgs false
open Go
variable {b b' : Branch} {L L' : List Branch}
theorem hlt_ne {h g : ByteArray} (k : hlt h g) : h ≠ g := fun e => hlt_irrefl g (e ▸ k)
theorem PutR.mem_iff {x : Branch} (p : PutR L x L') (l : Branch) : l ∈ L' ↔ l = x ∨ (l ∈ L ∧ hb l.Key ≠ hb x.Key) := by
  obtain ⟨A, M, B, p, rfl⟩ := p
  rw [p.eq]
  simp only [List.mem_append, List.mem_cons]
  constructor
  · rintro (h | rfl | h)
    · exact .inr ⟨.inl h, hlt_ne (p.lo l h)⟩
    · exact .inl rfl
    · exact .inr ⟨.inr (.inr h), fun e => hlt_ne (p.hi l h) e.symm⟩
  · rintro (rfl | ⟨h | h | h, hn⟩)
    · exact .inr (.inl rfl)
    · exact .inl h
    · rcases p.mid with rfl | ⟨z, rfl, hz⟩
      · cases h
      · rw [List.mem_singleton] at h; subst h; exact absurd hz hn
    · exact .inr (.inr h)
theorem Srt.ext : ∀ {L L' : List Branch}, Srt L → Srt L' → (∀ l, l ∈ L ↔ l ∈ L') → L = L'
  | [], [], _, _, _ => rfl
  | [], x :: r, _, _, h => by have := (h x).2 List.mem_cons_self; cases this
  | x :: r, [], _, _, h => by have := (h x).1 List.mem_cons_self; cases this
  | x :: r, y :: q, hs, hs', h => by
    obtain ⟨h1, h2⟩ := List.pairwise_cons.1 hs
    obtain ⟨k1, k2⟩ := List.pairwise_cons.1 hs'
    have e : x = y := by
      rcases List.mem_cons.1 ((h x).1 List.mem_cons_self) with e | hx
      · exact e
      · rcases List.mem_cons.1 ((h y).2 List.mem_cons_self) with e | hy
        · exact e.symm
        · exact absurd (h1 y hy) (hlt_asymm (k1 x hx))
    subst e
    rw [Srt.ext h2 k2 fun l => ?_]
    constructor
    · intro hl
      rcases List.mem_cons.1 ((h l).1 (List.mem_cons_of_mem _ hl)) with e | h'
      · subst e; exact absurd (h1 l hl) (hlt_irrefl _)
      · exact h'
    · intro hl
      rcases List.mem_cons.1 ((h l).2 (List.mem_cons_of_mem _ hl)) with e | h'
      · subst e; exact absurd (k1 l hl) (hlt_irrefl _)
      · exact h'
theorem Srt.keys {L : List Branch} (hs : Srt L) : (L.map Branch.Key).Nodup :=
  List.pairwise_map.2 (hs.imp fun h e => hlt_ne h (congrArg hb e))
def vOf (k : ByteArray) : ByteArray := one118 ++ k
theorem vOf_size {k : ByteArray} (h : k.size ≤ 24) : (vOf k).size ≤ 60 := by
  unfold vOf
  rw [size_append]
  have : one118.size = 1 := rfl
  omega
/-- The leaves are those keys with their values. -/
def Has (L : List Branch) (S : List ByteArray) : Prop := ∀ l, l ∈ L ↔ ∃ k ∈ S, l = lf k (vOf k)
theorem Has.put {S : List ByteArray} {k : ByteArray} (h : Has L S) (hS : ∀ s ∈ S, s ∈ KS) (hk : k ∈ KS) (hn : k ∉ S) (p : PutR L (lf k (vOf k)) L') {S' : List ByteArray} (hS' : ∀ s, s ∈ S' ↔ s = k ∨ s ∈ S) : Has L' S' := by
  intro l
  rw [p.mem_iff]
  constructor
  · rintro (rfl | ⟨hl, _⟩)
    · exact ⟨k, (hS' k).2 (.inl rfl), rfl⟩
    · obtain ⟨s, hs, rfl⟩ := (h l).1 hl
      exact ⟨s, (hS' s).2 (.inr hs), rfl⟩
  · rintro ⟨s, hs, rfl⟩
    rcases (hS' s).1 hs with rfl | hs
    · exact .inl rfl
    · refine .inr ⟨(h _).2 ⟨s, hs, rfl⟩, fun e => ?_⟩
      have := noCol (hS s hs) hk e
      exact hn (this ▸ hs)
theorem Has.len {S : List ByteArray} (h : Has L S) (hs : Srt L) (hn : S.Nodup) : L.length = S.length := by
  apply Nat.le_antisymm
  · have := nodup_len (m := S) hs.keys fun x hx => by
      obtain ⟨l, hl, rfl⟩ := List.mem_map.1 hx
      obtain ⟨k, hk, rfl⟩ := (h l).1 hl
      exact hk
    simpa using this
  · have := nodup_len (m := L.map Branch.Key) hn fun x hx => List.mem_map.2 ⟨lf x (vOf x), (h _).2 ⟨x, hx, rfl⟩, rfl⟩
    simpa using this
theorem Part.there {A M B : List Branch} {h : ByteArray} (p : Part L h A M B) {z : Branch} (hz : z ∈ L) (he : hb z.Key = h) : M = [z] := by
  rw [p.eq] at hz
  rcases List.mem_append.1 hz with hz | hz
  · exact absurd he (hlt_ne (p.lo z hz))
  · rcases List.mem_append.1 hz with hz | hz
    · rcases p.mid with rfl | ⟨y, rfl, _⟩
      · cases hz
      · rw [List.mem_singleton] at hz; rw [hz]
    · exact absurd he.symm (hlt_ne (p.hi z hz))
/-! ### The keys -/
open Classical in
theorem keys10 {N : Nat} (hN : Big N) (a0 a1 : List Int) (r5 : Int × List ByteArray → Option Bool) (i : Int) (k : ByteArray) (ks : List ByteArray) (hl : ks.length ≤ 100) : laws_FnMap.lp10 N a0 a1 r5 (.s0 i k 0 ks) = r5 (w64 (i + 1), if k ∈ ks then ks else ks ++ [k]) := by
  unfold laws_FnMap.lp10
  have room1 : room (ks.length + ([k] : List ByteArray).length) 16 = true := roomB (by simp; omega) (by omega)
  -- where it is known to be there
  have s2 : ∀ (m j K : Nat), j + m = ks.length → m < K → miter (fun rec => laws_FnMap.step10 N a0 a1 r5 rec) K (.s2 i k (j : Int) ks) = r5 (w64 (i + 1), ks) := by
    intro m
    induction m with
    | zero =>
      intro j K hj hK
      obtain ⟨K, rfl⟩ : ∃ q, K = q + 1 := ⟨K - 1, by omega⟩
      rw [miter_s]
      simp only [laws_FnMap.step10, decide_eq_false (show ¬ (j : Int) < (ks.length : Int) by omega), cond_false]
    | succ m ih =>
      intro j K hj hK
      obtain ⟨K, rfl⟩ : ∃ q, K = q + 1 := ⟨K - 1, by omega⟩
      rw [miter_s]
      simp only [laws_FnMap.step10, lt_dec (show j < ks.length by omega), cond_true, w_up j 1000 (by omega) (by omega)]
      exact ih (j + 1) K (by omega) (by omega)
  have s1 : ∀ (m j K : Nat) (c : Bool), j + m = ks.length → m < K → (c = true → k ∈ ks) → (c = false → k ∉ ks.take j) → miter (fun rec => laws_FnMap.step10 N a0 a1 r5 rec) K (.s1 i k c (j : Int) ks) = r5 (w64 (i + 1), if k ∈ ks then ks else ks ++ [k]) := by
    intro m
    induction m with
    | zero =>
      intro j K c hj hK hc hf
      obtain ⟨K, rfl⟩ : ∃ q, K = q + 1 := ⟨K - 1, by omega⟩
      rw [miter_s]
      simp only [laws_FnMap.step10, decide_eq_false (show ¬ (j : Int) < (ks.length : Int) by omega), cond_false, room1, cond_true]
      cases c with
      | true => rw [if_pos (hc rfl)]; rfl
      | false =>
        have := hf rfl
        rw [List.take_of_length_le (by omega)] at this
        rw [if_neg this]; rfl
    | succ m ih =>
      intro j K c hj hK hc hf
      obtain ⟨K, rfl⟩ : ∃ q, K = q + 1 := ⟨K - 1, by omega⟩
      have hj' : j < ks.length := by omega
      rw [miter_s]
      simp only [laws_FnMap.step10, lt_dec hj', cond_true, w_up j 1000 (by omega) (by omega), nn_dec, Int.toNat_natCast, getD_at hj', cond_false]
      cases c with
      | true =>
        rw [cond_true, if_pos (hc rfl)]
        exact s2 m (j + 1) K (by omega) (by omega)
      | false =>
        rw [cond_false]
        refine ih (j + 1) K _ (by omega) (by omega) (fun e => ?_) (fun e => ?_)
        · rw [← seq_iff.1 e]; exact List.getElem_mem _
        · have ht : ks.take (j + 1) = ks.take j ++ [ks[j]] := by rw [List.take_add_one, List.getElem?_eq_getElem hj']; rfl
          rw [ht]
          intro hm
          rcases List.mem_append.1 hm with hm | hm
          · exact hf rfl hm
          · rw [List.mem_singleton] at hm
            rw [seq_iff.2 hm.symm] at e; cases e
  obtain ⟨M, hM⟩ : ∃ M, N = M + 1 := ⟨N - 1, by omega⟩
  have un : ∀ (g : (laws_FnMap.A10 → Option Bool) → (laws_FnMap.A10 → Option Bool)) (s), miter g N s = g (miter g M) s := by rw [hM]; intro g s; rfl
  rw [un]
  cases hk : ks with
  | nil =>
    rw [if_neg (by simp)]
    simp only [laws_FnMap.step10]; rfl
  | cons x r =>
    rw [← hk]
    have h0 : 0 < ks.length := by rw [hk]; simp
    simp only [laws_FnMap.step10, decide_eq_true (show (0 : Int) < (ks.length : Int) by omega), show decide ((0:Int) ≤ 0) = true from rfl, cond_true, cond_false, show w64 (0 + 1) = ((1 : Nat) : Int) from by decide, show Int.toNat 0 = 0 from rfl, getD_at h0]
    refine s1 (ks.length - 1) 1 M _ (by omega) (by omega) (fun e => ?_) (fun e => ?_)
    · rw [← seq_iff.1 e]; exact List.getElem_mem _
    · have ht : ks.take 1 = [ks[0]] := by rw [List.take_one, List.head?_eq_getElem?, List.getElem?_eq_getElem h0]; rfl
      rw [ht]
      intro hm
      rw [List.mem_singleton] at hm
      rw [seq_iff.2 hm.symm] at e; cases e
open Classical in
theorem keys5 {N : Nat} (hN : Big N) (a0 a1 : List Int) (hl : a0.length ≤ 1048576) (hb' : ∀ x ∈ a0, 0 ≤ x ∧ x < 256) : ∃ ks : List ByteArray, ks.Nodup ∧ (∀ k ∈ ks, k ∈ KS) ∧ 1 ≤ ks.length ∧ ks.length ≤ 8 ∧ laws_FnMap.lp5 N a0 a1 (0, []) = laws_FnMap.lp18 N a0 a1 (.s0 0 ks ByteArray.empty ByteArray.empty 0 ByteArray.empty ByteArray.empty 0) := by
  unfold laws_FnMap.lp5
  have go : ∀ (m i K : Nat) (ks : List ByteArray), i + m = 8 → m < K → ks.Nodup → (∀ k ∈ ks, k ∈ KS) → ks.length ≤ i → (0 < i → 1 ≤ ks.length) → ∃ ks' : List ByteArray, ks'.Nodup ∧ (∀ k ∈ ks', k ∈ KS) ∧ 1 ≤ ks'.length ∧ ks'.length ≤ 8 ∧ miter (fun rec => laws_FnMap.step5 N a0 a1 (laws_FnMap.lp10 N a0 a1 rec) (laws_FnMap.lp18 N a0 a1) rec) K ((i : Int), ks) = laws_FnMap.lp18 N a0 a1 (.s0 0 ks' ByteArray.empty ByteArray.empty 0 ByteArray.empty ByteArray.empty 0) := by
    intro m
    induction m with
    | zero =>
      intro i K ks hi hK h1 h2 h3 h4
      obtain ⟨K, rfl⟩ : ∃ q, K = q + 1 := ⟨K - 1, by omega⟩
      refine ⟨ks, h1, h2, h4 (by omega), by omega, ?_⟩
      rw [miter_s]
      simp only [laws_FnMap.step5, decide_eq_false (show ¬ (i : Int) < 8 by omega), cond_false]
    | succ m ih =>
      intro i K ks hi hK h1 h2 h3 h4
      obtain ⟨K, rfl⟩ : ∃ q, K = q + 1 := ⟨K - 1, by omega⟩
      obtain ⟨k, k1, k2⟩ := mapKeyOf N ([wu8 (i : Int)] ++ a0) (by simp; omega) (by
        intro x hx
        rcases List.mem_append.1 hx with hx | hx
        · rw [List.mem_singleton] at hx; subst hx; exact wu8_range _
        · exact hb' x hx)
      have hr : room (([wu8 (i : Int)] : List Int).length + a0.length) 1 = true := roomS (by simp; omega)
      have hw := w_up i 8 (by omega) (by omega)
      have step : ∀ rec : Int × List ByteArray → Option Bool, laws_FnMap.step5 N a0 a1 (laws_FnMap.lp10 N a0 a1 rec) (laws_FnMap.lp18 N a0 a1) rec ((i : Int), ks) = rec (((i + 1 : Nat) : Int), if k ∈ ks then ks else ks ++ [k]) := by
        intro rec
        simp only [laws_FnMap.step5, decide_eq_true (show (i : Int) < 8 by omega), cond_true, hr, k2, ob_some]
        rw [keys10 hN a0 a1 rec (i : Int) k ks (by omega), hw]
      rw [miter_s, step]
      by_cases hk : k ∈ ks
      · rw [if_pos hk]
        exact ih (i + 1) K ks (by omega) (by omega) h1 h2 (by omega) (fun _ => List.length_pos_of_mem hk)
      · rw [if_neg hk]
        refine ih (i + 1) K _ (by omega) (by omega) ?_ ?_ (by simp; omega) (fun _ => by simp)
        · refine List.nodup_append.2 ⟨h1, by simp, fun x hx y hy e => ?_⟩
          rw [List.mem_singleton] at hy
          subst hy; subst e
          exact hk hx
        · intro x hx
          rcases List.mem_append.1 hx with hx | hx
          · exact h2 x hx
          · rw [List.mem_singleton] at hx; subst hx; exact k1
  exact go 8 0 N [] (by omega) (by omega) (by simp) (fun k hk => by cases hk) (by simp) (fun h => by omega)
/-! ### Both ways of putting -/
theorem putM {N : Nat} (hN : Big N) (h : Mq b L) (hl : L.length < 40) {k v : ByteArray} (hk : 1 ≤ k.size ∧ k.size ≤ 24) (hv : v.size ≤ 60) : ∃ b' L', impl_MapPut.m N b k v = some (b', 0) ∧ Mq b' L' ∧ L'.length ≤ 40 ∧ PutR L (lf k v) L' := by
  obtain ⟨A, M, B, p⟩ := part_of (hb_size k) h.srt
  have pr : PutR L (lf k v) (A ++ lf k v :: B) := ⟨A, M, B, p, rfl⟩
  obtain ⟨b', hb'⟩ := Mq.of_list (h.srt.put pr) (fun l hl => by
    rcases pr.mem l hl with rfl | hl
    · exact lf_ok hk hv
    · exact h.good l hl)
  refine ⟨b', _, ?_, hb', by have := pr.len; omega, pr⟩
  rw [implPutM hN h (by omega) hk hv p hb', if_neg (by omega)]
theorem mapListM {N : Nat} (hN : Big N) (h : Mq b L) (hl : L.length ≤ 40) : impl_MapList.m N b = some (L.map cmdO, 0) := by
  unfold impl_MapList.m
  rw [brEta, h.pairs hN hl, ob_some]
  simp only [Bool.not_true, cond_false, List.length_map]
  unfold impl_MapList.lp6
  exact miter_up (step := fun rec => impl_MapList.step6 N b rec) (n := L.length) (st := fun i => ((L.length : Int), (i : Int), (L.take i).map cmdO, L.map prO)) (fun i hi rec => by
    have hr : room (((L.take i).map cmdO).length + ([Command.mk 1 0 0 (prO L[i]).key (prO L[i]).value] : List Command).length) 56 = true := roomB (by simp; omega) (by omega)
    have ht : L.take (i + 1) = L.take i ++ [L[i]] := by rw [List.take_add_one, List.getElem?_eq_getElem hi]; rfl
    simp only [impl_MapList.step6, lt_dec hi, nn_dec, cond_true, Int.toNat_natCast, List.length_map, prO_at hi]
    rw [List.length_map] at hr
    rw [hr, cond_true, w_up i _ hi (by omega), ht, List.map_append]
    rfl) (fun rec => by simp [impl_MapList.step6]) L.length 0 N (by omega) (by omega)
theorem keyHashM {N : Nat} (hN : Big N) {k : ByteArray} (hk : 1 ≤ k.size ∧ k.size ≤ 24) : impl_KeyHash.m N k = some (hb k, 0) := by
  unfold impl_KeyHash.m
  rw [isTx hN (by omega), ob_some, (keyOK hk N).1, ob_some, implHash hN _ (by omega)]
  rfl
theorem getIn {N : Nat} (hN : Big N) (h : Mq b L) (hl : L.length ≤ 40) {k v : ByteArray} (hk : 1 ≤ k.size ∧ k.size ≤ 24) (hm : lf k v ∈ L) : impl_MapGet.m N b k = some (v, 0) := by
  obtain ⟨A, M, B, p⟩ := part_of (hb_size k) h.srt
  obtain rfl := p.there hm rfl
  rw [getM hN h hl hk p]
  rfl
theorem end33 {N : Nat} (hN : Big N) (a0 a1 : List Int) (hl1 : a1.length ≤ 1048576) (hb1 : ∀ x ∈ a1, 0 ≤ x ∧ x < 256) (ks : List ByteArray) (h1 : ks.Nodup) (h2 : ∀ k ∈ ks, k ∈ KS) (h3 : 1 ≤ ks.length) (h4 : ks.length ≤ 8) (h : Mq b L) (hs : Has L ks) :
    laws_FnMap.lp33 N a0 a1 (.s1 0 ks b.Key b.Value b.At b.Kids (L.map cmdO)) = some true := by
  have hlen := hs.len h.srt h1
  unfold laws_FnMap.lp33
  have v118 : ∀ k : ByteArray, (⟨#[118]⟩ : ByteArray) ++ k = vOf k := fun k => rfl
  have cmd_ : ∀ j, (hj : j < L.length) → ((L.map cmdO).getD j Command.dz).Key = L[j].Key := fun j hj => by rw [cmd_at hj]; rfl
  exact miter_up (step := fun rec => laws_FnMap.step33 N a0 a1 rec) (n := ks.length) (st := fun i => .s1 (i : Int) ks b.Key b.Value b.At b.Kids (L.map cmdO)) (fun i hi rec => by
    have hk := ks_size _ (h2 _ (List.getElem_mem hi))
    have hg := getIn hN h (by omega) hk ((hs _).2 ⟨_, List.getElem_mem hi, rfl⟩)
    have hsz : (⟨#[118]⟩ : ByteArray).size + ks[i].size ≤ 9223372036854775807 := by
      have : (⟨#[118]⟩ : ByteArray).size = 1 := rfl
      omega
    have hiL : i < L.length := by omega
    simp only [laws_FnMap.step33, lt_dec hi, nn_dec, cond_true, Int.toNat_natCast, getD_at hi, brEta, hg, ob_some, bne_self_eq_false, cond_false, decide_eq_true hsz, v118, seq_self, Bool.not_true, List.length_map, lt_dec hiL]
    by_cases h0 : 0 < i
    · have hd : w64 ((i : Int) - 1) = ((i - 1 : Nat) : Int) := w_dn i h0 (by omega)
      have hlt : hlt (hb L[i - 1].Key) (hb L[i].Key) := List.pairwise_iff_getElem.1 h.srt (i - 1) i (by omega) hiL (by omega)
      have g1 := (h.good _ (List.getElem_mem (show i - 1 < L.length by omega))).2.1
      have g2 := (h.good _ (List.getElem_mem hiL)).2.1
      simp only [decide_eq_true (show (i : Int) > 0 by omega), cond_true, hd, nn_dec, lt_dec (show i - 1 < L.length by omega), Int.toNat_natCast, cmd_ (i - 1) (by omega), cmd_ i hiL, keyHashM hN g1, keyHashM hN g2, ob_some, bne_self_eq_false, cond_false, slt_of (hb_size _) (hb_size _) hlt, Bool.not_true]
      rw [w_up i _ hi (by omega)]
    · rw [decide_eq_false (show ¬ (i : Int) > 0 by omega), cond_false, w_up i _ hi (by omega)]) (fun rec => by
    obtain ⟨y, y1, y2, y3⟩ := lawsAt N a1 0 (ks.length : Int) hl1 hb1 (by omega) (by omega) (by omega) (by omega)
    obtain ⟨j, rfl⟩ := Int.eq_ofNat_of_zero_le y2
    have y3 : (j : Int) < (ks.length : Int) := y3
    have hj : j < ks.length := by omega
    have hk := ks_size _ (h2 _ (List.getElem_mem hj))
    obtain ⟨x, L', p1, p2, p3, p4⟩ := putM hN h (by omega) hk (v := (⟨#[99, 104, 97, 110, 103, 101, 100]⟩ : ByteArray)) (by decide)
    have hg := getIn hN p2 p3 hk p4.new
    obtain ⟨r, _, r1, r2⟩ := rootMS hN p2 p3
    simp only [laws_FnMap.step33, ge_dec, cond_false, y1, ob_some, nn_dec, lt_dec hj, cond_true, Int.toNat_natCast, getD_at hj, brEta, p1, hg, r1, r2, beq_self_eq_true, seq_self]) ks.length 0 N (by omega) (by omega)
theorem both18 {N : Nat} (hN : Big N) (a0 a1 : List Int) (hl1 : a1.length ≤ 1048576) (hb1 : ∀ x ∈ a1, 0 ≤ x ∧ x < 256) (ks : List ByteArray) (h1 : ks.Nodup) (h2 : ∀ k ∈ ks, k ∈ KS) (h3 : 1 ≤ ks.length) (h4 : ks.length ≤ 8) :
    ∀ (m i K : Nat) (a c : Branch) (La Lc : List Branch), i + m = ks.length → m < K → Mq a La → Has La (ks.take i) → Mq c Lc → Has Lc (ks.drop (ks.length - i)) → miter (fun rec => laws_FnMap.step18 N a0 a1 (laws_FnMap.lp33 N a0 a1) rec) K (.s1 (i : Int) ks a.Key a.Value a.At a.Kids c.Key c.Value c.At c.Kids) = some true := by
  have v118 : ∀ k : ByteArray, (⟨#[118]⟩ : ByteArray) ++ k = vOf k := fun k => rfl
  intro m
  induction m with
  | zero =>
    intro i K a c La Lc hi hK ha hsa hc hsc
    obtain ⟨K, rfl⟩ : ∃ q, K = q + 1 := ⟨K - 1, by omega⟩
    obtain rfl : i = ks.length := by omega
    rw [List.take_length] at hsa
    rw [Nat.sub_self, List.drop_zero] at hsc
    have hla := hsa.len ha.srt h1
    have e : La = Lc := ha.srt.ext hc.srt fun l => (hsa l).trans (hsc l).symm
    subst e
    obtain rfl := ha.uniq hN hc (by omega)
    obtain ⟨r, _, r1, r2⟩ := rootMS hN ha (by omega)
    rw [miter_s]
    simp only [laws_FnMap.step18, ge_dec, cond_false, brEta, r1, r2, ob_some, mapListM hN ha (show La.length ≤ 40 by omega), bne_self_eq_false, seq_self, Bool.not_true, List.length_map, hla]
    exact end33 hN a0 a1 hl1 hb1 ks h1 h2 h3 h4 ha hsa
  | succ m ih =>
    intro i K a c La Lc hi hK ha hsa hc hsc
    obtain ⟨K, rfl⟩ : ∃ q, K = q + 1 := ⟨K - 1, by omega⟩
    have hi' : i < ks.length := by omega
    have hq : ks.length - 1 - i < ks.length := by omega
    have w1 : w64 (w64 ((ks.length : Int) - 1) - (i : Int)) = ((ks.length - 1 - i : Nat) : Int) := by
      rw [w_dn _ (by omega) (by omega), w_small (by omega) (by omega)]; omega
    have sub1 : ∀ s ∈ ks.take i, s ∈ KS := fun s hs => h2 s (List.mem_of_mem_take hs)
    have sub2 : ∀ s ∈ ks.drop (ks.length - i), s ∈ KS := fun s hs => h2 s (List.mem_of_mem_drop hs)
    have k1 := h2 _ (List.getElem_mem hi')
    have k2 := h2 _ (List.getElem_mem hq)
    have z1 := ks_size _ k1
    have z2 := ks_size _ k2
    have la := hsa.len ha.srt (h1.sublist (List.take_sublist _ _))
    have lc := hsc.len hc.srt (h1.sublist (List.drop_sublist _ _))
    rw [List.length_take] at la
    rw [List.length_drop] at lc
    obtain ⟨a', La', p1, p2, p3, p4⟩ := putM hN ha (by omega) z1 (vOf_size z1.2)
    obtain ⟨c', Lc', q1, q2, q3, q4⟩ := putM hN hc (by omega) z2 (vOf_size z2.2)
    have ht : ks.take (i + 1) = ks.take i ++ [ks[i]] := by rw [List.take_add_one, List.getElem?_eq_getElem hi']; rfl
    have hd : ks.drop (ks.length - (i + 1)) = ks[ks.length - 1 - i] :: ks.drop (ks.length - i) := by
      rw [show ks.length - (i + 1) = ks.length - 1 - i by omega, List.drop_eq_getElem_cons hq, show ks.length - 1 - i + 1 = ks.length - i by omega]
    have n1 : ks[i] ∉ ks.take i := by
      have : (ks.take i ++ [ks[i]]).Nodup := by rw [← ht]; exact h1.sublist (List.take_sublist _ _)
      exact fun h => (List.nodup_append.1 this).2.2 _ h _ (List.mem_singleton_self _) rfl
    have n2 : ks[ks.length - 1 - i] ∉ ks.drop (ks.length - i) := by
      have : (ks[ks.length - 1 - i] :: ks.drop (ks.length - i)).Nodup := by rw [← hd]; exact h1.sublist (List.drop_sublist _ _)
      exact (List.nodup_cons.1 this).1
    have hsz : ∀ k : ByteArray, k.size ≤ 24 → (⟨#[118]⟩ : ByteArray).size + k.size ≤ 9223372036854775807 := fun k hk => by
      have : (⟨#[118]⟩ : ByteArray).size = 1 := rfl
      omega
    rw [miter_s]
    simp only [laws_FnMap.step18, lt_dec hi', nn_dec, cond_true, Int.toNat_natCast, getD_at hi', decide_eq_true (hsz _ z1.2), v118, brEta, p1, ob_some, w1, lt_dec hq, getD_at hq, decide_eq_true (hsz _ z2.2), q1, bne_self_eq_false, cond_false, p2.implOK hN p3, Bool.not_true, w_up i _ hi' (show ks.length ≤ 1048576 by omega)]
    refine ih (i + 1) K a' c' La' Lc' (by omega) (by omega) p2 (hsa.put sub1 k1 n1 p4 fun s => ?_) q2 (hsc.put sub2 k2 n2 q4 fun s => ?_)
    · rw [ht, List.mem_append, List.mem_singleton, or_comm]
    · rw [hd, List.mem_cons]
theorem pureFnMap (a0 a1 : List Int) (h0 : ∃ n, WfE E (WfA E n) (.slice 5 (.int .u8)) a0) (h1 : ∃ n, WfE E (WfA E n) (.slice 5 (.int .u8)) a1) : ∃ N, laws_FnMap.m N a0 a1 = some true := by
  have w0 := wfBytes h0
  have w1 := wfBytes h1
  refine ⟨16777216, ?_⟩
  have hN : Big 16777216 := Nat.le_refl _
  generalize 16777216 = N at hN
  unfold laws_FnMap.m
  by_cases c0 : (a0.length : Int) > 1048576
  · rw [decide_eq_true c0]; rfl
  by_cases c1 : (a1.length : Int) > 1048576
  · rw [decide_eq_true c1, decide_eq_false c0]; rfl
  rw [decide_eq_false c0, decide_eq_false c1, cond_false, cond_false, cond_false]
  obtain ⟨ks, k1, k2, k3, k4, k5⟩ := keys5 hN a0 a1 (by omega) w0
  rw [k5]
  have hB := both18 hN a0 a1 (by omega) w1 ks k1 k2 k3 k4 ks.length 0 N eB eB [] [] (by omega) (by omega) (.inl ⟨rfl, rfl⟩) (fun l => by simp) (.inl ⟨rfl, rfl⟩) (fun l => by simp)
  rw [← hB]
  unfold laws_FnMap.lp18
  obtain ⟨M, hM⟩ : ∃ M, N = M + 1 := ⟨N - 1, by omega⟩
  have un : ∀ (g : (laws_FnMap.A18 → Option Bool) → (laws_FnMap.A18 → Option Bool)) (s), miter g N s = g (miter g M) s := by rw [hM]; intro g s; rfl
  rw [un, un]
  have hn : decide ((0 : Int) < (ks.length : Int)) = true := decide_eq_true (by omega)
  have hn' : decide (((0 : Nat) : Int) < (ks.length : Int)) = true := hn
  simp only [laws_FnMap.step18, hn, hn', cond_true]
  rfl
end Mir.Y
