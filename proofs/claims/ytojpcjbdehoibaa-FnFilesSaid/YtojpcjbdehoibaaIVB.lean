/- Pure laws: an act of a disk by both. -/
import Derived.Test.YtojpcjbdehoibaaIVA
namespace Mir.Y
set_option linter.unusedVariables false
set_option linter.unusedSimpArgs false
open Go
variable {L A M B : List File} {n : ByteArray}
def usedN (l : List File) : Nat := (l.map fun f => f.Data.size).sum
theorem usedN_app (a b : List File) : usedN (a ++ b) = usedN a + usedN b := by simp [usedN, List.sum_append]
theorem usedN_cons (f : File) (b : List File) : usedN (f :: b) = f.Data.size + usedN b := by simp [usedN]
def fN : List ByteArray := [(⟨#[108, 111, 103]⟩ : ByteArray), (⟨#[115, 116, 97, 116, 101]⟩ : ByteArray), (⟨#[116, 101, 109, 112]⟩ : ByteArray)]
structure DI (L : List File) : Prop where
  srt : Fs L
  nm : ∀ f ∈ L, f.Name ∈ fN
  sure : ∀ f ∈ L, (0 : Int) ≤ f.Sure ∧ f.Sure ≤ (f.Data.size : Int)
  used : usedN L ≤ 300
theorem nodup_le {α : Type} : ∀ {l m : List α}, l.Nodup → (∀ x ∈ l, x ∈ m) → l.length ≤ m.length
  | [], _, _, _ => Nat.zero_le _
  | x :: l, m, hn, h => by
    obtain ⟨h1, h2⟩ := List.nodup_cons.1 hn
    obtain ⟨a, b, rfl⟩ := List.append_of_mem (h x List.mem_cons_self)
    have := nodup_le (m := a ++ b) h2 fun y hy => by
      have hy' := h y (List.mem_cons_of_mem _ hy)
      rcases List.mem_append.1 hy' with k | k
      · exact List.mem_append_left _ k
      · rcases List.mem_cons.1 k with k | k
        · subst k; exact absurd hy h1
        · exact List.mem_append_right _ k
    simp only [List.length_append, List.length_cons] at *
    omega
theorem DI.len (h : DI L) : L.length ≤ 3 := by
  have := nodup_le (l := L.map File.Name) (m := fN) (List.pairwise_map.2 (h.srt.imp fun h => slt_ne h)) fun x hx => by
    obtain ⟨f, hf, rfl⟩ := List.mem_map.1 hx
    exact h.nm f hf
  simpa [fN] using this
theorem usedN_mem {f : File} (h : f ∈ L) : f.Data.size ≤ usedN L := by
  obtain ⟨a, b, rfl⟩ := List.append_of_mem h
  rw [usedN_app, usedN_cons]; omega
theorem Fp.used (p : Fp L n A M B) : usedN L = usedN A + usedN M + usedN B := by
  rw [p.eq, usedN_app, usedN_app]; omega
theorem DI.put (h : DI L) (p : Fp L n A M B) {f : File} (hf : f.Name = n) (hn : n ∈ fN) (hs : (0 : Int) ≤ f.Sure ∧ f.Sure ≤ (f.Data.size : Int)) (hu : usedN (A ++ f :: B) ≤ 300) : DI (A ++ f :: B) := by
  have sub : ∀ x ∈ A ++ f :: B, x = f ∨ x ∈ L := by
    intro x hx
    rw [p.eq]
    rcases List.mem_append.1 hx with hx | hx
    · exact .inr (List.mem_append_left _ hx)
    · rcases List.mem_cons.1 hx with hx | hx
      · exact .inl hx
      · exact .inr (List.mem_append_right _ (List.mem_append_right _ hx))
  refine ⟨h.srt.put p hf, fun x hx => ?_, fun x hx => ?_, hu⟩
  · rcases sub x hx with rfl | hx
    · rw [hf]; exact hn
    · exact h.nm x hx
  · rcases sub x hx with rfl | hx
    · exact hs
    · exact h.sure x hx
theorem DI.drop (h : DI L) (p : Fp L n A M B) : DI (A ++ B) := by
  have sub : ∀ x ∈ A ++ B, x ∈ L := by
    intro x hx
    rw [p.eq]
    rcases List.mem_append.1 hx with hx | hx
    · exact List.mem_append_left _ hx
    · exact List.mem_append_right _ (List.mem_append_right _ hx)
  refine ⟨h.srt.drop p, fun x hx => h.nm x (sub x hx), fun x hx => h.sure x (sub x hx), ?_⟩
  have := p.used
  have := h.used
  rw [usedN_app]; omega
/-! ### Names, sizes, copies -/
theorem nameI {N : Nat} (hN : Big N) : ∀ n ∈ fN, impl_NameOK.m N n = some true := by
  obtain ⟨K, rfl⟩ : ∃ K, N = K + 9 := ⟨N - 9, by omega⟩
  intro n hn
  simp only [fN, List.mem_cons, List.not_mem_nil, or_false] at hn
  rcases hn with rfl | rfl | rfl <;> (unfold impl_NameOK.m impl_NameOK.lp2; kernel_rfl)
theorem nameS {N : Nat} (hN : Big N) : ∀ n ∈ fN, spec_NameOK.m N n = some true := by
  obtain ⟨K, rfl⟩ : ∃ K, N = K + 9 := ⟨N - 9, by omega⟩
  intro n hn
  simp only [fN, List.mem_cons, List.not_mem_nil, or_false] at hn
  rcases hn with rfl | rfl | rfl <;> kernel_rfl
theorem used_take (L : List File) (i : Nat) (hi : i < L.length) : usedN (L.take (i + 1)) = usedN (L.take i) + L[i].Data.size := by
  have ht : L.take (i + 1) = L.take i ++ [L[i]] := by rw [List.take_add_one, List.getElem?_eq_getElem hi]; rfl
  rw [ht, usedN_app, usedN_cons]; simp [usedN]
theorem used_le (L : List File) (i : Nat) : usedN (L.take i) ≤ usedN L := by
  conv => rhs; rw [← List.take_append_drop i L, usedN_app]
  omega
theorem usedI {N : Nat} (hN : Big N) (R : Int) (h : usedN L ≤ 1000000) (hl : L.length ≤ 1000) : impl_Disk_used.m N (Disk.mk R L) = some (usedN L : Int) := by
  unfold impl_Disk_used.m impl_Disk_used.lp3
  exact miter_up (step := fun rec => impl_Disk_used.step3 N (Disk.mk R L) rec) (n := L.length) (st := fun i => ((usedN (L.take i) : Int), (L.length : Int), (i : Int))) (fun i hi rec => by
    have h1 := used_take L i hi
    have h2 := used_le L (i + 1)
    simp only [impl_Disk_used.step3, lt_dec hi, nn_dec, cond_true, Int.toNat_natCast, getD_at hi]
    rw [w_up i _ hi (by omega), w_small (by omega) (by omega)]
    congr 2
    omega) (fun rec => by simp [impl_Disk_used.step3]) L.length 0 N (by omega) (by omega)
theorem usedS {N : Nat} (hN : Big N) (R : Int) (h : usedN L ≤ 1000000) (hl : L.length ≤ 1000) : spec_l03Used.m N (Disk.mk R L) = some (usedN L : Int) := by
  unfold spec_l03Used.m spec_l03Used.lp3
  exact miter_up (step := fun rec => spec_l03Used.step3 N (Disk.mk R L) rec) (n := L.length) (st := fun i => ((usedN (L.take i) : Int), (i : Int))) (fun i hi rec => by
    have h1 := used_take L i hi
    have h2 := used_le L (i + 1)
    simp only [spec_l03Used.step3, lt_dec hi, nn_dec, cond_true, Int.toNat_natCast, getD_at hi]
    rw [w_up i _ hi (by omega), w_small (by omega) (by omega)]
    congr 2
    omega) (fun rec => by simp [spec_l03Used.step3]) L.length 0 N (by omega) (by omega)
theorem copyD {N : Nat} (d : Disk) (h : d.Files.length ≤ 1000) : impl_copyDisk.m N d = some d := by
  unfold impl_copyDisk.m slices_Clone_impl_File_impl_File.m
  rw [roomB (show ([] : List File).length + d.Files.length ≤ 1048576 by simp; omega) (by omega), cond_true, List.nil_append, amb_right fun h => by rw [List.isEmpty_iff.1 h]]
  rfl
theorem ownD {N : Nat} (d : Disk) (h : d.Files.length ≤ 1000) : spec_l03Own.m N d = some d := by
  unfold spec_l03Own.m
  rw [roomB (show ([] : List File).length + d.Files.length ≤ 1048576 by simp; omega) (by omega), cond_true, List.nil_append]
theorem insF {N : Nat} (p : Fp L n A [] B) (hl : L.length ≤ 1000) (f : File) : slices_Insert_impl_File.m N L (A.length : Int) [f] = some (A ++ f :: B) := by
  have hlen := p.len
  unfold slices_Insert_impl_File.m insM
  rw [nn_dec, decide_eq_true (show ((A.length : Nat) : Int) ≤ (L.length : Int) by omega), roomB (show L.length + 1 ≤ 1048576 by omega) (by omega)]
  show some (L.take A.length ++ ([f] ++ L.drop A.length)) = _
  rw [p.eq, List.take_left, List.drop_left]; rfl
theorem delF {N : Nat} {z : File} (p : Fp L n A [z] B) (hl : L.length ≤ 1000) : slices_Delete_impl_File.m N L (A.length : Int) (w64 ((A.length : Int) + 1)) = some (A ++ B) := by
  obtain ⟨h1, _⟩ := p.hit
  unfold slices_Delete_impl_File.m delM
  rw [w_up _ _ h1 (by omega), nn_dec, decide_eq_true (show ((A.length : Nat) : Int) < ((A.length + 1 : Nat) : Int) by omega), decide_eq_true (show ((A.length + 1 : Nat) : Int) ≤ (L.length : Int) by omega)]
  show some (L.take A.length ++ L.drop (A.length + 1)) = _
  rw [p.eq, List.take_left, ← List.drop_drop, List.drop_left]; simp
theorem withoutF {N : Nat} (R : Int) {z : File} (p : Fp L n A [z] B) (hl : L.length ≤ 1000) : spec_l03Without.m N (Disk.mk R L) (A.length : Int) = some (Disk.mk R (A ++ B)) := by
  obtain ⟨h1, _⟩ := p.hit
  have hlen := p.len
  have t1 : L.take A.length = A := by rw [p.eq, List.take_left]
  have t2 : L.drop (A.length + 1) = B := by rw [p.eq, ← List.drop_drop, List.drop_left]; simp
  unfold spec_l03Without.m
  simp only [w_up _ _ h1 (show L.length ≤ 1048576 by omega), nn_dec, cond_true, decide_eq_true (show ((A.length : Nat) : Int) ≤ ((L.length : Nat) : Int) by omega), decide_eq_true (show ((A.length + 1 : Nat) : Int) ≤ ((L.length : Nat) : Int) by omega), Int.toNat_natCast, t1, t2, List.nil_append]
  rw [roomB (show ([] : List File).length + A.length ≤ 1048576 by simp; omega) (by omega), roomB (show A.length + B.length ≤ 1048576 by omega) (by omega)]
  rfl
/-! ### Acts -/
def okAct (a : FileAct) : Prop := (a.Kind = 1 ∧ a.Name ∈ fN ∧ a.Data.size ≤ 20) ∨ (a.Kind = 2 ∧ a.Name ∈ fN) ∨ (a.Kind = 3 ∧ a.Name ∈ fN ∧ a.To ∈ fN) ∨ (a.Kind = 4 ∧ a.Name ∈ fN) ∨ (a.Kind = 6 ∧ a.Name ∈ fN ∧ 0 ≤ a.N ∧ a.N ≤ 1000) ∨ (a.Kind = 5 ∧ ∀ k ∈ a.Keep, -1000 ≤ k ∧ k ≤ 1000)
/-- What a file is behind a crash. -/
def keepN (f : File) (k : Option Int) : Int := match k with
  | some k => f.Sure + max 0 (min k ((f.Data.size : Int) - f.Sure))
  | none => f.Sure
def crF (f : File) (k : Option Int) : File := ⟨f.Name, f.Data.extract 0 (keepN f k).toNat, keepN f k⟩
def crL (keep : List Int) : List File → Nat → List File
  | [], _ => []
  | f :: r, i => crF f keep[i]? :: crL keep r (i + 1)
theorem crL_length (keep : List Int) : ∀ (l : List File) (i : Nat), (crL keep l i).length = l.length
  | [], _ => rfl
  | _ :: r, i => by simp [crL, crL_length keep r]
theorem crL_get (keep : List Int) : ∀ (l : List File) (i j : Nat) (h : j < l.length), (crL keep l i)[j]'(by rw [crL_length]; exact h) = crF l[j] keep[i + j]?
  | f :: r, i, 0, h => rfl
  | f :: r, i, j + 1, h => by
    simp only [crL, List.getElem_cons_succ]
    rw [crL_get keep r (i + 1) j (by simpa using h)]
    congr 2
    omega
theorem keepN_b (f : File) (k : Option Int) (h : (0 : Int) ≤ f.Sure ∧ f.Sure ≤ (f.Data.size : Int)) : f.Sure ≤ keepN f k ∧ keepN f k ≤ (f.Data.size : Int) := by
  cases k with
  | none => exact ⟨Int.le_refl _, h.2⟩
  | some k => unfold keepN; simp only []; omega
theorem crF_size (f : File) (k : Option Int) (h : (0 : Int) ≤ f.Sure ∧ f.Sure ≤ (f.Data.size : Int)) : ((crF f k).Data.size : Int) = keepN f k := by
  have := keepN_b f k h
  unfold crF
  simp only [ByteArray.size_extract]
  omega
theorem crash_state (keep : List Int) (L : List File) (i : Nat) (hi : i < L.length) : ((crL keep L 0).take i ++ L.drop i).set i (crF L[i] keep[i]?) = (crL keep L 0).take (i + 1) ++ L.drop (i + 1) := by
  have hl : (crL keep L 0).length = L.length := crL_length _ _ _
  have ht : (crL keep L 0).take (i + 1) = (crL keep L 0).take i ++ [crF L[i] keep[i]?] := by
    rw [List.take_add_one, List.getElem?_eq_getElem (by omega), crL_get keep L 0 i hi, Nat.zero_add]; rfl
  rw [ht, List.set_append_right _ _ (by rw [List.length_take]; omega), List.length_take, Nat.min_eq_left (by omega), Nat.sub_self]
  have e : (L.drop i).set 0 (crF L[i] keep[i]?) = crF L[i] keep[i]? :: L.drop (i + 1) := by rw [List.drop_eq_getElem_cons hi]; rfl
  rw [e, List.append_assoc]; rfl
theorem state_at (keep : List Int) (L : List File) (i : Nat) (hi : i < L.length) : ((crL keep L 0).take i ++ L.drop i).getD i File.dz = L[i] := by
  have hl : (crL keep L 0).length = L.length := crL_length _ _ _
  have h1 : i < ((crL keep L 0).take i ++ L.drop i).length := by rw [List.length_append, List.length_take, List.length_drop]; omega
  rw [getD_at h1, List.getElem_append_right (by rw [List.length_take]; omega)]
  simp only [List.length_take, List.getElem_drop]
  congr 1
  omega
theorem state_len (keep : List Int) (L : List File) (i : Nat) (hi : i ≤ L.length) : ((crL keep L 0).take i ++ L.drop i).length = L.length := by
  have hl : (crL keep L 0).length = L.length := crL_length _ _ _
  rw [List.length_append, List.length_take, List.length_drop]; omega
theorem setset {α : Type} (l : List α) (i : Nat) (x y : α) : (l.set i x).set i y = l.set i y := List.set_set ..
theorem crashI {N : Nat} (hN : Big N) (R : Int) (h : DI L) (keep : List Int) (hk : ∀ k ∈ keep, (-1000 : Int) ≤ k ∧ k ≤ 1000) : impl_Disk_crash.m N (Disk.mk R L) keep = some (Disk.mk R (crL keep L 0)) := by
  have hl := h.len
  unfold impl_Disk_crash.m impl_Disk_crash.lp1
  have := miter_up (step := fun rec => impl_Disk_crash.step1 N (Disk.mk R L) keep rec) (n := L.length) (st := fun i => ((L.length : Int), (i : Int), (crL keep L 0).take i ++ L.drop i)) (r := some (Disk.mk R (crL keep L 0))) (fun i hi rec => by
    have hs := h.sure _ (List.getElem_mem hi)
    have hz := usedN_mem (List.getElem_mem hi)
    have hu := h.used
    have hsl := state_len keep L i (by omega)
    have hsi : i < ((crL keep L 0).take i ++ L.drop i).length := by omega
    have hkb := keepN_b L[i] keep[i]? hs
    have hcs := crF_size L[i] keep[i]? hs
    have g1 : ∀ x : File, (((crL keep L 0).take i ++ L.drop i).set i x).getD i File.dz = x := fun x => by rw [List.getD_eq_getElem?_getD, List.getElem?_set_self hsi]; rfl
    have e0 : w64 (L[i].Sure + 0) = L[i].Sure := by rw [Int.add_zero]; exact w_small (by omega) (by omega)
    by_cases hik : i < keep.length
    · have hki := hk _ (List.getElem_mem hik)
      have eo : keep[i]? = some keep[i] := List.getElem?_eq_getElem hik
      have e1 : w64 ((L[i].Data.size : Int) - L[i].Sure) = (L[i].Data.size : Int) - L[i].Sure := w_small (by omega) (by omega)
      have e2 : w64 (L[i].Sure + (if (0:Int) < (if (L[i].Data.size : Int) - L[i].Sure < keep[i] then (L[i].Data.size : Int) - L[i].Sure else keep[i]) then (if (L[i].Data.size : Int) - L[i].Sure < keep[i] then (L[i].Data.size : Int) - L[i].Sure else keep[i]) else 0)) = keepN L[i] keep[i]? := by
        rw [eo]
        unfold keepN
        simp only []
        have : (if (0:Int) < (if (L[i].Data.size : Int) - L[i].Sure < keep[i] then (L[i].Data.size : Int) - L[i].Sure else keep[i]) then (if (L[i].Data.size : Int) - L[i].Sure < keep[i] then (L[i].Data.size : Int) - L[i].Sure else keep[i]) else 0) = max 0 (min keep[i] ((L[i].Data.size : Int) - L[i].Sure)) := by
          split <;> split at * <;> omega
        rw [this, w_small (by omega) (by omega)]
      simp only [impl_Disk_crash.step1, lt_dec hi, hsl, nn_dec, cond_true, Int.toNat_natCast, state_at keep L i hi, lt_dec hik, getD_at hik, e1, e2, decide_eq_true (show 0 ≤ keepN L[i] keep[i]? by omega), decide_eq_true hkb.2, g1, setset, w_up i _ hi (show L.length ≤ 1048576 by omega)]
      have ef : File.mk L[i].Name (L[i].Data.extract 0 (keepN L[i] keep[i]?).toNat) ((L[i].Data.extract 0 (keepN L[i] keep[i]?).toNat).size : Int) = crF L[i] keep[i]? := by
        have : ((L[i].Data.extract 0 (keepN L[i] keep[i]?).toNat).size : Int) = keepN L[i] keep[i]? := hcs
        rw [this]; rfl
      rw [ef, crash_state keep L i hi]
    · have eo : keep[i]? = none := List.getElem?_eq_none (by omega)
      have ek : keepN L[i] keep[i]? = L[i].Sure := by rw [eo]; rfl
      simp only [impl_Disk_crash.step1, lt_dec hi, hsl, nn_dec, cond_true, Int.toNat_natCast, state_at keep L i hi, decide_eq_false (show ¬ (i : Int) < (keep.length : Int) by omega), cond_false, e0, decide_eq_true hs.1, decide_eq_true hs.2, g1, setset, w_up i _ hi (show L.length ≤ 1048576 by omega)]
      have ef : File.mk L[i].Name (L[i].Data.extract 0 (L[i].Sure).toNat) ((L[i].Data.extract 0 (L[i].Sure).toNat).size : Int) = crF L[i] keep[i]? := by
        unfold crF
        rw [ek]
        congr 1
        rw [ByteArray.size_extract]; omega
      rw [ef, crash_state keep L i hi]) (fun rec => by
    simp only [impl_Disk_crash.step1, ge_dec, cond_false, List.drop_length, List.append_nil]
    rw [List.take_of_length_le (by rw [crL_length]; exact Nat.le_refl _)]) L.length 0 N (by omega) (by omega)
  simpa using this
theorem crashS {N : Nat} (hN : Big N) (R : Int) (h : DI L) (keep : List Int) (hk : ∀ k ∈ keep, (-1000 : Int) ≤ k ∧ k ≤ 1000) : spec_l03Crash.m N (Disk.mk R L) keep = some (Disk.mk R (crL keep L 0)) := by
  have hl := h.len
  unfold spec_l03Crash.m
  rw [ownD (Disk.mk R L) (show L.length ≤ 1000 by omega), ob_some]
  unfold spec_l03Crash.lp3
  have := miter_up (step := fun rec => spec_l03Crash.step3 N (Disk.mk R L) keep rec) (n := L.length) (st := fun i => ((i : Int), (0 : Int), R, (crL keep L 0).take i ++ L.drop i)) (r := some (Disk.mk R (crL keep L 0))) (fun i hi rec => by
    have hs := h.sure _ (List.getElem_mem hi)
    have hz := usedN_mem (List.getElem_mem hi)
    have hu := h.used
    have hsl := state_len keep L i (by omega)
    have hsi : i < ((crL keep L 0).take i ++ L.drop i).length := by omega
    have hkb := keepN_b L[i] keep[i]? hs
    have g1 : ∀ x : File, (((crL keep L 0).take i ++ L.drop i).set i x).getD i File.dz = x := fun x => by rw [List.getD_eq_getElem?_getD, List.getElem?_set_self hsi]; rfl
    by_cases hik : i < keep.length
    · have hki := hk _ (List.getElem_mem hik)
      have eo : keep[i]? = some keep[i] := List.getElem?_eq_getElem hik
      have e1 : w64 (L[i].Sure + (if keep[i] < 3000 then keep[i] else 3000)) = L[i].Sure + keep[i] := by
        rw [if_pos (show keep[i] < 3000 by omega)]; exact w_small (by omega) (by omega)
      have e2 : (if L[i].Sure < (if L[i].Sure + keep[i] < (L[i].Data.size : Int) then L[i].Sure + keep[i] else (L[i].Data.size : Int)) then (if L[i].Sure + keep[i] < (L[i].Data.size : Int) then L[i].Sure + keep[i] else (L[i].Data.size : Int)) else L[i].Sure) = keepN L[i] keep[i]? := by
        rw [eo]
        unfold keepN
        simp only []
        split <;> split at * <;> omega
      simp only [spec_l03Crash.step3, hsl, lt_dec hi, nn_dec, cond_true, Int.toNat_natCast, state_at keep L i hi, lt_dec hik, getD_at hik, e1, e2, decide_eq_true (show 0 ≤ keepN L[i] keep[i]? by omega), decide_eq_true hkb.2, g1, setset, w_up i _ hi (show L.length ≤ 1048576 by omega)]
      have ef : File.mk L[i].Name (L[i].Data.extract 0 (keepN L[i] keep[i]?).toNat) (keepN L[i] keep[i]?) = crF L[i] keep[i]? := rfl
      rw [ef, crash_state keep L i hi]
    · have eo : keep[i]? = none := List.getElem?_eq_none (by omega)
      have ek : keepN L[i] keep[i]? = L[i].Sure := by rw [eo]; rfl
      simp only [spec_l03Crash.step3, hsl, lt_dec hi, nn_dec, cond_true, Int.toNat_natCast, state_at keep L i hi, decide_eq_false (show ¬ (i : Int) < (keep.length : Int) by omega), cond_false, decide_eq_true hs.1, decide_eq_true hs.2, g1, setset, w_up i _ hi (show L.length ≤ 1048576 by omega)]
      have ef : File.mk L[i].Name (L[i].Data.extract 0 (L[i].Sure).toNat) L[i].Sure = crF L[i] keep[i]? := by
        unfold crF
        rw [ek]
      rw [ef, crash_state keep L i hi]) (fun rec => by
    have e : (crL keep L 0).take L.length ++ L.drop L.length = crL keep L 0 := by
      rw [List.drop_length, List.append_nil, List.take_of_length_le (by rw [crL_length]; exact Nat.le_refl _)]
    simp only [e]
    simp only [spec_l03Crash.step3, crL_length, ge_dec, cond_false]) L.length 0 N (by omega) (by omega)
  simpa using this
theorem crL_used (keep : List Int) : ∀ (l : List File) (i : Nat), (∀ f ∈ l, (0 : Int) ≤ f.Sure ∧ f.Sure ≤ (f.Data.size : Int)) → usedN (crL keep l i) ≤ usedN l
  | [], _, _ => Nat.le_refl _
  | f :: r, i, h => by
    have h1 := crL_used keep r (i + 1) fun x hx => h x (List.mem_cons_of_mem _ hx)
    have h2 := crF_size f keep[i]? (h f List.mem_cons_self)
    have h3 := keepN_b f keep[i]? (h f List.mem_cons_self)
    simp only [crL, usedN_cons]
    omega
theorem crL_mem (keep : List Int) : ∀ (l : List File) (i : Nat), ∀ x ∈ crL keep l i, ∃ f ∈ l, ∃ k, x = crF f k
  | f :: r, i, x, hx => by
    rcases List.mem_cons.1 hx with rfl | hx
    · exact ⟨f, List.mem_cons_self, _, rfl⟩
    · obtain ⟨g, h1, h2⟩ := crL_mem keep r (i + 1) x hx
      exact ⟨g, List.mem_cons_of_mem _ h1, h2⟩
theorem crL_srt (keep : List Int) : ∀ (l : List File) (i : Nat), Fs l → Fs (crL keep l i)
  | [], _, _ => List.Pairwise.nil
  | f :: r, i, h => by
    obtain ⟨h1, h2⟩ := List.pairwise_cons.1 h
    refine List.pairwise_cons.2 ⟨fun x hx => ?_, crL_srt keep r (i + 1) h2⟩
    obtain ⟨g, g1, k, rfl⟩ := crL_mem keep r (i + 1) x hx
    exact h1 g g1
theorem DI.crash (h : DI L) (keep : List Int) : DI (crL keep L 0) := by
  refine ⟨crL_srt keep L 0 h.srt, fun x hx => ?_, fun x hx => ?_, Nat.le_trans (crL_used keep L 0 h.sure) h.used⟩
  · obtain ⟨g, g1, k, rfl⟩ := crL_mem keep L 0 x hx
    exact h.nm g g1
  · obtain ⟨g, g1, k, rfl⟩ := crL_mem keep L 0 x hx
    have := crF_size g k (h.sure g g1)
    have h2 := keepN_b g k (h.sure g g1)
    have h3 := h.sure g g1
    rw [this]
    show (0 : Int) ≤ keepN g k ∧ keepN g k ≤ keepN g k
    omega
end Mir.Y
