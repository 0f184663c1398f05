/- The mirror machine: operations that turn no memory, 2. -/
import Derived.Test.YtbepkbaemapkjaaMir4
import Derived.Laws.StructEq
namespace Mir
set_option linter.unusedVariables false
set_option linter.unusedSimpArgs false
open Go
variable {E : Env} {P : Program} {T : Tb} {cx : Cx} {G : Gh} {S : St E} {a : Act} {W : World}

theorem Out_chk {α : Type} {H : Nat → Option (Blk E)} {c : Bool} {m : RM E α} {l : List Nat} {x : α} {l' : List Nat} (h : RM.Out H (.chk c m) l x l') : c = true ∧ RM.Out H m l x l' := h
theorem indexAddr_sound (hT : T.OK P) (hS : Sim cx G S a.tmps W) {t : TypeId} {x i : Operand} {l l' : List Nat} {r : Res E} (h : RM.Out S.h (aIndexAddr T t (evO (lk S.ρ) x) (evO (lk S.ρ) i)) l r l') : Ends P cx G S a W (Instr.indexAt t (a.eval x) (a.eval i)) r := by
  unfold aIndexAddr at h
  split at h
  rotate_left
  · exact h.elim
  rename_i k n hi
  have hi := ev_sound hS hi
  simp only [AVR, CvR, AtR] at hi
  rw [hi]
  split at h
  · rename_i e hu
    have hu := hT.und _ _ hu
    split at h
    · rename_i id hx
      have hx := ev_sound hS hx
      obtain ⟨b, hb, h⟩ := h
      have hB := hS.blks id b hb
      dsimp only at h
      split at h
      · rename_i e' ty xs fz
        have hb' := RM.Out_bif h; clear h; obtain ⟨hsz, h⟩ := hb'
        obtain ⟨h0, h1, h⟩ := h
        simp only [decide_eq_true_eq] at h0 h1
        rw [one_sound h]
        obtain ⟨b1, b2, b3, hrow⟩ := hB
        rw [hx.2.1]
        rcases hrow with ⟨A, hA, hnil⟩ | ⟨cap, cur, d, hhd, hcap, hh, hlen, hmax, hcur, hel⟩
        · subst hnil; simp at h1; omega
        · rw [hhd]
          refine Ends.pure hS (w := .pointer (some ((⟨G.loc id, 0, none⟩ : Addr).add (n.toNat * tsz E ty)))) ?_ ⟨hx.1, by rw [b1]; omega, by rw [add_lit, b2, Nat.zero_add, Nat.add_zero]⟩
          have hc : (0 ≤ n ∧ n < (xs.length : Int)) := ⟨h0, h1⟩
          simp [Instr.indexAt, asIntOf, run_underlying hu, hc, sizeIs_some hT hsz]
      · exact h.elim
    · rename_i id off len hx
      have hx := ev_sound hS hx
      obtain ⟨b, hb, h⟩ := h
      have hB := hS.blks id b hb
      dsimp only at h
      split at h
      · rename_i e' ty xs fz
        have hb' := RM.Out_bif h; clear h; obtain ⟨hsz, h⟩ := hb'
        obtain ⟨h0, h1, h⟩ := h
        simp only [decide_eq_true_eq] at h0 h1
        rw [one_sound h]
        obtain ⟨b1, b2, b3, hrow⟩ := hB
        obtain ⟨hk, hlen, A, c, hv, hlc, hA⟩ := hx
        have hA := (hA (by omega)).1
        subst hA
        rw [hv]
        refine Ends.pure hS (w := .pointer (some ((⟨G.loc id, off * G.sz id, none⟩ : Addr).add (n.toNat * tsz E ty)))) ?_ ⟨hk, by omega, by rw [add_lit, b2, ← Nat.add_mul, Nat.add_zero]⟩
        have hc : (0 ≤ n ∧ n < (len : Int)) := ⟨h0, h1⟩
        simp [Instr.indexAt, asIntOf, run_underlying hu, hc, sizeIs_some hT hsz]
      · exact h.elim
    · rename_i e' ty xs hx
      have hx := ev_sound hS hx
      have hb' := RM.Out_bif h; clear h; obtain ⟨hsz, h⟩ := hb'
      obtain ⟨h0, h1, h⟩ := h
      simp only [decide_eq_true_eq] at h0 h1
      rw [one_sound h]
      obtain ⟨d, hd⟩ := hx
      cases d with
      | zero => exact hd.elim
      | succ d =>
        obtain ⟨A, c, hv, hlc, hr⟩ := hd
        obtain ⟨ad, rfl, hF, hel⟩ := hr (by omega)
        rw [hv]
        have hi' : n.toNat < xs.length := by omega
        obtain ⟨vs, hvs, hcell⟩ := hel n.toNat hi'
        refine Ends.pure hS (w := .pointer (some (ad.add (n.toNat * tsz E ty)))) ?_ ⟨_, vs, rfl, ?_, fun _ => ?_, fun j hj => ?_⟩
        · have hc : (0 ≤ n ∧ n < (xs.length : Int)) := ⟨h0, h1⟩
          simp [Instr.indexAt, asIntOf, run_underlying hu, hc, sizeIs_some hT hsz]
        · rw [el_get hi']; exact toCv_cells (fun _ h => h) hvs
        · have : (ad.add (n.toNat * tsz E ty)).block = ad.block := by unfold Addr.add; split <;> rfl
          rw [this]; exact hF
        · rw [add_add]; exact hcell j hj
    · exact h.elim
  · rename_i len e hu
    have hu := hT.und _ _ hu
    split at h
    · rename_i id hx
      have hx := ev_sound hS hx
      obtain ⟨b, hb, h⟩ := h
      have hB := hS.blks id b hb
      dsimp only at h
      split at h
      · rename_i t' k' m xs
        have hb' := RM.Out_bif h; clear h; obtain ⟨hc, h⟩ := hb'
        simp only [Bool.and_eq_true] at hc
        obtain rfl := Nat.eq_of_beq_eq_true hc.1.2
        obtain ⟨h0, h1, h⟩ := h
        simp only [decide_eq_true_eq] at h0 h1
        rw [one_sound h]
        obtain ⟨b1, b2, b3, hh⟩ := hB
        rw [hx.2]
        refine Ends.pure hS (w := .pointer (some ((⟨G.loc id, 0, none⟩ : Addr).add (n.toNat * 1)))) ?_ ⟨hx.1, by omega, by rw [add_lit, b3, Nat.zero_add, Nat.add_zero]⟩
        have hcc : (0 ≤ n ∧ n < (len : Int)) := ⟨h0, h1⟩
        simp [Instr.indexAt, asIntOf, run_underlying hu, hcc, (cellIs_some hT hc.2 _).1, Instr.sureAddr]
      · exact h.elim
    · exact h.elim
  · exact h.elim

theorem index_sound (hT : T.OK P) (hS : Sim cx G S a.tmps W) {t : TypeId} {x i : Operand} {l l' : List Nat} {r : Res E} (h : RM.Out S.h (aIndex T t (evO (lk S.ρ) x) (evO (lk S.ρ) i)) l r l') : Ends P cx G S a W (Instr.index t (a.eval x) (a.eval i)) r := by
  unfold aIndex at h
  split at h
  rotate_left
  · exact h.elim
  rename_i k n hi
  have hi := ev_sound hS hi
  simp only [AVR, CvR, AtR] at hi
  rw [hi]
  split at h
  · rename_i hu
    have hu := hT.und _ _ hu
    split at h
    · rename_i s hx
      have hx := ev_sound hS hx
      simp only [AVR, CvR, AtR] at hx
      obtain ⟨h0, h1, h⟩ := h
      simp only [decide_eq_true_eq] at h0 h1
      rw [one_sound h, hx]
      refine Ends.pure hS (w := .int .u8 (sb s n)) ?_ rfl
      have hlt : n.toNat < s.size := by omega
      have hg : s[n.toNat]? = some s[n.toNat] := by simp [hlt]
      have hs : (s[n.toNat].toNat : Int) = sb s n := by
        unfold sb
        have : n.toNat < s.data.toList.length := by simpa using hlt
        simp [List.getD_eq_getElem?_getD, List.getElem?_eq_getElem this]
        rfl
      simp [Instr.index, asIntOf, run_underlying hu, h0, hg, ← hs]
    · exact h.elim
  · rename_i len e hu
    have hu := hT.und _ _ hu
    split at h
    · rename_i k' m xs hx
      have hx := ev_sound hS hx
      have hb' := RM.Out_bif h; clear h; obtain ⟨hc, h⟩ := hb'
      simp only [Bool.and_eq_true] at hc
      obtain rfl := Nat.eq_of_beq_eq_true hc.1
      obtain ⟨h0, h1, h⟩ := h
      simp only [decide_eq_true_eq] at h0 h1
      rw [one_sound h]
      obtain ⟨hl, hv⟩ := hx
      rw [hv]
      have hlt : n.toNat < xs.length := by omega
      refine Ends.pure hS (w := .int k' (xs.getD n.toNat 0)) ?_ rfl
      have hcc : (0 ≤ n ∧ n < (len : Int)) := ⟨h0, h1⟩
      simp [Instr.index, asIntOf, run_underlying hu, hcc, (cellIs_some hT hc.2 _).1, part, (cellIs_some hT hc.2 _).2, hlt]
    · exact h.elim
  · exact h.elim

/-- A bound of a slice expression, as the model asks it. -/
theorem bnd_sound (hS : Sim cx G S a.tmps W) {x : Option Operand} {m : Int} {d : Nat} {k : Nat → RM E (Res E)} {l l' : List Nat} {r : Res E} (h : RM.Out S.h (bnd (x.map (evO (lk S.ρ))) m d k) l r l') :
    ∃ n, RM.Out S.h (k n) l r l' ∧ ((x = none ∧ n = d) ∨ (∃ o ik i, x = some o ∧ a.eval o = .int ik i ∧ 0 ≤ i ∧ i ≤ m ∧ n = i.toNat)) := by
  unfold bnd at h
  split at h
  · rename_i hx
    cases x with
    | none => exact ⟨d, h, .inl ⟨rfl, rfl⟩⟩
    | some o => cases hx
  · rename_i k' i hx
    cases x with
    | none => cases hx
    | some o =>
      simp only [Option.map_some, Option.some.injEq] at hx
      have hx := ev_sound hS hx
      obtain ⟨h0, h1, h⟩ := h
      simp only [decide_eq_true_eq] at h0 h1
      exact ⟨i.toNat, h, .inr ⟨o, _, i, rfl, hx, h0, h1, rfl⟩⟩
  · exact h.elim
theorem run_sliceBound {P : Program} {W : World} {ik : IntKind} {i : Int} {y : Nat} {c : BoundsCode} (h0 : 0 ≤ i) (h1 : i ≤ y) : (Instr.sliceBound (.int ik i) y c).run P W = .ok i.toNat W := by
  have hc : (0 ≤ i ∧ i ≤ (y : Int)) := ⟨h0, h1⟩
  simp [Instr.sliceBound, asIntOf, hc]
/-- Both bounds; the greatest is the capacity. -/
theorem run_sliceBounds {P : Program} {W : World} (isSlice : Bool) {len cap hn ln : Nat} {lo hi : Option Operand} (hlc : len ≤ cap)
    (hh : (hi = none ∧ hn = len) ∨ (∃ o ik i, hi = some o ∧ a.eval o = .int ik i ∧ 0 ≤ i ∧ i ≤ (len : Int) ∧ hn = i.toNat))
    (hl : (lo = none ∧ ln = 0) ∨ (∃ o ik i, lo = some o ∧ a.eval o = .int ik i ∧ 0 ≤ i ∧ i ≤ (hn : Int) ∧ ln = i.toNat)) :
    (Instr.sliceBounds isSlice len cap (lo.map a.eval) (hi.map a.eval) none).run P W = .ok (ln, hn, cap) W ∧ ln ≤ hn ∧ hn ≤ len := by
  rcases hh with ⟨rfl, rfl⟩ | ⟨o, ik, i, rfl, ho, h0, h1, rfl⟩ <;> rcases hl with ⟨rfl, rfl⟩ | ⟨o', ik', i', rfl, ho', h0', h1', rfl⟩
  · exact ⟨by simp [Instr.sliceBounds], by omega, by omega⟩
  · exact ⟨by simp [Instr.sliceBounds, ho', run_sliceBound h0' h1'], by omega, by omega⟩
  · exact ⟨by simp [Instr.sliceBounds, ho, run_sliceBound (y := cap) h0 (by omega)], by omega, by omega⟩
  · exact ⟨by simp [Instr.sliceBounds, ho, ho', run_sliceBound (y := cap) h0 (by omega), run_sliceBound h0' h1'], by omega, by omega⟩
theorem ro_cut {W : World} {F : Nat → Prop} {d : Nat} {e : Nat} {t : Ty} {xs : List (Ty.D E.S t)} {A : Option Addr} {c : Nat} (h : RoA E W F (d + 1) (.slice e t) xs (.slice A xs.length c)) {lo hi m : Nat} (hlo : lo ≤ hi) (hhi : hi ≤ xs.length) (hm : hi ≤ m) {ys : List (Ty.D E.S t)} (hy : ys = (xs.take hi).drop lo) :
    RoA E W F (d + 1) (.slice e t) ys (.slice (if m = lo then A else A.map (·.add (lo * tsz E t))) (hi - lo) (m - lo)) := by
  obtain ⟨A', c', hv, hc, h⟩ := h
  cases hv
  subst hy
  have hl : ((xs.take hi).drop lo).length = hi - lo := by simp; omega
  refine ⟨_, _, by rw [hl], by omega, fun h0 => ?_⟩
  rw [hl] at h0
  obtain ⟨ad, rfl, hF, hel⟩ := h (by omega)
  refine ⟨ad.add (lo * tsz E t), by rw [if_neg (by omega)]; rfl, ?_, fun i hi' => ?_⟩
  · have : (ad.add (lo * tsz E t)).block = ad.block := by unfold Addr.add; split <;> rfl
    rw [this]; exact hF
  · rw [hl] at hi'
    obtain ⟨vs, hr, hcell⟩ := hel (lo + i) (by omega)
    refine ⟨vs, by simpa using hr, fun j hj => ?_⟩
    rw [add_add, ← Nat.add_assoc, ← Nat.add_mul]
    exact hcell j hj
theorem slice_sound (hT : T.OK P) (hS : Sim cx G S a.tmps W) {t : TypeId} {x : Operand} {lo hi mx : Option Operand} {l l' : List Nat} {r : Res E}
    (h : RM.Out S.h (aSlice T t (evO (lk S.ρ) x) (lo.map (evO (lk S.ρ))) (hi.map (evO (lk S.ρ))) (mx.map (evO (lk S.ρ)))) l r l') : Ends P cx G S a W (Instr.sliceAt t (a.eval x) (lo.map a.eval) (hi.map a.eval) (mx.map a.eval)) r := by
  unfold aSlice at h
  split at h
  · rename_i hmx
    cases mx with
    | some o => cases hmx
    | none =>
    clear hmx
    split at h
    · rename_i hu
      have hu := hT.und _ _ hu
      split at h
      · rename_i s hx
        have hx := ev_sound hS hx
        simp only [AVR, CvR, AtR] at hx
        obtain ⟨hn, h, hh⟩ := bnd_sound hS h
        obtain ⟨ln, h, hl⟩ := bnd_sound hS h
        obtain ⟨hrun, hle, hle'⟩ := run_sliceBounds (P := P) (W := W) false (Nat.le_refl s.size) hh hl
        rw [one_sound h, hx]
        refine Ends.pure hS (w := .string (s.extract ln hn)) ?_ rfl
        simp [Instr.sliceAt, run_underlying hu, Instr.slice, hrun]
      · exact h.elim
    · rename_i e hu
      have hu := hT.und _ _ hu
      have run (len cap ln hn : Nat) (A : Option Addr) (sz : Nat) (hsz : (Go.sizeOf e).run P W = .ok sz W) (hrun : (Instr.sliceBounds true len cap (lo.map a.eval) (hi.map a.eval) none).run P W = .ok (ln, hn, cap) W) :
          (Instr.sliceAt t (.slice A len cap) (lo.map a.eval) (hi.map a.eval) (Option.map a.eval none)).run P W = .ok (.slice (if cap = ln then A else A.map (·.add (ln * sz))) (hn - ln) (cap - ln)) W := by
        simp [Instr.sliceAt, run_underlying hu, Instr.slice, hrun, hsz]
      split at h
      · rename_i id hx
        have hx := ev_sound hS hx
        obtain ⟨b, hb, h⟩ := h
        have hB := hS.blks id b hb
        dsimp only at h
        split at h
        · rename_i e' ty xs fz
          have hb' := RM.Out_bif h; clear h; obtain ⟨hsz, h⟩ := hb'
          obtain ⟨hn, h, hh⟩ := bnd_sound hS h
          obtain ⟨ln, h, hl⟩ := bnd_sound hS h
          obtain ⟨b1, b2, b3, hrow⟩ := hB
          rw [one_sound h, hx.2.1]
          rcases hrow with ⟨A, hA, hnil⟩ | ⟨cap, cur, d, hhd, hcap, hheap, hlen, hmax, hcur, hel⟩
          · subst hnil
            obtain ⟨hrun, hle, hle'⟩ := run_sliceBounds (P := P) (W := W) true (Nat.le_refl 0) hh hl
            rw [hA]
            refine Ends.pure hS (run 0 0 ln hn A _ (sizeIs_some hT hsz W) hrun) ⟨hx.1, by simp at hle'; rw [b1]; simp; omega, _, _, rfl, by omega, fun h0 => by omega⟩
          · obtain ⟨hrun, hle, hle'⟩ := run_sliceBounds (P := P) (W := W) true hlen hh hl
            rw [hhd]
            refine Ends.pure hS (run _ cap ln hn _ _ (sizeIs_some hT hsz W) hrun) ⟨hx.1, by rw [b1]; omega, _, _, rfl, by omega, fun h0 => ?_⟩
            rw [if_neg (by omega), b2, hhd]
            exact ⟨by simp [add_lit], by simp only [capOf]; omega⟩
        · exact h.elim
      · rename_i id off len hx
        have hx := ev_sound hS hx
        obtain ⟨b, hb, h⟩ := h
        have hB := hS.blks id b hb
        dsimp only at h
        split at h
        · rename_i e' ty xs fz
          have hb' := RM.Out_bif h; clear h; obtain ⟨hsz, h⟩ := hb'
          obtain ⟨hn, h, hh⟩ := bnd_sound hS h
          obtain ⟨ln, h, hl⟩ := bnd_sound hS h
          obtain ⟨b1, b2, b3, hrow⟩ := hB
          obtain ⟨hk, hol, A, c, hv, hlc, hA⟩ := hx
          obtain ⟨hrun, hle, hle'⟩ := run_sliceBounds (P := P) (W := W) true hlc hh hl
          rw [one_sound h, hv]
          refine Ends.pure hS (run _ c ln hn _ _ (sizeIs_some hT hsz W) hrun) ⟨hk, by omega, _, _, rfl, by omega, fun h0 => ?_⟩
          have hA := hA (by omega)
          rw [if_neg (by omega), hA.1, b2]
          exact ⟨by simp [add_lit, Nat.add_mul], by omega⟩
        · exact h.elim
      · rename_i e' ty xs hx
        have hx := ev_sound hS hx
        have hb' := RM.Out_bif h; clear h; obtain ⟨hsz, h⟩ := hb'
        obtain ⟨d, hd⟩ := hx
        cases d with
        | zero => exact hd.elim
        | succ d =>
          have hd' := hd
          obtain ⟨A, c, hv, hlc, _⟩ := hd'
          rw [hv]
          rw [hv] at hd
          have fin : ∀ (hn ln : Nat) (ys : List (Ty.D E.S ty)), ((hi = none ∧ hn = xs.length) ∨ (∃ o ik i, hi = some o ∧ a.eval o = .int ik i ∧ 0 ≤ i ∧ i ≤ (xs.length : Int) ∧ hn = i.toNat)) →
              ((lo = none ∧ ln = 0) ∨ (∃ o ik i, lo = some o ∧ a.eval o = .int ik i ∧ 0 ≤ i ∧ i ≤ (hn : Int) ∧ ln = i.toNat)) → ys = (xs.take hn).drop ln →
              Ends P cx G S a W (Instr.sliceAt t (.slice A xs.length c) (lo.map a.eval) (hi.map a.eval) (Option.map a.eval none)) (.a (.ro e' ty ys), []) := by
            intro hn ln ys hh hl hy
            obtain ⟨hrun, hle, hle'⟩ := run_sliceBounds (P := P) (W := W) true hlc hh hl
            exact Ends.pure hS (run _ c ln hn _ _ (sizeIs_some hT hsz W) hrun) ⟨d + 1, ro_cut hd hle hle' (by omega) hy⟩
          split at h
          · rename_i hhi
            have hhi : hi = none := by cases hi <;> simp_all
            obtain ⟨ln, h, hl⟩ := bnd_sound hS h
            rw [one_sound h]
            exact fin xs.length ln _ (.inl ⟨hhi, rfl⟩) hl (by simp)
          · obtain ⟨hn, h, hh⟩ := bnd_sound hS h
            split at h
            · rename_i hlo
              have hlo : lo = none := by cases lo <;> simp_all
              rw [one_sound h]
              exact fin hn 0 _ hh (.inl ⟨hlo, rfl⟩) (by simp)
            · obtain ⟨ln, h, hl⟩ := bnd_sound hS h
              rw [one_sound h]
              exact fin hn ln _ hh hl rfl
      · exact h.elim
    · exact h.elim
  · rename_i ik hmx
    cases mx with
    | none => cases hmx
    | some om =>
    simp only [Option.map_some, Option.some.injEq] at hmx
    have hm := ev_sound hS hmx
    simp only [AVR, CvR, AtR] at hm
    split at h
    · rename_i e ik' hu hlo hhi
      have hu := hT.und _ _ hu
      have hlo : lo = none := by cases lo <;> simp_all
      cases hi with
      | none => cases hhi
      | some oh =>
      simp only [Option.map_some, Option.some.injEq] at hhi
      have hh := ev_sound hS hhi
      simp only [AVR, CvR, AtR] at hh
      subst hlo
      have hb' := RM.Out_bif h; clear h; obtain ⟨hsz, h⟩ := hb'
      obtain ⟨sz, hsz⟩ := Option.isSome_iff_exists.1 hsz
      have run (A : Option Addr) (len cap : Nat) : (Instr.sliceAt t (.slice A len cap) (Option.map a.eval none) (Option.map a.eval (some oh)) (Option.map a.eval (some om))).run P W = .ok (.slice A 0 0) W := by
        have h1 := run_sliceBound (P := P) (W := W) (ik := ik) (i := 0) (y := cap) (c := .slice3Acap) (by omega) (by omega)
        have h2 := run_sliceBound (P := P) (W := W) (ik := ik') (i := 0) (y := 0) (c := .slice3B) (by omega) (by omega)
        simp only [Int.toNat_zero] at h1 h2
        simp [Instr.sliceAt, run_underlying hu, Instr.slice, Instr.sliceBounds, hm, hh, h1, h2, size_some hT hsz]
      split at h
      · rename_i id hx
        have hx := ev_sound hS hx
        obtain ⟨b, hb, h⟩ := h
        have hB := hS.blks id b hb
        dsimp only at h
        split at h
        · obtain ⟨_, _, _, hrow⟩ := hB
          have hv : ∃ A len cap, G.hd id = .slice A len cap := by
            rcases hrow with ⟨A, hA, _⟩ | ⟨cap, cur, d, hhd, _⟩
            · exact ⟨_, _, _, hA⟩
            · exact ⟨_, _, _, hhd⟩
          rw [one_sound h, hx.2.1]
          obtain ⟨A, len, cap, hv⟩ := hv
          rw [hv]
          exact Ends.pure hS (run _ _ _) ⟨A, rfl⟩
        · exact h.elim
      · rename_i hx
        have hx := ev_sound hS hx
        obtain ⟨_, _, A, c, hv, _⟩ := hx
        rw [one_sound h, hv]
        exact Ends.pure hS (run _ _ _) ⟨A, rfl⟩
      · rename_i hx
        have hx := ev_sound hS hx
        obtain ⟨d, hd⟩ := hx
        cases d with
        | zero => exact hd.elim
        | succ d =>
          obtain ⟨A, c, hv, _⟩ := hd
          rw [one_sound h, hv]
          exact Ends.pure hS (run _ _ _) ⟨A, rfl⟩
      · rename_i hx
        have hx := ev_sound hS hx
        obtain ⟨A, hv⟩ := hx
        rw [one_sound h, hv]
        exact Ends.pure hS (run _ _ _) ⟨A, rfl⟩
      · exact h.elim
    · exact h.elim
  · exact h.elim

theorem len_sound (hT : T.OK P) (hS : Sim cx G S a.tmps W) {t ty : TypeId} {x : Operand} {l l' : List Nat} {r : Res E} (h : RM.Out S.h (aLen T t (evO (lk S.ρ) x)) l r l') : Ends P cx G S a W (Builtin.len_ #[t] ty #[a.eval x]) r := by
  unfold aLen at h
  split at h
  · rename_i hu
    have hu := hT.und _ _ hu
    split at h
    · rename_i s hx
      have hx := ev_sound hS hx
      simp only [AVR, CvR, AtR] at hx
      rw [one_sound h, hx]
      exact Ends.pure hS (w := .int .i64 s.size) (by simp [Builtin.len_, run_underlying hu, goInt]) rfl
    · exact h.elim
  · rename_i e hu
    have hu := hT.und _ _ hu
    have run (A : Option Addr) (n c : Nat) : (Builtin.len_ #[t] ty #[.slice A n c]).run P W = .ok (.int .i64 (n : Int)) W := by simp [Builtin.len_, run_underlying hu, goInt]
    split at h
    · rename_i id hx
      have hx := ev_sound hS hx
      obtain ⟨b, hb, h⟩ := h
      have hB := hS.blks id b hb
      dsimp only at h
      split at h
      · rename_i e' ty' xs fz
        obtain ⟨b1, b2, b3, hrow⟩ := hB
        rw [one_sound h, hx.2.1]
        rcases hrow with ⟨A, hA, hnil⟩ | ⟨cap, cur, d, hhd, _⟩
        · subst hnil
          rw [hA]
          exact Ends.pure hS (run _ _ _) rfl
        · rw [hhd]
          exact Ends.pure hS (run _ _ _) rfl
      · exact h.elim
    · rename_i hx
      have hx := ev_sound hS hx
      obtain ⟨_, _, A, c, hv, _⟩ := hx
      rw [one_sound h, hv]
      exact Ends.pure hS (run _ _ _) rfl
    · rename_i hx
      have hx := ev_sound hS hx
      obtain ⟨d, hd⟩ := hx
      cases d with
      | zero => exact hd.elim
      | succ d =>
        obtain ⟨A, c, hv, _⟩ := hd
        rw [one_sound h, hv]
        exact Ends.pure hS (run _ _ _) rfl
    · rename_i hx
      have hx := ev_sound hS hx
      obtain ⟨A, hv⟩ := hx
      rw [one_sound h, hv]
      exact Ends.pure hS (run _ _ _) rfl
    · exact h.elim
  · exact h.elim
theorem minmax_sound (hS : Sim cx G S a.tmps W) {mx : Bool} {ts : Array TypeId} {ty : TypeId} {x y : Operand} {l l' : List Nat} {r : Res E} (h : RM.Out S.h (aMinMax mx (evO (lk S.ρ) x) (evO (lk S.ρ) y)) l r l') :
    Ends P cx G S a W (if mx then Builtin.max_ ts ty #[a.eval x, a.eval y] else Builtin.min_ ts ty #[a.eval x, a.eval y]) r := by
  unfold aMinMax at h
  split at h
  · rename_i k p k' q hx hy
    have hb' := RM.Out_bif h; clear h; obtain ⟨hk, h⟩ := hb'
    obtain rfl := ikEq_eq hk
    have hx := ev_sound hS hx
    have hy := ev_sound hS hy
    simp only [AVR, CvR, AtR] at hx hy
    rw [one_sound h, hx, hy]
    cases mx with
    | true => exact Ends.pure hS (w := .int k (if p < q then q else p)) (by simp [Builtin.max_, Builtin.max2]) (by simp [AVR, CvR, AtR])
    | false => exact Ends.pure hS (w := .int k (if q < p then q else p)) (by simp [Builtin.min_, Builtin.min2]) (by simp [AVR, CvR, AtR])
  · exact h.elim
theorem iop_sound {op : BinOp} {k : IntKind} {p q : Int} {v : AV E} (h : iop op k p q = some v) {t : TypeId} :
    ∃ w, (∀ W, (binOp op t (.int k p) (.int k q)).run P W = .ok w W) ∧ (∀ G K W, AVR (E := E) G K W v w) ∧ (op ≠ .shl ∧ op ≠ .shr ∧ op ≠ .quo ∧ op ≠ .rem) := by
  cases op <;> simp only [iop, Option.some.injEq, reduceCtorEq] at h <;> subst h <;>
    exact ⟨_, fun W => by simp [binOp, Op.intArith, Op.intBits, Op.intCmp, ibit]; rfl, fun G K W => by simp [AVR, CvR, AtR, ibit], by simp⟩
theorem sop_sound {op : BinOp} {p q : ByteArray} {v : AV E} (h : sop op p q = some v) {t : TypeId} :
    ∃ w, (∀ W, (binOp op t (.string p) (.string q)).run P W = .ok w W) ∧ (∀ G K W, AVR (E := E) G K W v w) := by
  cases op <;> simp only [sop, Option.some.injEq, reduceCtorEq] at h <;> subst h <;>
    exact ⟨_, fun W => by simp [binOp, Op.stringOp]; rfl, fun G K W => by simp [AVR, CvR, AtR, seq, slt]⟩
theorem eqGuard_run {op : BinOp} {t : TypeId} {x y : Operand} {p q : Value} {W : World} (h : (∀ k n, p ≠ .int k n → True) ∧ ((∃ k n, p = .int k n) ∨ (∃ s, p = .string s) ∨ (∃ b, p = .bool b))) : (eqGuard op t x y p q).run P W = .ok () W := by
  obtain ⟨_, h⟩ := h
  rcases h with ⟨k, n, rfl⟩ | ⟨s, rfl⟩ | ⟨b, rfl⟩ <;> cases op <;> simp [eqGuard]
theorem bin_sound (hT : T.OK P) (hS : Sim cx G S a.tmps W) {op : BinOp} {t : TypeId} {x y : Operand} {l l' : List Nat} {r : Res E} (h : RM.Out S.h (aBin T op t (evO (lk S.ρ) x) (evO (lk S.ρ) y)) l r l') :
    Ends P cx G S a W (do eqGuard op t x y (a.eval x) (a.eval y); binOp op t (a.eval x) (a.eval y)) r := by
  unfold aBin at h
  split at h
  · rename_i k p k' q hx hy
    have hx := ev_sound hS hx
    have hy := ev_sound hS hy
    simp only [AVR, CvR, AtR] at hx hy
    rw [hx, hy]
    have hg : ∀ op : BinOp, (eqGuard op t x y (.int k p) (.int k' q)).run P W = .ok () W := fun op => eqGuard_run ⟨fun _ _ _ => trivial, .inl ⟨_, _, rfl⟩⟩
    split at h
    · obtain ⟨h0, h⟩ := h
      rw [one_sound h]
      have h0 : ¬ q < 0 := by simpa using h0
      exact Ends.pure hS (w := .int k (k.wrap (p * 2 ^ (min q.toNat k.bits)))) (by simp [hg, binOp, Op.shift, h0]) rfl
    · obtain ⟨h0, h⟩ := h
      rw [one_sound h]
      have h0 : ¬ q < 0 := by simpa using h0
      exact Ends.pure hS (w := .int k (p.fdiv (2 ^ (min q.toNat k.bits)))) (by simp [hg, binOp, Op.shift, h0]) rfl
    · have hb' := RM.Out_bif h; clear h; obtain ⟨hk, h⟩ := hb'
      obtain rfl := ikEq_eq hk
      obtain ⟨h0, h⟩ := h
      rw [one_sound h]
      have h0 : ¬ q = 0 := by simpa using h0
      exact Ends.pure hS (w := .int k (k.wrap (p.tdiv q))) (by simp [hg, binOp, Op.intDiv, h0]) rfl
    · have hb' := RM.Out_bif h; clear h; obtain ⟨hk, h⟩ := hb'
      obtain rfl := ikEq_eq hk
      obtain ⟨h0, h⟩ := h
      rw [one_sound h]
      have h0 : ¬ q = 0 := by simpa using h0
      exact Ends.pure hS (w := .int k (p.tmod q)) (by simp [hg, binOp, Op.intDiv, h0]) rfl
    · have hb' := RM.Out_bif h; clear h; obtain ⟨hk, h⟩ := hb'
      obtain rfl := ikEq_eq hk
      obtain ⟨v, hv, rfl⟩ := oneO_sound h
      obtain ⟨w, hw, hr, _⟩ := iop_sound (P := P) (t := t) hv
      exact Ends.pure hS (w := w) (by simp [hg, hw]) (hr _ _ _)
  · rename_i p q hx hy
    have hx := ev_sound hS hx
    have hy := ev_sound hS hy
    simp only [AVR, CvR, AtR] at hx hy
    rw [hx, hy]
    have hg : ∀ op : BinOp, (eqGuard op t x y (.string p) (.string q)).run P W = .ok () W := fun op => eqGuard_run ⟨fun _ _ _ => trivial, .inr (.inl ⟨_, rfl⟩)⟩
    split at h
    · obtain ⟨h0, h⟩ := h
      rw [one_sound h]
      have h0 : p.size + q.size ≤ 9223372036854775807 := by simpa using h0
      have h1 : ¬ (((p.size + q.size : Nat) : Int) > IntKind.i64.max) := by
        have : IntKind.i64.max = 9223372036854775807 := by decide
        omega
      refine Ends.pure hS (w := .string (p ++ q)) ?_ rfl
      simp only [Sem.run_bind, hg, Result.andThen_ok, binOp, Op.stringOp, Sem.run_ite, if_neg h1, Sem.run_pure]
    · obtain ⟨v, hv, rfl⟩ := oneO_sound h
      obtain ⟨w, hw, hr⟩ := sop_sound (P := P) (t := t) hv
      exact Ends.pure hS (w := w) (by simp [hg, hw]) (hr _ _ _)
  · rename_i p q hx hy
    have hx := ev_sound hS hx
    have hy := ev_sound hS hy
    simp only [AVR, CvR, AtR] at hx hy
    rw [hx, hy]
    have hg : ∀ op : BinOp, (eqGuard op t x y (.bool p) (.bool q)).run P W = .ok () W := fun op => eqGuard_run ⟨fun _ _ _ => trivial, .inr (.inr ⟨_, rfl⟩)⟩
    split at h
    · rename_i hu
      have hu := hT.und _ _ hu
      rw [one_sound h]
      exact Ends.pure hS (w := .bool (p == q)) (by simp [hg, run_eql_bool W t p q hu]) rfl
    · rename_i hu
      have hu := hT.und _ _ hu
      rw [one_sound h]
      exact Ends.pure hS (w := .bool (!(p == q))) (by simp only [Sem.run_bind, hg, Result.andThen_ok]; simp [binOp, run_equal_bool W t p q hu]) rfl
    · exact h.elim
  · exact h.elim
/-! ### Slices beside nil, structs beside structs -/
theorem run_nilIn {t : TypeId} {e : TypeId} (hu : P.underlying t = some (.slice e)) (A : Option Addr) (n c : Nat) (W : World) (d : Nat) : (Op.equalIn (d + 1) t (.slice A n c) (.slice none 0 0)).run P W = .ok A.isNone W := by
  cases A with
  | none => simp [Op.equalIn, run_underlying hu]
  | some a => simp [Op.equalIn, run_underlying hu]
theorem run_nil {t : TypeId} {e : TypeId} (hu : P.underlying t = some (.slice e)) (A : Option Addr) (n c : Nat) (W : World) : (Op.equal t (.slice A n c) (.slice none 0 0)).run P W = .ok A.isNone W := run_nilIn hu A n c W 9999
theorem nil_sound (hT : T.OK P) (hS : Sim cx G S a.tmps W) {ne : Bool} {t : TypeId} {x y : Operand} (hy : isNilC y = true) {l l' : List Nat} {r : Res E} (h : RM.Out S.h (aNil T ne t (evO (lk S.ρ) x)) l r l') :
    Ends P cx G S a W (do eqGuard (if ne then .neq else .eql) t x y (a.eval x) (a.eval y); binOp (if ne then .neq else .eql) t (a.eval x) (a.eval y)) r := by
  have hy' : a.eval y = .slice none 0 0 := by
    unfold isNilC at hy
    split at hy
    · rfl
    · cases hy
  rw [hy']
  unfold aNil at h
  split at h
  rotate_left
  · exact h.elim
  rename_i e hu
  have hu := hT.und _ _ hu
  have fin : ∀ (A : Option Addr) (n c : Nat) (b : Bool), a.eval x = .slice A n c → (A.isNone = true → b = true) →
      Ends P cx G S a W (do eqGuard (if ne then .neq else .eql) t x y (a.eval x) (.slice none 0 0); binOp (if ne then .neq else .eql) t (a.eval x) (.slice none 0 0)) (unkNil ne b, []) := by
    intro A n c b hx hb
    rw [hx]
    cases ne with
    | false =>
      refine Ends.pure hS (w := .bool A.isNone) ?_ ⟨_, rfl, hb, fun _ => rfl⟩
      simp [eqGuard, binOp, run_nil hu]
    | true =>
      refine Ends.pure hS (w := .bool (!A.isNone)) ?_ ⟨_, rfl, fun _ => rfl, fun h => hb (by simpa using h)⟩
      simp only [Sem.run_bind, if_true]
      simp [eqGuard, binOp, run_nil hu]
  split at h
  · rename_i e' ty xs hx
    have hx := ev_sound hS hx
    obtain ⟨d, hd⟩ := hx
    rw [one_sound h]
    cases d with
    | zero => exact hd.elim
    | succ d =>
      obtain ⟨A, c, hv, _, hA⟩ := hd
      refine fin A _ c _ hv fun hn => ?_
      cases xs with
      | nil => rfl
      | cons y ys =>
        obtain ⟨ad, rfl, _⟩ := hA (by simp)
        cases hn
  · rename_i id hx
    have hx := ev_sound hS hx
    obtain ⟨b, hb, h⟩ := h
    have hB := hS.blks id b hb
    dsimp only at h
    split at h
    · rename_i e' ty xs fz
      obtain ⟨b1, b2, b3, hrow⟩ := hB
      rw [one_sound h]
      rcases hrow with ⟨A, hA, hnil⟩ | ⟨cap, cur, d, hhd, _⟩
      · exact fin A 0 0 _ (hx.2.1.trans hA) fun _ => by rw [hnil]; rfl
      · exact fin _ _ cap _ (hx.2.1.trans hhd) fun hn => by cases hn
    · exact h.elim
  · exact h.elim
theorem cellEq_sound (hT : T.OK P) {K : Nat → Prop} {t : TypeId} {xs ys : List (At E)} {vs ws : List Value} {b : Bool} (hx : AtsR G K W xs vs) (hy : AtsR G K W ys ws) (h : cellEq (T.und t) xs ys = some b) (d : Nat) :
    ∃ v w, vs[0]? = some v ∧ ws[0]? = some w ∧ (Op.equalIn (d + 1) t v w).run P W = .ok b W := by
  unfold cellEq at h
  split at h
  · obtain ⟨v, _, rfl, hv, _⟩ := hx
    obtain ⟨w, _, rfl, hw, _⟩ := hy
    split at h
    · rename_i hu
      have hu := hT.und _ _ hu
      refine ⟨v, w, rfl, rfl, ?_⟩
      simp only [AtR] at hv hw
      subst hv; subst hw
      split at h
      · rename_i hkk'
        cases h
        obtain rfl := ikEq_eq hkk'
        exact run_equalIn_int W d t _ _ _ _ hu
      · cases h
    · cases h
  · obtain ⟨v, _, rfl, hv, _⟩ := hx
    obtain ⟨w, _, rfl, hw, _⟩ := hy
    split at h
    · rename_i hu
      have hu := hT.und _ _ hu
      cases h
      refine ⟨v, w, rfl, rfl, ?_⟩
      simp only [AtR] at hv hw
      subst hv; subst hw
      exact run_equalIn_bool' W d t _ _ hu
    · cases h
  · obtain ⟨v, _, rfl, hv, _⟩ := hx
    obtain ⟨w, _, rfl, hw, _⟩ := hy
    split at h
    · rename_i hu
      have hu := hT.und _ _ hu
      cases h
      refine ⟨v, w, rfl, rfl, ?_⟩
      simp only [AtR] at hv hw
      subst hv; subst hw
      exact run_equalIn_string W d t _ _ hu
    · cases h
  · cases h
/-- A part of a struct's value. -/
theorem part_cells (hT : T.OK P) {K : Nat → Prop} {f : Field} {xs us : List (At E)} {vs : List Value} (hx : AtsR G K W xs vs) (h : fieldCells T f xs = some us) :
    (T.agg f.type = some true ∧ ∃ ws, AtsR G K W us ws ∧ (part f.type vs.toArray f.offset).run P W = .ok (.agg ws.toArray) W) ∨
    (T.agg f.type = some false ∧ ∃ ws, AtsR G K W us ws ∧ ∀ v, ws[0]? = some v → (part f.type vs.toArray f.offset).run P W = .ok v W) := by
  unfold fieldCells at h
  split at h
  · rename_i hagg
    split at h
    · rename_i n hn
      cases h
      exact .inl ⟨hagg, _, (hx.drop f.offset).take n, by simp [part, agg_some hT hagg, size_some hT hn, List.take_drop]⟩
    · cases h
  · rename_i hagg
    cases h
    refine .inr ⟨hagg, _, hx.drop f.offset, fun v hv => ?_⟩
    have : vs[f.offset]? = some v := by simpa using hv
    simp [part, agg_some hT hagg, this]
  · cases h
theorem und_agg {t : TypeId} {fs : Array Field} (h : T.und t = some (.struct fs)) : T.agg t = some true := by unfold Tb.agg; rw [h]
theorem eqAt_sound (hT : T.OK P) {K : Nat → Prop} : ∀ (d D : Nat) (t : TypeId) (xs ys : List (At E)) (vs ws : List Value) (b : Bool), d ≤ D → AtsR G K W xs vs → AtsR G K W ys ws → eqAt T d t xs ys = some b →
    (T.agg t = some true ∧ (Op.equalIn D t (.agg vs.toArray) (.agg ws.toArray)).run P W = .ok b W) ∨ (T.agg t = some false ∧ ∃ v w, vs[0]? = some v ∧ ws[0]? = some w ∧ (Op.equalIn D t v w).run P W = .ok b W) := by
  intro d
  induction d with
  | zero => intro D t xs ys vs ws b _ _ _ h; cases h
  | succ d ih =>
    intro D t xs ys vs ws b hD hx hy h
    obtain ⟨D, rfl⟩ : ∃ D', D = D' + 1 := ⟨D - 1, by omega⟩
    unfold eqAt at h
    split at h
    · rename_i fs hu
      cases he : T.eqt t with
      | false => rw [he] at h; cases h
      | true =>
        rw [he] at h
        replace h : eqFs T (eqAt T d) xs ys fs.toList = some b := h
        refine .inl ⟨und_agg hu, ?_⟩
        have hu' := hT.und _ _ hu
        have hfs : P.fieldsOf t = fs := by simp [Program.fieldsOf, hu']
        rw [run_equalIn_struct W D t _ _ (by rw [hfs]; exact hu') (hT.eqt t he).1, hfs]
        have key : ∀ (l : List Field) (b : Bool), eqFs T (eqAt T d) xs ys l = some b → (Op.eqFields D vs.toArray ws.toArray l).run P W = .ok b W := by
          intro l
          induction l with
          | nil => intro b h; cases h; simp [Op.eqFields]
          | cons f l ihl =>
            intro b h
            unfold eqFs at h
            cases hn : (f.name == "_") with
            | true => rw [hn] at h; cases h
            | false =>
              rw [hn] at h
              have hn' : f.name ≠ "_" := by simpa using hn
              simp only [cond_false] at h
              split at h
              · rename_i us qs h1 h2
                split at h
                · rename_i b1 h3
                  have hfield : ∃ a c, (part f.type vs.toArray f.offset).run P W = .ok a W ∧ (part f.type ws.toArray f.offset).run P W = .ok c W ∧ (Op.equalIn D f.type a c).run P W = .ok b1 W := by
                    rcases part_cells hT hx h1 with ⟨g1, us', g2, g3⟩ | ⟨g1, us', g2, g3⟩ <;> rcases part_cells hT hy h2 with ⟨k1, qs', k2, k3⟩ | ⟨k1, qs', k2, k3⟩
                    · rcases ih D f.type us qs us' qs' b1 (by omega) g2 k2 h3 with ⟨_, e⟩ | ⟨e, _⟩
                      · exact ⟨_, _, g3, k3, e⟩
                      · rw [g1] at e; cases e
                    · rw [g1] at k1; cases k1
                    · rw [g1] at k1; cases k1
                    · rcases ih D f.type us qs us' qs' b1 (by omega) g2 k2 h3 with ⟨e, _⟩ | ⟨_, v, w, e1, e2, e3⟩
                      · rw [g1] at e; cases e
                      · exact ⟨_, _, g3 v e1, k3 w e2, e3⟩
                  obtain ⟨va, vc, p1, p2, p3⟩ := hfield
                  have rest : ∀ c, (Op.eqFields D vs.toArray ws.toArray l).run P W = .ok c W → (Op.eqFields D vs.toArray ws.toArray (f :: l)).run P W = .ok (b1 && c) W := by
                    intro c hc
                    simp only [Op.eqFields, hn', ne_eq, not_false_eq_true, if_true, Sem.run_bind, p1, p2, p3, Result.andThen_ok]
                    cases b1 <;> simp [hc]
                  cases l with
                  | nil =>
                    simp only [Option.some.injEq] at h
                    subst h
                    have := rest true (by simp [Op.eqFields])
                    simpa using this
                  | cons f' l' =>
                    simp only at h
                    split at h
                    · rename_i c hc
                      cases h
                      exact rest c (ihl c hc)
                    · cases h
                · cases h
              · cases h
        exact key _ _ h
    · cases hc : cellIs T t with
      | false => rw [hc] at h; cases h
      | true =>
        rw [hc] at h
        have hag : T.agg t = some false := by
          unfold cellIs at hc
          split at hc
          · assumption
          · cases hc
        exact .inr ⟨hag, cellEq_sound hT hx hy h D⟩
theorem eqS_sound (hT : T.OK P) (hS : Sim cx G S a.tmps W) {ne : Bool} {t : TypeId} {x y : Operand} {l l' : List Nat} {r : Res E} (h : RM.Out S.h (aEqS T ne t (evO (lk S.ρ) x) (evO (lk S.ρ) y)) l r l') :
    Ends P cx G S a W (do eqGuard (if ne then .neq else .eql) t x y (a.eval x) (a.eval y); binOp (if ne then .neq else .eql) t (a.eval x) (a.eval y)) r := by
  unfold aEqS at h
  split at h
  · rename_i xs ys hx hy
    split at h
    · rename_i fs hu
      split at h
      · rename_i b hb
        have heqt : T.eqt t = true := by
          unfold eqAt at hb
          rw [hu] at hb
          cases he : T.eqt t with
          | true => rfl
          | false => simp only [he] at hb; cases hb
        obtain ⟨vs, hvx, hax⟩ := ev_sound hS hx
        obtain ⟨ws, hvy, hay⟩ := ev_sound hS hy
        rw [one_sound h, hvx, hvy]
        have hg : ∀ op : BinOp, (eqGuard op t x y (.agg vs.toArray) (.agg ws.toArray)).run P W = .ok () W := fun op => run_eqGuard_agg W op t x y _ _ (hT.eqt t heqt).2
        rcases eqAt_sound hT 8 10000 t xs ys vs ws b (by omega) hax hay hb with ⟨_, he⟩ | ⟨he, _⟩
        · cases ne with
          | false =>
            refine Ends.pure hS (w := .bool b) ?_ rfl
            simp only [Sem.run_bind, hg, Result.andThen_ok, Bool.false_eq_true, if_false, run_eql_struct, he]
          | true =>
            refine Ends.pure hS (w := .bool (!b)) ?_ rfl
            simp only [Sem.run_bind, hg, Result.andThen_ok, if_true, run_neq_struct, he]
        · rw [und_agg hu] at he; cases he
      · exact h.elim
    · exact h.elim
  · exact h.elim
theorem un_sound (hS : Sim cx G S a.tmps W) {op : UnOp} {x : Operand} {l l' : List Nat} {r : Res E} (h : RM.Out S.h (aUn op (evO (lk S.ρ) x)) l r l') : Ends P cx G S a W (Op.unary op (a.eval x)) r := by
  unfold aUn at h
  split at h
  · rename_i b hx
    have hx := ev_sound hS hx
    simp only [AVR, CvR, AtR] at hx
    rw [one_sound h, hx]
    exact Ends.pure hS (w := .bool (!b)) (by simp [Op.unary]) rfl
  · rename_i k n hx
    have hx := ev_sound hS hx
    simp only [AVR, CvR, AtR] at hx
    rw [one_sound h, hx]
    exact Ends.pure hS (w := .int k (k.wrap (0 - n))) (by simp [Op.unary, Op.intArith]) rfl
  · rename_i k n hx
    have hx := ev_sound hS hx
    simp only [AVR, CvR, AtR] at hx
    rw [one_sound h, hx]
    exact Ends.pure hS (w := .int k (ibit .xor k (if k.signed then -1 else k.max) n)) (by simp [Op.unary, Op.intBits, ibit]) rfl
  · exact h.elim
theorem extract_sound (hS : Sim cx G S a.tmps W) {x : Operand} {i : Nat} {l l' : List Nat} {r : Res E} (h : RM.Out S.h (aExtract (evO (lk S.ρ) x) i) l r l') : Ends P cx G S a W (Instr.extract (a.eval x) i) r := by
  unfold aExtract at h
  split at h
  · rename_i vs hx
    have hx := ev_sound hS hx
    obtain ⟨ws, hv, hr⟩ := hx
    obtain ⟨v, hvi, rfl⟩ := oneO_sound h
    obtain ⟨c, hc, rfl⟩ := Option.map_eq_some_iff.1 hvi
    have get : ∀ (vs : List (Cv E)) (ws : List Value) (i : Nat), CvsR G S.k W vs ws → vs[i]? = some c → ∃ w, ws[i]? = some w ∧ CvR G S.k W c w := by
      intro vs
      induction vs with
      | nil => intro ws i _ h; simp at h
      | cons v vs ih =>
        intro ws i hr h
        obtain ⟨w, r, rfl, ha, hr⟩ := hr
        cases i with
        | zero => simp at h; subst h; exact ⟨w, rfl, ha⟩
        | succ i => simpa using ih r i hr (by simpa using h)
    obtain ⟨w, hw, hwr⟩ := get vs ws i hr hc
    rw [hv]
    exact Ends.pure hS (w := w) (by simp [Instr.extract, hw]) hwr
  · exact h.elim
theorem cvs_sound (hS : Sim cx G S a.tmps W) : ∀ {xs : List Operand} {vs : List (Cv E)}, cvs (xs.map (evO (lk S.ρ))) = some vs → CvsR G S.k W vs (xs.map a.eval)
  | [], _, h => by cases h; rfl
  | x :: xs, vs, h => by
    simp only [List.map_cons, cvs] at h
    split at h
    · rename_i v vs h1 h2
      cases h
      unfold asCv at h1
      split at h1
      · rename_i v' hx
        cases h1
        exact ⟨_, _, rfl, ev_sound hS hx, cvs_sound hS h2⟩
      · cases h1
    · cases h
theorem makeFunc_sound (hS : Sim cx G S a.tmps W) {fn : Fn} {first cap : Array Operand} {l l' : List Nat} {r : Res E} (h : RM.Out S.h (aMakeFunc fn (first.toList.map (evO (lk S.ρ))) (cap.toList.map (evO (lk S.ρ)))) l r l') : Ends P cx G S a W (Instr.makeFunc fn (first.map a.eval) (cap.map a.eval)) r := by
  unfold aMakeFunc at h
  split at h
  · rename_i f hf
    obtain ⟨v, hv, rfl⟩ := oneO_sound h
    obtain ⟨vs, hvs, rfl⟩ := Option.map_eq_some_iff.1 hv
    have hr := cvs_sound hS hvs
    have hf : first = #[] := by
      cases first with
      | mk l => cases l <;> simp_all
    subst hf
    exact Ends.pure hS (w := .func (.func f) #[] (cap.map a.eval)) (by simp [Instr.makeFunc]) ⟨cap.toList.map a.eval, by rw [List.map_toArray.symm], hr⟩
  · exact h.elim
end Mir
