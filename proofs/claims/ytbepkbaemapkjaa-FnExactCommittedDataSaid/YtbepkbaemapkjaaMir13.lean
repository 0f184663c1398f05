/- The mirror machine: an operation, whichever. -/
import Derived.Test.YtbepkbaemapkjaaMir40
namespace Mir
set_option linter.unusedVariables false
set_option linter.unusedSimpArgs false
open Go
variable {E : Env} {P : Program} {T : Tb} {cx : Cx} {G G' : Gh} {S : St E} {tm : Array Value} {a : Act} {W W' : World}

theorem build_sound (hT : T.OK P) (hS : Sim cx G S a.tmps W) {t : TypeId} {parts : Array (Nat × Operand)} {l l' : List Nat} {r : Res E} (h : RM.Out S.h (aBuild T t (parts.toList.map fun p => (p.1, evO (lk S.ρ) p.2))) l r l') :
    Ends P cx G S a W (Instr.build t (parts.map fun (i, x) => (i, a.eval x))) r := by
  unfold aBuild at h
  split at h
  · rename_i fs hu
    have hb' := RM.Out_bif h; clear h; obtain ⟨hall, h⟩ := hb'
    have hu' := hT.und _ _ hu
    split at h
    · rename_i cs hz
      have hzc := hz
      unfold Tb.zeroCv at hzc
      rw [hu] at hzc
      dsimp only at hzc
      split at hzc
      · rename_i z hzz
        obtain ⟨i, hi, hiz⟩ := zero_info hT hzz
        have hzr : CvR (E := E) G S.k W (.agg cs) z := cvOfVal_sound hzc
        obtain ⟨vs, rfl, hvs⟩ := hzr
        split at h
        · rename_i cs' hf
          rw [one_sound h]
          obtain ⟨places, hp, hget⟩ := mapM_sizes hT fs.toList hall
          obtain ⟨vs', hv', hr'⟩ := fills_sound hT hS (place := (places.toArray[·]?)) (fun i fd n h1 h2 => by simpa using hget i fd n (by simpa using h1) h2) hvs hf
          refine Ends.pure hS (run_build W t _ vs'.toArray ?_) ⟨vs', rfl, hr'⟩
          unfold Program.built
          simp only [hi, hu', hiz, hp]
          simpa [Value.cells] using hv'
        · exact h.elim
      · cases hzc
    · exact h.elim
  · rename_i n e hu
    have hu' := hT.und _ _ hu
    split at h
    · rename_i k k' n' ys hk hsz hz
      have hb' := RM.Out_bif h; clear h; obtain ⟨hc, h⟩ := hb'
      simp only [Bool.and_eq_true] at hc
      obtain rfl := ikEq_eq hc.1
      obtain rfl := Nat.eq_of_beq_eq_true hc.2
      obtain ⟨w, hw, hr, i, hi, hiz⟩ := zero_sound hT hz (K := S.k)
      obtain ⟨q, l1, hq, h⟩ := RM.Out_bind h
      split at h
      rotate_left
      · exact h.elim
      rename_i xs hfill
      obtain rfl := h.1
      obtain ⟨hfl, hparts⟩ := elemsL_sound hS hq
      obtain ⟨F', hS1, hF1, hf1⟩ := frz_all hS hfl
      have hp := hparts F' hF1 (fun x hx => Among.inF hf1 hx)
      have hys : ys = List.replicate n (0 : Int) := by
        unfold Tb.zeroCv at hz
        rw [hu] at hz
        dsimp only at hz
        split at hz
        · rename_i k2 cs _ hzz
          cases hcc : (cs.toList.all (isZ k2) && Nat.beq cs.toList.length n) with
          | false => rw [hcc] at hz; cases hz
          | true => rw [hcc] at hz; cases hz; rfl
        · cases hz
      obtain ⟨hl, hwv⟩ := hr G W
      subst hys
      have hrow : RowC E W F' 0 (.int k) (List.replicate n (0 : Int)) ((List.replicate n (0 : Int)).map (Value.int k)) := by
        refine ⟨by simp [tsz], fun i hi => ⟨.int k (List.replicate n (0 : Int))[i], ?_, rfl⟩⟩
        apply List.ext_getElem?
        intro j
        rw [seg_get]
        simp only [tsz, Nat.mul_one]
        by_cases hj : j < 1
        · obtain rfl : j = 0 := by omega
          simp at hi
          simp [hi]
        · rw [if_neg hj, List.getElem?_eq_none (by simp; omega)]
      obtain ⟨d, cs, hfr, hrr, hxl⟩ := fillL_sound (sz := 1) rfl hp hrow hfill
      have hcs : cs = xs.map (Value.int k) := by
        apply List.ext_getElem
        · rw [hrr.1]; simp [tsz]
        · intro i h1 h2
          have hi : i < xs.length := by simpa using h2
          obtain ⟨v, hv, hvv⟩ := hrr.2 i hi
          have hvv : v = .int k xs[i] := by cases d <;> exact hvv
          have := congrArg (·[0]?) hv
          simp only [seg_get, tsz, Nat.mul_one, Nat.add_zero] at this
          rw [if_pos (by omega), List.getElem?_eq_getElem h1] at this
          simp at this
          rw [this, hvv]
          simp
      have hrun : (Instr.build t (parts.map fun (i, x) => (i, a.eval x))).run P W = .ok (.agg cs.toArray) W := by
        have hfr' : Instr.fill (fun i => some (i * 1, 1)) w.cells (parts.map fun (i, x) => (i, a.eval x)).toList = some cs.toArray := by
          rw [hwv]
          simpa [Value.cells] using hfr
        simp only [Nat.mul_one] at hfr'
        simp [Instr.build, run_underlying hu', hw, size_some hT hsz]
        simp at hfr'
        rw [hfr']
        simp
      refine ⟨_, _, _, hrun, hS1, ext_F hF1, ?_⟩
      exact ⟨by rw [hxl]; simp, by rw [hcs]⟩
    · exact h.elim
  · exact h.elim
/-- One operation that calls nothing. -/
theorem aop_sound (hT : T.OK P) (hS : Sim cx G S a.tmps W) {fr : Nat} (hf : lk S.H fr = none) {o : Oper} {l l' : List Nat} {r : Res E} (h : RM.Out S.h (aop T fr (lk S.ρ) o.op) l r l') :
    ∃ v W' G', ((execOp a.eval o).run P W = .ok (.value v) W' ∨ ((execOp a.eval o).run P W = .ok .skip W' ∧ v = undef)) ∧ Sim cx G' { S with H := r.2 ++ S.H } a.tmps W' ∧
      Ext G S.k W G' (St.k { S with H := r.2 ++ S.H }) W' ∧ AVR G' (St.k { S with H := r.2 ++ S.H }) W' r.1 v := by
  have fin : ∀ {m : Sem Value}, (∀ v W', m.run P W = .ok v W' → (execOp a.eval o).run P W = .ok (.value v) W') → Ends P cx G S a W m r → ∃ v W' G', ((execOp a.eval o).run P W = .ok (.value v) W' ∨ ((execOp a.eval o).run P W = .ok .skip W' ∧ v = undef)) ∧ Sim cx G' { S with H := r.2 ++ S.H } a.tmps W' ∧
      Ext G S.k W G' (St.k { S with H := r.2 ++ S.H }) W' ∧ AVR G' (St.k { S with H := r.2 ++ S.H }) W' r.1 v := by
    rintro m hm ⟨v, W', G', h1, h2⟩
    exact ⟨v, W', G', .inl (hm v W' h1), h2⟩
  unfold aop at h
  cases ho : o.op <;> rw [ho] at h <;> (try dsimp only at h) <;> try exact h.elim
  case move x => exact fin (fun v W' hr => by simp at hr; simp [execOp, ho, hr]) (move_sound hS h)
  case assign x => exact fin (fun v W' hr => by simp at hr; simp [execOp, ho, hr]) (move_sound hS h)
  case pick c x y => exact fin (fun v W' hr => by simp only [execOp, ho]; simp only [Sem.run_bind] at hr ⊢; revert hr; cases (asBool (a.eval c)).run P W <;> simp) (pick_sound hS h)
  case alloc t => exact fin (fun v W' hr => by simp [execOp, ho, hr]) (alloc_sound hT hf hS h)
  case box t x => exact fin (fun v W' hr => by simp [execOp, ho, hr]) (boxop_sound hf hS h)
  case build t ps => exact fin (fun v W' hr => by simp only [execOp, ho, Sem.run_bind, hr]; simp) (build_sound hT hS h)
  case buildSlice t n ps => exact fin (fun v W' hr => by simp only [execOp, ho, Sem.run_bind, hr]; simp) (buildSlice_sound hT hf hS h)
  case load t x => exact fin (fun v W' hr => by simp [execOp, ho, hr]) (load_sound hT hS h)
  case store t x y =>
    obtain ⟨v, W', G', h1, h2⟩ := store_sound hT hS h
    refine ⟨v, W', G', .inr ?_, h2⟩
    simp only [Sem.run_bind] at h1
    simp only [execOp, ho, Sem.run_bind]
    revert h1
    cases (Instr.storeAt t (a.eval x) (a.eval y)).run P W with
    | ok u w => intro h1; simp at h1; obtain ⟨h1, rfl⟩ := h1; exact ⟨by simp, h1.symm⟩
    | halt _ _ => intro h1; simp at h1
  case nilCheck x =>
    obtain ⟨v, h1, h2, h3⟩ := nilCheck_sound (P := P) hS h
    exact ⟨v, W, G, .inl (h1 o ho), by rw [h3]; exact hS, by rw [h3]; exact Ext.refl _ _ _, by rw [h3]; exact h2⟩
  case binOp op t x y yt =>
    split at h
    · rename_i x' hy
      exact fin (fun v W' hr => by simp only [execOp, ho, Sem.run_bind] at hr ⊢; simp only [Bool.false_eq_true, if_false] at hr; rw [hr]; simp) (nil_sound (ne := false) hT hS hy h)
    · rename_i x' hy
      exact fin (fun v W' hr => by simp only [execOp, ho, Sem.run_bind] at hr ⊢; simp only [if_true] at hr; rw [hr]; simp) (nil_sound (ne := true) hT hS hy h)
    · rename_i xs hy hx
      rw [← hx] at h
      exact fin (fun v W' hr => by simp only [execOp, ho, Sem.run_bind] at hr ⊢; simp only [Bool.false_eq_true, if_false] at hr; rw [hr]; simp) (eqS_sound (ne := false) hT hS h)
    · rename_i xs hy hx
      rw [← hx] at h
      exact fin (fun v W' hr => by simp only [execOp, ho, Sem.run_bind] at hr ⊢; simp only [if_true] at hr; rw [hr]; simp) (eqS_sound (ne := true) hT hS h)
    · exact fin (fun v W' hr => by simp only [execOp, ho, Sem.run_bind] at hr ⊢; rw [hr]; simp) (bin_sound hT hS h)
  case unOp op t x => exact fin (fun v W' hr => by simp [execOp, ho, hr]) (un_sound hS h)
  case convert s t x => exact fin (fun v W' hr => by simp [execOp, ho, hr]) (conv_sound hT hf hS h)
  case makeFunc fn first cap => exact fin (fun v W' hr => by simp [execOp, ho, hr]) (makeFunc_sound hS h)
  case makeMap t r' =>
    cases r' with
    | none => exact fin (fun v W' hr => by simp [execOp, ho, hr]) (makeMap_sound hT hf hS h)
    | some _ => exact h.elim
  case lookup t x i ok => exact fin (fun v W' hr => by simp [execOp, ho, hr]) (lookup_sound hT hS h)
  case mapUpdate t m k x =>
    obtain ⟨v, W', G', h1, h2⟩ := mapUpd_sound hT hS h
    refine ⟨v, W', G', .inr ?_, h2⟩
    simp only [Sem.run_bind] at h1
    simp only [execOp, ho, Sem.run_bind]
    revert h1
    cases (Instr.mapUpdate t (a.eval m) (a.eval k) (a.eval x)).run P W with
    | ok u w => intro h1; simp at h1; obtain ⟨h1, rfl⟩ := h1; exact ⟨by simp, h1.symm⟩
    | halt _ _ => intro h1; simp at h1
  case makeSlice t lo co => exact fin (fun v W' hr => by simp [execOp, ho, hr]) (makeSlice_sound hT hf hS h)
  case slice t x lo hi mx => exact fin (fun v W' hr => by simp [execOp, ho, hr]) (slice_sound hT hS h)
  case fieldAddr s x f => exact fin (fun v W' hr => by simp [execOp, ho, hr]) (fieldAddr_sound hT hS h)
  case field s x f => exact fin (fun v W' hr => by simp [execOp, ho, hr]) (field_sound hT hS h)
  case indexAddr t x i => exact fin (fun v W' hr => by simp [execOp, ho, hr]) (indexAddr_sound hT hS h)
  case index t x i => exact fin (fun v W' hr => by simp [execOp, ho, hr]) (index_sound hT hS h)
  case extract x i => exact fin (fun v W' hr => by simp [execOp, ho, hr]) (extract_sound hS h)
  case call c =>
    obtain ⟨callee, args, argTypes⟩ := c
    dsimp only at h
    have harr : ∀ {α : Type} (xs : Array α) (l : List α), xs.toList = l → xs = l.toArray := fun xs l h => by rw [← h]
    split at h
    · split at h
      · rename_i x y t u hxs hts
        obtain rfl := harr _ _ hxs
        obtain rfl := harr _ _ hts
        exact fin (fun v W' hr => by simp [execOp, ho, resolve, invoke, builtin, hr]) (append_sound (rty := o.type) hT hf hS h)
      · exact h.elim
    · split at h
      · rename_i x t hxs hts
        obtain rfl := harr _ _ hxs
        obtain rfl := harr _ _ hts
        exact fin (fun v W' hr => by simp [execOp, ho, resolve, invoke, builtin, hr]) (len_sound (ty := o.type) hT hS h)
      · exact h.elim
    · split at h
      · rename_i x y t u hxs hts
        obtain rfl := harr _ _ hxs
        obtain rfl := harr _ _ hts
        exact fin (fun v W' hr => by simp [execOp, ho, resolve, invoke, builtin, hr]) (copy_sound (u := u) (rty := o.type) hT hS h)
      · exact h.elim
    · split at h
      · rename_i x t hxs hts
        obtain rfl := harr _ _ hxs
        obtain rfl := harr _ _ hts
        exact fin (fun v W' hr => by simp [execOp, ho, resolve, invoke, builtin, hr]) (clear_sound (rty := o.type) hT hS h)
      · exact h.elim
    · split at h
      · rename_i x y hxs
        obtain rfl := harr _ _ hxs
        have := minmax_sound (P := P) (mx := false) (ts := argTypes) (ty := o.type) hS h
        exact fin (fun v W' hr => by simp at hr; simp [execOp, ho, resolve, invoke, builtin, hr]) this
      · exact h.elim
    · split at h
      · rename_i x y hxs
        obtain rfl := harr _ _ hxs
        have := minmax_sound (P := P) (mx := true) (ts := argTypes) (ty := o.type) hS h
        exact fin (fun v W' hr => by simp at hr; simp [execOp, ho, resolve, invoke, builtin, hr]) this
      · exact h.elim
    · exact h.elim
end Mir
