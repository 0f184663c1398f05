/- PROVED: for every input, laws.FnExactMapPut returns true, and each argument reads behind the call as it read before. CONDITIONS: none beyond what the given row itself states. -/
import Derived.Test.YtojpcjbdehoibaaEngC
import Derived.Test.YtojpcjbdehoibaaRows
import Derived.Test.YtojpcjbdehoibaaHUC
import Derived.Test.YtojpcjbdehoibaaHP3
import Derived.WalkKit
import Derived.ProofKit
import Derived.OpenShut
import Derived.ShutString
import Derived.ChangeOld
import Derived.Below
import Derived.SizedLaws
namespace Go.Proofs.Ytojpcjbdehoibaa.fnExactMapPut
open Go Go.ChangeShapes Go.WideShapes Go.ChangeAt Go.RowKit
set_option linter.unusedVariables false
theorem own : ownKnob Try.prog.godebug = none := by kernel_rfl
theorem laidOut : laidOutB Try.prog = true := by kernel_rfl
set_option maxRecDepth 100000 in
theorem lifted (os : Os) (started : os.Started) (H : Type) (enc : TypeId × Value → H) :
    ReturnsInHanded {} Try.checked os 7 .any (Rows.fnExactMapPutSpec.pre6 enc Try.prog Try.f7 Rows.fnExactMapPutRow.domain false) (Rows.fnExactMapPutSpec.post enc Try.prog Try.f7 false true false false) := by
  refine returnsInHanded_of_change_sized (C := Try.checked) own started (by kernel_rfl) Try.func7
    (ChangeSpec.witness6 (enc := enc) (C := Try.checked) false ⟨#[], #[.agg #[.string ByteArray.empty, .string ByteArray.empty, .int .i64 0, .slice none 0 0], .string ByteArray.empty, .string ByteArray.empty], []⟩ 8 (by kernel_rfl) (by kernel_rfl) (by kernel_rfl) (by kernel_rfl)) ?_
  intro W base args ds gs before hval0 hW hcnd hsz0 _
  have hval : ∀ (j : Nat) t v, Try.f7.params[j]? = some t → args[j]? = some v → Value.okWide Try.prog W .any base t v := hval0
  have hW' := hW
  obtain ⟨p, q, hA0, hV, rfl, hfz, hnd⟩ := hW
  have hA : DataW.TrodAll enc Try.prog W 0 (fun _ => true) true Try.f7.params.toList args.toList ds p := hA0
  rw [Try.params7] at hA hval
  obtain ⟨v0, vs0, d0, ds0, p0, q0, hargs, rfl, rfl, h0, r0⟩ := trodAll_cons hA
  obtain ⟨v1, vs1, d1, ds1, p1, q1, rfl, rfl, rfl, h1, r1⟩ := trodAll_cons r0
  obtain ⟨v2, vs2, d2, ds2, p2, q2, rfl, rfl, rfl, h2, r2⟩ := trodAll_cons r1
  obtain ⟨rfl, rfl, rfl⟩ := trodAll_nil r2
  obtain rfl : args = #[v0, v1, v2] := by cases args; simp_all
  obtain ⟨rfl, rfl⟩ := trodVars_none hV
  obtain ⟨y0, o0, w0⟩ := Mir.open_valR (E := Mir.Y.E) [(67, [.str, .str, (.int .i64), (.slice 67 (.st 67))]), (9, [.str]), (3, [(.int .i64)]), (65, [(.slice 67 (.st 67))])] 67 (.st 67) (by kernel_rfl) (hval 0 67 v0 rfl rfl) h0
  have lt0 : ∀ x ∈ p0, x.block < W.heap.size := by obtain ⟨m, hm⟩ := h0; exact DataW.trod_lt m _ _ _ hm
  obtain ⟨y1, o1, w1⟩ := Mir.open_val (E := Mir.Y.E) 8 9 .str (by kernel_rfl) (hval 1 9 v1 rfl rfl) h1
  have lt1 : ∀ x ∈ p1, x.block < W.heap.size := by obtain ⟨m, hm⟩ := h1; exact DataW.trod_lt m _ _ _ hm
  obtain ⟨y2, o2, w2⟩ := Mir.open_val (E := Mir.Y.E) 8 9 .str (by kernel_rfl) (hval 2 9 v2 rfl rfl) h2
  have lt2 : ∀ x ∈ p2, x.block < W.heap.size := by obtain ⟨m, hm⟩ := h2; exact DataW.trod_lt m _ _ _ hm
  obtain ⟨N, hp⟩ := Mir.Y.pureMapPut y0 y1 y2 w0 w1 w2
  refine ((Mir.Y.laws_FnExactMapPut.snd N).2 W (Mir.InHeap W) (y0, y1, y2, ()) true [v0, v1, v2] [] hp ⟨_, _, [], [], rfl, rfl, ⟨o0, rfl⟩, ⟨_, _, [], [], rfl, rfl, ⟨o1, rfl⟩, ⟨_, _, [], [], rfl, rfl, ⟨o2, rfl⟩, ⟨rfl, rfl⟩⟩⟩⟩ List.nodup_nil (fun b h => by cases h) (fun b h => h)).mono ?_
  rintro e W' ⟨v, rfl, hl⟩
  have bel : Below W.heap.size W W' := ⟨hl.os, hl.tape, hl.output, hl.size, fun k hk => hl.block k hk (by simp)⟩
  obtain ⟨F', vs, fpR, fpO, rfl, _, _, hres, _⟩ := hl.ex
  have hres : Mir.OwnEs Mir.Y.E W' F' false [.bool] (true, ()) vs fpR := hres
  obtain ⟨v, r, f1, f2, rfl, _, ⟨rfl, _⟩, rfl, _⟩ := hres
  exact ⟨_, rfl, _, _, _, [], _, [], hW', trodAll_mk1 (shut_bool Try.underlying4 _), (trodAll_cons_mk (Below.trod laidOut (by kernel_rfl) (of_decide_eq_true (by kernel_rfl)) h0 bel lt0) (trodAll_cons_mk (Below.trod laidOut (by kernel_rfl) (of_decide_eq_true (by kernel_rfl)) h1 bel lt1) (trodAll_cons_mk (Below.trod laidOut (by kernel_rfl) (of_decide_eq_true (by kernel_rfl)) h2 bel lt2) trodAll_mk0))), rfl, bel.frame _, fun h => by cases h⟩
theorem andT {a b : Bool} (h : a = true) (k : b = true) : (a && b) = true := by rw [h, k]; rfl
set_option maxHeartbeats 4000000 in
set_option maxRecDepth 100000 in
theorem closed : joinedFacts Try.prog 7 Try.f7 Rows.fnExactMapPutSpec Rows.fnExactMapPutRow = true := by
  unfold joinedFacts
  refine andT (andT (andT (andT (andT (andT (andT (andT (andT (andT (andT (andT (andT (andT (andT (andT (andT (andT (andT (andT (andT (andT (andT (andT (andT (andT (andT (andT (andT (andT (andT ?_ ?_) ?_) ?_) ?_) ?_) ?_) ?_) ?_) ?_) ?_) ?_) ?_) ?_) ?_) ?_) ?_) ?_) ?_) ?_) ?_) ?_) ?_) ?_) ?_) ?_) ?_) ?_) ?_) ?_) ?_) ?_
  all_goals (as_aux_lemma => kernel_rfl)
theorem over : Rows.fnExactMapPutRow.holds Try.pinned (OpenSpec.ofChange Rows.fnExactMapPutSpec) :=
  OpenClaim.holds_of_wide 7 Try.f7 rfl rfl rfl rfl rfl rfl rfl ⟨rfl, rfl, rfl, rfl, rfl⟩ rfl rfl rfl rfl rfl (by kernel_rfl) Try.func7 closed
    (of_decide_eq_true (by kernel_rfl)) (by unfold Func.isWrapper; first | (rw [if_pos (by decide +kernel)]; kernel_rfl) | (rw [if_neg (by decide +kernel)]; exact ⟨rfl, rfl⟩))
    (fun os started H enc _ => lifted os started H enc)
theorem proved : Rows.FnExactMapPutSaid := over
end Go.Proofs.Ytojpcjbdehoibaa.fnExactMapPut
namespace Go.Proofs.Ytojpcjbdehoibaa
/-- The row, under a short name, for the claim. -/
theorem fnExactMapPut_holds : Rows.FnExactMapPutSaid := fnExactMapPut.proved
end Go.Proofs.Ytojpcjbdehoibaa
