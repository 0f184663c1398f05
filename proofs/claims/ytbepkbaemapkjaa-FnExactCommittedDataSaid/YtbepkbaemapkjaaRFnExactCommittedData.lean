/- PROVED: for every input, laws.FnExactCommittedData returns true, and each argument reads behind the call as it read before. CONDITIONS: none beyond what the given row itself states. -/
import Derived.Test.YtbepkbaemapkjaaRows
import Derived.Test.YtbepkbaemapkjaaUKCA
import Derived.Test.YtbepkbaemapkjaaUP3
import Derived.WalkKit
import Derived.ProofKit
import Derived.OpenShut
import Derived.ShutString
import Derived.ChangeOld
import Derived.Below
import Derived.SizedLaws
namespace Go.Proofs.Ytbepkbaemapkjaa.fnExactCommittedData
open Go Go.ChangeShapes Go.WideShapes Go.ChangeAt Go.RowKit
set_option linter.unusedVariables false
theorem own : ownKnob Try.prog.godebug = none := by kernel_rfl
theorem laidOut : laidOutB Try.prog = true := by kernel_rfl
set_option maxRecDepth 100000 in
theorem lifted (os : Os) (started : os.Started) (H : Type) (enc : TypeId × Value → H) :
    ReturnsInHanded {} Try.checked os 6 .any (Rows.fnExactCommittedDataSpec.pre6 enc Try.prog Try.f6 Rows.fnExactCommittedDataRow.domain false) (Rows.fnExactCommittedDataSpec.post enc Try.prog Try.f6 false true false false) := by
  refine returnsInHanded_of_change_sized (C := Try.checked) own started (by kernel_rfl) Try.func6
    (ChangeSpec.witness6 (enc := enc) (C := Try.checked) false ⟨#[], #[.agg #[.slice none 0 0, .slice none 0 0, .slice none 0 0, .slice none 0 0]], []⟩ 8 (by kernel_rfl) (by kernel_rfl) (by kernel_rfl) (by kernel_rfl)) ?_
  intro W base args ds gs before hval0 hW hcnd hsz0 _
  have hval : ∀ (j : Nat) t v, Try.f6.params[j]? = some t → args[j]? = some v → Value.okWide Try.prog W .any base t v := hval0
  have hW' := hW
  obtain ⟨p, q, hA0, hV, rfl, hfz, hnd⟩ := hW
  have hA : DataW.TrodAll enc Try.prog W 0 (fun _ => true) true Try.f6.params.toList args.toList ds p := hA0
  rw [Try.params6] at hA hval
  obtain ⟨v0, vs0, d0, ds0, p0, q0, hargs, rfl, rfl, h0, r0⟩ := trodAll_cons hA
  obtain ⟨rfl, rfl, rfl⟩ := trodAll_nil r0
  obtain rfl : args = #[v0] := by cases args; simp_all
  obtain ⟨rfl, rfl⟩ := trodVars_none hV
  obtain ⟨y0, o0, w0⟩ := Mir.open_val (E := Mir.Y.E) 8 27 (.st 27) (by kernel_rfl) (hval 0 27 v0 rfl rfl) h0
  have lt0 : ∀ x ∈ p0, x.block < W.heap.size := by obtain ⟨m, hm⟩ := h0; exact DataW.trod_lt m _ _ _ hm
  obtain ⟨N, hp⟩ := Mir.Y.pureCommittedData y0 w0
  refine ((Mir.Y.laws_FnExactCommittedData.snd N).2 W (Mir.InHeap W) (y0, ()) true [v0] [] hp ⟨_, _, [], [], rfl, rfl, ⟨o0, rfl⟩, ⟨rfl, rfl⟩⟩ List.nodup_nil (fun b h => by cases h) (fun b h => h)).mono ?_
  rintro e W' ⟨v, rfl, hl⟩
  have bel : Below W.heap.size W W' := ⟨hl.os, hl.tape, hl.output, hl.size, fun k hk => hl.block k hk (by simp)⟩
  obtain ⟨F', vs, fpR, fpO, rfl, _, _, hres, _⟩ := hl.ex
  have hres : Mir.OwnEs Mir.Y.E W' F' false [.bool] (true, ()) vs fpR := hres
  obtain ⟨v, r, f1, f2, rfl, _, ⟨rfl, _⟩, rfl, _⟩ := hres
  exact ⟨_, rfl, _, _, _, [], _, [], hW', trodAll_mk1 (shut_bool Try.underlying4 _), (trodAll_cons_mk (Below.trod laidOut (by kernel_rfl) (of_decide_eq_true (by kernel_rfl)) h0 bel lt0) trodAll_mk0), rfl, bel.frame _, fun h => by cases h⟩
theorem andT {a b : Bool} (h : a = true) (k : b = true) : (a && b) = true := by rw [h, k]; rfl
set_option maxHeartbeats 4000000 in
set_option maxRecDepth 100000 in
theorem closed : joinedFacts Try.prog 6 Try.f6 Rows.fnExactCommittedDataSpec Rows.fnExactCommittedDataRow = true := by
  unfold joinedFacts
  refine andT (andT (andT (andT (andT (andT (andT (andT (andT (andT (andT (andT (andT (andT (andT (andT (andT (andT (andT (andT (andT (andT (andT (andT (andT (andT (andT (andT (andT (andT (andT ?_ ?_) ?_) ?_) ?_) ?_) ?_) ?_) ?_) ?_) ?_) ?_) ?_) ?_) ?_) ?_) ?_) ?_) ?_) ?_) ?_) ?_) ?_) ?_) ?_) ?_) ?_) ?_) ?_) ?_) ?_) ?_
  all_goals (as_aux_lemma => kernel_rfl)
theorem over : Rows.fnExactCommittedDataRow.holds Try.pinned (OpenSpec.ofChange Rows.fnExactCommittedDataSpec) :=
  OpenClaim.holds_of_wide 6 Try.f6 rfl rfl rfl rfl rfl rfl rfl ⟨rfl, rfl, rfl, rfl, rfl⟩ rfl rfl rfl rfl rfl (by kernel_rfl) Try.func6 closed
    (of_decide_eq_true (by kernel_rfl)) (by unfold Func.isWrapper; first | (rw [if_pos (by decide +kernel)]; kernel_rfl) | (rw [if_neg (by decide +kernel)]; exact ⟨rfl, rfl⟩))
    (fun os started H enc _ => lifted os started H enc)
theorem proved : Rows.FnExactCommittedDataSaid := over
end Go.Proofs.Ytbepkbaemapkjaa.fnExactCommittedData
namespace Go.Proofs.Ytbepkbaemapkjaa
/-- The row, under a short name, for the claim. -/
theorem fnExactCommittedData_holds : Rows.FnExactCommittedDataSaid := fnExactCommittedData.proved
end Go.Proofs.Ytbepkbaemapkjaa
