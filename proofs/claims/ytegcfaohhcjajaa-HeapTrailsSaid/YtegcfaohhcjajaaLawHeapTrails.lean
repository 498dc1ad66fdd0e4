/- The row of the law jurist/juristlaw02.HeapTrails: out of its plain law and the printed contract. -/
import Derived.Test.YtegcfaohhcjajaaRows
import Derived.Test.YtegcfaohhcjajaaOpenK
import Derived.Test.YtegcfaohhcjajaaPureHeapTrails
import Derived.WalkKit
import Derived.ProofKit
import Derived.OpenShut
import Derived.ShutString
import Derived.ChangeOld
import Derived.Below
import Derived.SizedLaws
namespace Go.Proofs.Ytegcfaohhcjajaa.heapTrails
open Go.ChangeShapes Go.WideShapes Go.ChangeAt Go.RowKit Go.Proofs.Ytegcfaohhcjajaa.Open Go.Proofs.Ytegcfaohhcjajaa.Hk Go.Proofs.YtegcfaohhcjajaaW.PrintWords Go.Proofs.YtegcfaohhcjajaaW.PrintLast Go.Proofs.YtegcfaohhcjajaaW.PrintMore
set_option linter.unusedVariables false
theorem own : ownKnob Try.prog.godebug = none := by kernel_rfl
theorem laidOut : laidOutB Try.prog = true := by kernel_rfl
set_option maxRecDepth 100000 in
theorem lifted (os : Os) (started : os.Started) (H : Type) (enc : TypeId × Value → H) :
    ReturnsInHanded {} Try.checked os 3 .any (Rows.heapTrailsSpec.pre6 enc Try.prog Try.f3 Rows.heapTrailsRow.domain false) (Rows.heapTrailsSpec.post enc Try.prog Try.f3 false true false false) := by
  refine returnsInHanded_of_change_sized (C := Try.checked) own started (by kernel_rfl) Try.func3
    (ChangeSpec.witness6 (enc := enc) (C := Try.checked) false ⟨#[], #[.slice none 0 0], []⟩ 8 (by kernel_rfl) (by kernel_rfl) (by kernel_rfl) (by kernel_rfl)) ?_
  intro W base args ds gs before hval0 hW hcnd hsz0 _
  have hsz : (DataW.weightsEach Try.prog (Try.f3.params.toList ++ Rows.heapTrailsSpec.plain.varTypes Try.prog) (ds ++ gs)).all (· ≤ reachBytes) = true := hsz0
  have hval : ∀ (j : Nat) t v, Try.f3.params[j]? = some t → args[j]? = some v → Value.okWide Try.prog W .any base t v := hval0
  have hW' := hW
  obtain ⟨p, q, hA0, hV, rfl, hfz, hnd⟩ := hW
  have hA : DataW.TrodAll enc Try.prog W 0 (fun _ => true) true Try.f3.params.toList args.toList ds p := hA0
  rw [Try.params3] at hA hval hsz
  obtain ⟨v0, vs0, d0, ds0, p0, q0, hargs, rfl, rfl, h0, r0⟩ := trodAll_cons hA
  obtain ⟨rfl, rfl, rfl⟩ := trodAll_nil r0
  obtain rfl : args = #[v0] := by cases args; simp_all
  obtain ⟨rfl, rfl⟩ := trodVars_none hV
  obtain ⟨a0, len0, cap0, rfl⟩ := okWide_slice Try.underlying22 (hval 0 22 v0 rfl rfl)
  have k0 := h0
  have lt0 : ∀ x ∈ p0, x.block < W.heap.size := by obtain ⟨m, hm⟩ := k0; exact DataW.trod_lt m _ _ _ hm
  obtain ⟨fuel0, hf0⟩ := h0
  obtain ⟨A0, c0, l0, hv0, hl0, hC0, hw0, hs0⟩ := opens_row (d := k32) Try.underlying22 (by kernel_rfl) opens32 hf0
  have hv0' : (.slice a0 len0 cap0 : Value) = .slice A0 l0.length c0 := by simpa [Value.cells] using hv0
  injection hv0' with q1 q2 q3
  subst q1 q2 q3
  have y0 : l0.length * 32 ≤ 140737488351232 := sized_row hsz (j := 0) (t := 22) rfl rfl Try.underlying22 (by kernel_rfl) hs0
  clear hA0 hval0 hsz0 hsz
  have hk := Pure.HeapTrails l0 y0 hw0
  refine (juristlaw02_HeapTrails.calls _ _ l0 true W hC0 hl0 hk).mono fun e W' ⟨he, bel⟩ => ?_
  subst he
  exact ⟨_, rfl, _, _, _, [], _, [], hW', trodAll_mk1 (shut_bool Try.underlying4 _), (trodAll_cons_mk (Below.trod laidOut (by kernel_rfl) (of_decide_eq_true (by kernel_rfl)) k0 bel lt0) trodAll_mk0), rfl, bel.frame _, fun h => by cases h⟩
theorem over : Rows.heapTrailsRow.holds Try.pinned (OpenSpec.ofChange Rows.heapTrailsSpec) :=
  OpenClaim.holds_of_wide 3 Try.f3 rfl rfl rfl rfl rfl rfl rfl ⟨rfl, rfl, rfl, rfl, rfl⟩ rfl rfl rfl rfl rfl (by kernel_rfl) Try.func3 (by kernel_rfl)
    (of_decide_eq_true (by kernel_rfl)) (by unfold Func.isWrapper; first | (rw [if_pos (by decide +kernel)]; kernel_rfl) | (rw [if_neg (by decide +kernel)]; exact ⟨rfl, rfl⟩))
    (fun os started H enc _ => lifted os started H enc)
theorem proved : Rows.HeapTrailsSaid := over
#print axioms proved
end Go.Proofs.Ytegcfaohhcjajaa.heapTrails
namespace Go.Proofs.Ytegcfaohhcjajaa
/-- The row, under a short name, for the claim. -/
theorem heapTrails_holds : Rows.HeapTrailsSaid := heapTrails.proved
end Go.Proofs.Ytegcfaohhcjajaa
