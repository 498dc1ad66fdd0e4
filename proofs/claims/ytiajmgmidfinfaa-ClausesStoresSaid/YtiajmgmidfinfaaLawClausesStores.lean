/- The row of the law jurist/juristlaw14.ClausesStores: out of its plain law and the printed contract. -/
import Derived.Test.YtiajmgmidfinfaaRows
import Derived.Test.YtiajmgmidfinfaaOpenK
import Derived.Test.YtiajmgmidfinfaaPureClausesStores
import Derived.WalkKit
import Derived.ProofKit
import Derived.OpenShut
import Derived.ShutString
import Derived.ChangeOld
import Derived.Below
import Derived.SizedLaws
namespace Go.Proofs.Ytiajmgmidfinfaa.clausesStores
open Go.ChangeShapes Go.WideShapes Go.ChangeAt Go.RowKit Go.Proofs.Ytiajmgmidfinfaa.Open Go.Proofs.Ytiajmgmidfinfaa.Hk Go.Proofs.YtiajmgmidfinfaaW.PrintWords Go.Proofs.YtiajmgmidfinfaaW.PrintLast Go.Proofs.YtiajmgmidfinfaaW.PrintMore
set_option linter.unusedVariables false
theorem own : ownKnob Try.prog.godebug = none := by kernel_rfl
theorem laidOut : laidOutB Try.prog = true := by kernel_rfl
set_option maxRecDepth 100000 in
theorem lifted (os : Os) (started : os.Started) (H : Type) (enc : TypeId × Value → H) :
    ReturnsInHanded {} Try.checked os 9 .any (Rows.clausesStoresSpec.pre6 enc Try.prog Try.f9 Rows.clausesStoresRow.domain false) (Rows.clausesStoresSpec.post enc Try.prog Try.f9 false true false false) := by
  refine returnsInHanded_of_change_sized (C := Try.checked) own started (by kernel_rfl) Try.func9
    (ChangeSpec.witness6 (enc := enc) (C := Try.checked) false ⟨#[], #[.slice none 0 0, .slice none 0 0], []⟩ 8 (by kernel_rfl) (by kernel_rfl) (by kernel_rfl) (by kernel_rfl)) ?_
  intro W base args ds gs before hval0 hW hcnd hsz0 _
  have hsz : (DataW.weightsEach Try.prog (Try.f9.params.toList ++ Rows.clausesStoresSpec.plain.varTypes Try.prog) (ds ++ gs)).all (· ≤ reachBytes) = true := hsz0
  have hval : ∀ (j : Nat) t v, Try.f9.params[j]? = some t → args[j]? = some v → Value.okWide Try.prog W .any base t v := hval0
  have hW' := hW
  obtain ⟨p, q, hA0, hV, rfl, hfz, hnd⟩ := hW
  have hA : DataW.TrodAll enc Try.prog W 0 (fun _ => true) true Try.f9.params.toList args.toList ds p := hA0
  rw [Try.params9] at hA hval hsz
  obtain ⟨v0, vs0, d0, ds0, p0, q0, hargs, rfl, rfl, h0, r0⟩ := trodAll_cons hA
  obtain ⟨v1, vs1, d1, ds1, p1, q1, rfl, rfl, rfl, h1, r1⟩ := trodAll_cons r0
  obtain ⟨rfl, rfl, rfl⟩ := trodAll_nil r1
  obtain rfl : args = #[v0, v1] := by cases args; simp_all
  obtain ⟨rfl, rfl⟩ := trodVars_none hV
  obtain ⟨a0, len0, cap0, rfl⟩ := okWide_slice Try.underlying38 (hval 0 38 v0 rfl rfl)
  have k0 := h0
  have lt0 : ∀ x ∈ p0, x.block < W.heap.size := by obtain ⟨m, hm⟩ := k0; exact DataW.trod_lt m _ _ _ hm
  obtain ⟨fuel0, hf0⟩ := h0
  obtain ⟨A0, c0, l0, hv0, hl0, hC0, hw0, hs0⟩ := opens_row (d := (Kd.slice 25 (Kd.int .i64))) Try.underlying38 (by kernel_rfl) (opens_slice Try.underlying22 (by kernel_rfl) (opens_int Try.underlying25)) hf0
  have hv0' : (.slice a0 len0 cap0 : Value) = .slice A0 l0.length c0 := by simpa [Value.cells] using hv0
  injection hv0' with q1 q2 q3
  subst q1 q2 q3
  have y0 : l0.length * 24 ≤ 140737488351232 := sized_row hsz (j := 0) (t := 38) rfl rfl Try.underlying38 (by kernel_rfl) hs0
  obtain ⟨a1, len1, cap1, rfl⟩ := okWide_slice Try.underlying38 (hval 1 38 v1 rfl rfl)
  have k1 := h1
  have lt1 : ∀ x ∈ p1, x.block < W.heap.size := by obtain ⟨m, hm⟩ := k1; exact DataW.trod_lt m _ _ _ hm
  obtain ⟨fuel1, hf1⟩ := h1
  obtain ⟨A1, c1, l1, hv1, hl1, hC1, hw1, hs1⟩ := opens_row (d := (Kd.slice 25 (Kd.int .i64))) Try.underlying38 (by kernel_rfl) (opens_slice Try.underlying22 (by kernel_rfl) (opens_int Try.underlying25)) hf1
  have hv1' : (.slice a1 len1 cap1 : Value) = .slice A1 l1.length c1 := by simpa [Value.cells] using hv1
  injection hv1' with q1 q2 q3
  subst q1 q2 q3
  have y1 : l1.length * 24 ≤ 140737488351232 := sized_row hsz (j := 1) (t := 38) rfl rfl Try.underlying38 (by kernel_rfl) hs1
  clear hA0 hval0 hsz0 hsz
  obtain ⟨k, hk⟩ := Pure.ClausesStores l0 y0 hw0 l1 y1 hw1
  refine (juristlaw14_ClausesStores.calls k _ _ l0 _ _ l1 true W hC0 hl0 hC1 hl1 hk).mono fun e W' ⟨he, bel⟩ => ?_
  subst he
  exact ⟨_, rfl, _, _, _, [], _, [], hW', trodAll_mk1 (shut_bool Try.underlying4 _), (trodAll_cons_mk (Below.trod laidOut (by kernel_rfl) (of_decide_eq_true (by kernel_rfl)) k0 bel lt0) (trodAll_cons_mk (Below.trod laidOut (by kernel_rfl) (of_decide_eq_true (by kernel_rfl)) k1 bel lt1) trodAll_mk0)), rfl, bel.frame _, fun h => by cases h⟩
theorem over : Rows.clausesStoresRow.holds Try.pinned (OpenSpec.ofChange Rows.clausesStoresSpec) :=
  OpenClaim.holds_of_wide 9 Try.f9 rfl rfl rfl rfl rfl rfl rfl ⟨rfl, rfl, rfl, rfl, rfl⟩ rfl rfl rfl rfl rfl (by kernel_rfl) Try.func9 (by kernel_rfl)
    (of_decide_eq_true (by kernel_rfl)) (by unfold Func.isWrapper; first | (rw [if_pos (by decide +kernel)]; kernel_rfl) | (rw [if_neg (by decide +kernel)]; exact ⟨rfl, rfl⟩))
    (fun os started H enc _ => lifted os started H enc)
theorem proved : Rows.ClausesStoresSaid := over
#print axioms proved
end Go.Proofs.Ytiajmgmidfinfaa.clausesStores
namespace Go.Proofs.Ytiajmgmidfinfaa
/-- The row, under a short name, for the claim. -/
theorem clausesStores_holds : Rows.ClausesStoresSaid := clausesStores.proved
end Go.Proofs.Ytiajmgmidfinfaa
