/- How the struct types of this seat's laws are read as data. -/
import Derived.Test.YtmgbodmpjholiaaOpenW
import Derived.Test.YtmgbodmpjholiaaHkx0
import Derived.KernelRfl
namespace Go.Proofs.Ytmgbodmpjholiaa.Open
open Go.ChangeShapes Go.WideShapes Go.RowKit Go.Proofs.Ytmgbodmpjholiaa.Hk Go.Proofs.YtmgbodmpjholiaaW.PrintWords Go.Proofs.YtmgbodmpjholiaaW.PrintLast Go.Proofs.YtmgbodmpjholiaaW.PrintMore
theorem opens_string {P : Program} {t : TypeId} (ht : P.underlying t = some .string) : Opens P t Kd.string (fun s => s.size ≤ maxLen) := by
  intro H enc W fuel cs x h
  obtain ⟨s, rfl, _, hw⟩ := DataW.trod_string ht h
  exact ⟨s, rfl, hw⟩
theorem opens45 : OpensW Try.prog 45 k45 (fun x => ((Lit.int .i64 x.f0).wf = true) ∧ ((Lit.int .i64 x.f1).wf = true) ∧ ((Lit.int .i64 x.f2).wf = true) ∧ ((Lit.int .i64 x.f3).wf = true) ∧ ((∀ y ∈ x.f4, (Lit.int .i64 y).wf = true) ∧ x.f4.length * 8 ≤ 140737488351232) ∧ ((Lit.int .i64 x.f5).wf = true) ∧ ((Lit.int .i64 x.f6).wf = true) ∧ ((Lit.int .i64 x.f7).wf = true) ∧ (True)) := by
  have h := opensW_iso (t := 45) (fun x : S45 => (x.f0, x.f1, x.f2, x.f3, x.f4, x.f5, x.f6, x.f7, x.f8)) (fun y => (⟨y.1, y.2.1, y.2.2.1, y.2.2.2.1, y.2.2.2.2.1, y.2.2.2.2.2.1, y.2.2.2.2.2.2.1, y.2.2.2.2.2.2.2.1, y.2.2.2.2.2.2.2.2⟩ : S45)) (fun _ => rfl) (opensW_struct Try.underlying45 (by kernel_rfl) (fieldsW_cons rfl (by kernel_rfl) (opensW_of (opens_int Try.underlying3)) (fieldsW_cons rfl (by kernel_rfl) (opensW_of (opens_int Try.underlying26)) (fieldsW_cons rfl (by kernel_rfl) (opensW_of (opens_int Try.underlying26)) (fieldsW_cons rfl (by kernel_rfl) (opensW_of (opens_int Try.underlying26)) (fieldsW_cons rfl (by kernel_rfl) (opensW_slice Try.underlying43 (by kernel_rfl) 8 (by kernel_rfl) (opensW_of (opens_int Try.underlying26))) (fieldsW_cons rfl (by kernel_rfl) (opensW_of (opens_int Try.underlying3)) (fieldsW_cons rfl (by kernel_rfl) (opensW_of (opens_int Try.underlying30)) (fieldsW_cons rfl (by kernel_rfl) (opensW_of (opens_int Try.underlying2)) (fieldsW_last rfl (by kernel_rfl) (opensW_of (opens_bool Try.underlying4))))))))))))
  intro H enc W fuel cs x hx hL
  obtain ⟨a, ha, hw⟩ := h H enc W fuel cs x hx hL
  exact ⟨a, ha, hw⟩
end Go.Proofs.Ytmgbodmpjholiaa.Open
