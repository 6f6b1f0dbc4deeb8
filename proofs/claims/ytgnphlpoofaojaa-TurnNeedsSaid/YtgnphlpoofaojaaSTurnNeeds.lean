/-
  TurnNeeds: the law returns true.
-/
import Derived.Test.YtgnphlpoofaojaaRows
import Derived.Test.YtgnphlpoofaojaaB
import Derived.Test.YtgnphlpoofaojaaK
import Derived.Test.YtgnphlpoofaojaaSWorths
import Derived.Test.YtgnphlpoofaojaaSLaw
import Derived.Test.YtgnphlpoofaojaaSCon
import Derived.Test.YtgnphlpoofaojaaSRed
import Derived.Test.YtgnphlpoofaojaaSCovs
import Derived.Test.YtgnphlpoofaojaaSLawcov
import Derived.Test.YtgnphlpoofaojaaSHulls
import Derived.Test.YtgnphlpoofaojaaSHullm
import Derived.Test.YtgnphlpoofaojaaSNeeds
import Derived.Test.YtgnphlpoofaojaaSLawh
import Derived.Test.YtgnphlpoofaojaaSLawn
import Derived.Test.YtgnphlpoofaojaaSLawnn
import Derived.Test.YtgnphlpoofaojaaV31
import Derived.WalkKit
import Derived.ProofKit
import Derived.OpenShut
namespace Go.Proofs.Ytgnphlpoofaojaa.turnNeeds
open Go.ChangeShapes Go.WideShapes Go.ChangeAt Go.RowKit Go.V

theorem own : ownKnob Try.prog.godebug = none := by kernel_rfl
theorem laid : laidOutB Try.prog = true := by kernel_rfl
set_option maxRecDepth 100000 in
theorem lifted (os : Os) (started : os.Started) (H : Type) (enc : TypeId × Value → H) :
    ReturnsInHanded {} Try.checked os 4 .any (Rows.turnNeedsSpec.pre6 enc Try.prog Try.f4 Rows.turnNeedsRow.domain false) (Rows.turnNeedsSpec.post enc Try.prog Try.f4 false true false false) := by
  refine returnsInHanded_of_change (C := Try.checked) own started (by kernel_rfl) Try.func4
    (ChangeSpec.witness6 (enc := enc) (C := Try.checked) false ⟨#[], #[.slice none 0 0], []⟩ 8 (by kernel_rfl) (by kernel_rfl) (by kernel_rfl) (by kernel_rfl)) ?_
  intro W base args ds gs before hval0 hW hcnd _
  have hW' := hW
  obtain ⟨p, q, hA0, hV, rfl, hfz, hnd⟩ := hW
  have hA : DataW.TrodAll enc Try.prog W 0 (fun _ => true) true Try.f4.params.toList args.toList ds p := hA0
  rw [Try.params4] at hA
  obtain ⟨v0, vs0, d0, ds0, p0, q0, e0, rfl, rfl, h0, hr0⟩ := trodAll_cons hA
  obtain ⟨rfl, rfl, rfl⟩ := trodAll_nil hr0
  obtain rfl : args = #[v0] := by cases args; simp_all
  obtain ⟨x0, k0, t0⟩ := arg_one (n := 8) tab_ok (hval0 0 22 v0 rfl rfl) h0 (by kernel_rfl) (by kernel_rfl)
  obtain ⟨rfl, rfl⟩ := trodVars_none hV
  clear hA0 hval0
  simp only [List.append_nil] at hW'
  refine (FnP.calls (W := W) (vals := #[v0]) (con4 x0 t0) (.cons _ _ _ _ k0 .nil) (fun x hx => by simp [Gv] at hx)).mono fun e W' ⟨he, hg⟩ => ?_
  subst he
  exact ⟨_, rfl, post_of_kept (pv := []) hW' (fun _ _ _ => trodAll_cons_mk (shut_bool Try.underlying4 _) trodAll_mk0) (fun sp hsp => trodAll_cons_mk (Kept.trod hg laid (by kernel_rfl) (of_decide_eq_true (by kernel_rfl)) h0 (fun y hy => hsp y (by simp [hy]))) (trodAll_mk0)) (fun _ _ => rfl) (by simp)
    hg (ok_one (by kernel_rfl) rfl (okWide_bool_mk Try.underlying4 _))⟩

theorem over : Rows.turnNeedsRow.holds Try.pinned (OpenSpec.ofChange Rows.turnNeedsSpec) :=
  OpenClaim.holds_of_wide 4 Try.f4 rfl rfl rfl rfl rfl rfl rfl ⟨rfl, rfl, rfl, rfl, rfl⟩ rfl rfl rfl rfl rfl (by kernel_rfl) Try.func4 (by kernel_rfl)
    (of_decide_eq_true (by kernel_rfl)) (by unfold Func.isWrapper; first | (rw [if_pos (by decide +kernel)]; kernel_rfl) | (rw [if_neg (by decide +kernel)]; exact ⟨rfl, rfl⟩))
    (fun os started H enc _ => lifted os started H enc)

end Go.Proofs.Ytgnphlpoofaojaa.turnNeeds
namespace Go.Proofs.Ytgnphlpoofaojaa
/-- the statement -/
theorem turnNeeds_holds : Rows.TurnNeedsSaid := turnNeeds.over
#print axioms turnNeeds_holds
end Go.Proofs.Ytgnphlpoofaojaa
