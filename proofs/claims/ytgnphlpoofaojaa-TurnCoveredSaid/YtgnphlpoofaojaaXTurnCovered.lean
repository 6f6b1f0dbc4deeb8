/-
  TurnCovered: the law returns true.
-/
import Derived.Test.YtgnphlpoofaojaaRows
import Derived.Test.YtgnphlpoofaojaaB
import Derived.Test.YtgnphlpoofaojaaK
import Derived.Test.YtgnphlpoofaojaaXWorths
import Derived.Test.YtgnphlpoofaojaaXLaw
import Derived.Test.YtgnphlpoofaojaaXCon
import Derived.Test.YtgnphlpoofaojaaXRed
import Derived.Test.YtgnphlpoofaojaaXBests
import Derived.Test.YtgnphlpoofaojaaXLawbest
import Derived.Test.YtgnphlpoofaojaaXConb
import Derived.Test.YtgnphlpoofaojaaXCovs
import Derived.Test.YtgnphlpoofaojaaXLawcov
import Derived.Test.YtgnphlpoofaojaaXHulls
import Derived.Test.YtgnphlpoofaojaaXHullm
import Derived.Test.YtgnphlpoofaojaaXNeeds
import Derived.Test.YtgnphlpoofaojaaXLawh
import Derived.Test.YtgnphlpoofaojaaXLawn
import Derived.Test.YtgnphlpoofaojaaXLawnn
import Derived.Test.YtgnphlpoofaojaaXBothm
import Derived.Test.YtgnphlpoofaojaaXCoverm
import Derived.Test.YtgnphlpoofaojaaXCovereds
import Derived.Test.YtgnphlpoofaojaaXLawcd
import Derived.Test.YtgnphlpoofaojaaV31
import Derived.WalkKit
import Derived.ProofKit
import Derived.OpenShut
namespace Go.Proofs.Ytgnphlpoofaojaa.turnCovered
open Go.ChangeShapes Go.WideShapes Go.ChangeAt Go.RowKit Go.V

theorem own : ownKnob Try.prog.godebug = none := by kernel_rfl
theorem laid : laidOutB Try.prog = true := by kernel_rfl
set_option maxRecDepth 100000 in
theorem lifted (os : Os) (started : os.Started) (H : Type) (enc : TypeId × Value → H) :
    ReturnsInHanded {} Try.checked os 13 .any (Rows.turnCoveredSpec.pre6 enc Try.prog Try.f13 Rows.turnCoveredRow.domain false) (Rows.turnCoveredSpec.post enc Try.prog Try.f13 false true false false) := by
  refine returnsInHanded_of_change (C := Try.checked) own started (by kernel_rfl) Try.func13
    (ChangeSpec.witness6 (enc := enc) (C := Try.checked) false ⟨#[], #[.agg #[.int .u8 0, .int .i8 0, .int .i8 0, .int .i8 0, .int .i8 0, .int .i8 0, .int .i8 0, .int .i8 0, .int .i8 0, .int .i8 0, .int .i8 0, .int .i8 0, .int .i8 0, .int .i8 0, .int .i8 0, .int .i8 0, .int .i8 0]], []⟩ 8 (by kernel_rfl) (by kernel_rfl) (by kernel_rfl) (by kernel_rfl)) ?_
  intro W base args ds gs before hval0 hW hcnd _
  have hW' := hW
  obtain ⟨p, q, hA0, hV, rfl, hfz, hnd⟩ := hW
  have hA : DataW.TrodAll enc Try.prog W 0 (fun _ => true) true Try.f13.params.toList args.toList ds p := hA0
  rw [Try.params13] at hA
  obtain ⟨v0, vs0, d0, ds0, p0, q0, e0, rfl, rfl, h0, hr0⟩ := trodAll_cons hA
  obtain ⟨rfl, rfl, rfl⟩ := trodAll_nil hr0
  obtain rfl : args = #[v0] := by cases args; simp_all
  obtain ⟨x0, k0, t0⟩ := arg_agg (n := 8) tab_ok (hval0 0 70 v0 rfl rfl) h0 (by kernel_rfl) (by kernel_rfl)
  obtain ⟨rfl, rfl⟩ := trodVars_none hV
  clear hA0 hval0
  simp only [List.append_nil] at hW'
  refine (FnP.calls (W := W) (vals := #[v0]) (con13 x0 t0) (.cons _ _ _ _ k0 .nil) (fun x hx => by simp [Gv] at hx)).mono fun e W' ⟨he, hg⟩ => ?_
  subst he
  exact ⟨_, rfl, post_of_kept (pv := []) hW' (fun _ _ _ => trodAll_cons_mk (shut_bool Try.underlying4 _) trodAll_mk0) (fun sp hsp => trodAll_cons_mk (Kept.trod hg laid (by kernel_rfl) (of_decide_eq_true (by kernel_rfl)) h0 (fun y hy => hsp y (by simp [hy]))) (trodAll_mk0)) (fun _ _ => rfl) (by simp)
    hg (ok_one (by kernel_rfl) rfl (okWide_bool_mk Try.underlying4 _))⟩

theorem over : Rows.turnCoveredRow.holds Try.pinned (OpenSpec.ofChange Rows.turnCoveredSpec) :=
  OpenClaim.holds_of_wide 13 Try.f13 rfl rfl rfl rfl rfl rfl rfl ⟨rfl, rfl, rfl, rfl, rfl⟩ rfl rfl rfl rfl rfl (by kernel_rfl) Try.func13 (by kernel_rfl)
    (of_decide_eq_true (by kernel_rfl)) (by unfold Func.isWrapper; first | (rw [if_pos (by decide +kernel)]; kernel_rfl) | (rw [if_neg (by decide +kernel)]; exact ⟨rfl, rfl⟩))
    (fun os started H enc _ => lifted os started H enc)

end Go.Proofs.Ytgnphlpoofaojaa.turnCovered
namespace Go.Proofs.Ytgnphlpoofaojaa
/-- the statement -/
theorem turnCovered_holds : Rows.TurnCoveredSaid := turnCovered.over
#print axioms turnCovered_holds
end Go.Proofs.Ytgnphlpoofaojaa
