import Derived.Test.YtgnphlpoofaojaaUWorths
import Derived.Test.YtgnphlpoofaojaaB
import Derived.Test.YtgnphlpoofaojaaV30
namespace Go.Proofs.Ytgnphlpoofaojaa
open Go.V
set_option maxRecDepth 100000
set_option maxHeartbeats 4000000
set_option linter.unusedSimpArgs false
set_option linter.unusedVariables false
attribute [local go_sem] tl1 tl2 tl3 tl4 tl5 tl9 tl17 tl21 tl22 tl23 tl24 tl25 tl26 tl27 tl28 tl29 tl31 tl33 tl34 tl36 tl37 tl38 tl39 tl40 tl41 tl42 tl43 tl44 tl46 tl47 tl49 tl50 tl52 tl53 tl54 tl55 tl56 tl57 tl58 tl60 tl62 tl63 tl64 tl65 tl66 tl67 tl68 tl69 tl70 tl71 tl72 tl74 tl75 tl76 tl77 tl78 tl79 tl80 tl81 tl82 tl83 tl84 tl85 tl86 tl87 tl88 tl89 tl90 tl91 tl92 tl93 tl94 tl95 tl96 tl97 tl98 tl99 tl100 tl102 tl103 tl104 tl105 tl106 tl107 tl108 tl109 tl110 tl111 tl112 tl113 tl114 tl115 tl116 tl117 tl118 tl119 tl120 tl121 tl122 tl123 tl124 tl125 tl126 tl127 tl128 tl129 tl130 tl131 tl132 tl133 tl134 tl140 tl141 tl145

def m86 (N : Nat) (p621 : PV) (p622 : PV) (p623 : PV) : Option (PV) :=
  getA2 p621 fun p625 p626 =>
  getA2 p622 fun p628 p629 =>
  getA2 p623 fun p631 p632 =>
  getI .i64 p628 fun x634 =>
  getI .i64 p625 fun x636 =>
  getI .i64 p632 fun x638 =>
  getI .i64 p629 fun x640 =>
  getI .i64 p631 fun x642 =>
  getI .i64 p626 fun x644 =>
  some (.bool (decide ((IntKind.i64.wrap ((IntKind.i64.wrap (x634 - x636)) * (IntKind.i64.wrap (x638 - x640)))) > (IntKind.i64.wrap ((IntKind.i64.wrap (x642 - x634)) * (IntKind.i64.wrap (x640 - x644)))))))
theorem c86 (N : Nat) (p621 : PV) (p622 : PV) (p623 : PV) (r : PV)  (h : m86 N p621 p622 p623 = some r) : FnP Try.prog 86 [p621, p622, p623] r := by
  unfold m86 at h
  refine Fn_of (sz := 30) tab_ok [0, 1, 2, 3, 4, 5, 6] [.tmp 6] Try.func86 rfl rfl rfl (by simp) ?_
  simp only [initSt, initEnv, List.map_cons, List.map_nil, List.getD_cons_zero, List.getD_cons_succ, List.getD_nil]
  have hh := getA2_some h; clear h; obtain ⟨p625, p626, h624, h⟩ := hh
  have hh := getA2_some h; clear h; obtain ⟨p628, p629, h627, h⟩ := hh
  have hh := getA2_some h; clear h; obtain ⟨p631, p632, h630, h⟩ := hh
  have hh := getI_some h; clear h; obtain ⟨x634, h633, h⟩ := hh
  have hh := getI_some h; clear h; obtain ⟨x636, h635, h⟩ := hh
  have hh := getI_some h; clear h; obtain ⟨x638, h637, h⟩ := hh
  have hh := getI_some h; clear h; obtain ⟨x640, h639, h⟩ := hh
  have hh := getI_some h; clear h; obtain ⟨x642, h641, h⟩ := hh
  have hh := getI_some h; clear h; obtain ⟨x644, h643, h⟩ := hh
  refine W_sound tab_ok mixed 35 _ _ _ ?_
  simp -implicitDefEqProofs only [go_sem, ne_eq, not_false_eq_true, Nat.reduceBEq, Nat.reduceAdd, Nat.reduceSub, Nat.reduceMul, Nat.reduceLT, Nat.reduceLeDiff, Int.reduceLE, Int.reduceLT, Int.reduceToNat, Int.reduceBEq, Int.reduceBNe, Int.le_refl, Nat.le_refl, decide_true, decide_false, Int.cast_ofNat_Int, ↓reduceIte, h624, h627, h630, h633, h635, h637, h639, h641, h643]
  repeat with_reducible refine And.intro (by first | kernel_rfl | decide) ?_
  obtain rfl := Option.some.inj h
  exact finC [(6, .v (.bool (decide ((IntKind.i64.wrap ((IntKind.i64.wrap (x634 - x636)) * (IntKind.i64.wrap (x638 - x640)))) > (IntKind.i64.wrap ((IntKind.i64.wrap (x642 - x634)) * (IntKind.i64.wrap (x640 - x644))))))))] [(6, .v (.bool (decide ((IntKind.i64.wrap ((IntKind.i64.wrap (x634 - x636)) * (IntKind.i64.wrap (x638 - x640)))) > (IntKind.i64.wrap ((IntKind.i64.wrap (x642 - x634)) * (IntKind.i64.wrap (x640 - x644))))))))] (by simp [leE, lk_cons]) (.cons _ _ _ _ _ (.v _ _ (.refl _)) .nil) (by rfl) (by simp [leE, lk_cons]) (by decide) (by decide) rfl (by simp only [go_sem, ne_eq, not_false_eq_true, Nat.reduceBEq, Nat.reduceAdd, Nat.reduceSub, Nat.reduceMul, Nat.reduceLT, Nat.reduceLeDiff, Int.reduceLE, Int.reduceLT, Int.reduceToNat, Int.reduceBEq, Int.reduceBNe, Int.le_refl, Nat.le_refl, decide_true, decide_false, Int.cast_ofNat_Int, ↓reduceIte, resQ_tmp, resQ_cell, resQ_nil, retD_one, retD_two, retD_three, retD_none]; try simp [R.val, retD_one, retD_two, retD_three, retD_none])

end Go.Proofs.Ytgnphlpoofaojaa
