import Derived.Test.YtgnphlpoofaojaaWorths
import Derived.Test.YtgnphlpoofaojaaB
import Derived.Test.YtgnphlpoofaojaaV30
namespace Go.Proofs.Ytgnphlpoofaojaa
open Go.V
set_option maxRecDepth 100000
set_option maxHeartbeats 4000000
set_option linter.unusedSimpArgs false
set_option linter.unusedVariables false
attribute [local go_sem] tl1 tl2 tl3 tl4 tl5 tl9 tl17 tl21 tl22 tl23 tl24 tl25 tl26 tl27 tl28 tl29 tl31 tl33 tl34 tl36 tl37 tl38 tl39 tl40 tl41 tl42 tl43 tl44 tl46 tl47 tl49 tl50 tl52 tl53 tl54 tl55 tl56 tl57 tl58 tl60 tl62 tl63 tl64 tl65 tl66 tl67 tl68 tl69 tl70 tl71 tl72 tl74 tl75 tl76 tl77 tl78 tl79 tl80 tl81 tl82 tl83 tl84 tl85 tl86 tl87 tl88 tl89 tl90 tl91 tl92 tl93 tl94 tl95 tl96 tl97 tl98 tl99 tl100 tl102 tl103 tl104 tl105 tl106 tl107 tl108 tl109 tl110 tl111 tl112 tl113 tl114 tl115 tl116 tl117 tl118 tl119 tl120 tl121 tl122 tl123 tl124 tl125 tl126 tl127 tl128 tl129 tl130 tl131 tl132 tl133 tl134 tl140 tl141 tl145

/-! breeze/turn.above -/
def m86 (N : Nat) (p621 : PV) (p622 : PV) (p623 : PV) : Option (PV) :=
  getA2 p621 fun p625 p626 =>
  getA2 p622 fun p628 p629 =>
  getA2 p623 fun p631 p632 =>
  getI .i64 p628 fun x634 =>
  getI .i64 p625 fun x636 =>
  getI .i64 p632 fun x638 =>
  getI .i64 p629 fun x640 =>
  getI .i64 p631 fun x642 =>
  getI .i64 p626 fun x644 =>
  some (.bool (decide ((IntKind.i64.wrap ((IntKind.i64.wrap (x634 - x636)) * (IntKind.i64.wrap (x638 - x640)))) > (IntKind.i64.wrap ((IntKind.i64.wrap (x642 - x634)) * (IntKind.i64.wrap (x640 - x644)))))))
theorem c86 (N : Nat) (p621 : PV) (p622 : PV) (p623 : PV) (r : PV)  (h : m86 N p621 p622 p623 = some r) : FnP Try.prog 86 [p621, p622, p623] r := by
  unfold m86 at h
  refine Fn_of (sz := 30) tab_ok [0, 1, 2, 3, 4, 5, 6] [.tmp 6] Try.func86 rfl rfl rfl (by simp) ?_
  simp only [initSt, initEnv, List.map_cons, List.map_nil, List.getD_cons_zero, List.getD_cons_succ, List.getD_nil]
  have hh := getA2_some h; clear h; obtain ⟨p625, p626, h624, h⟩ := hh
  have hh := getA2_some h; clear h; obtain ⟨p628, p629, h627, h⟩ := hh
  have hh := getA2_some h; clear h; obtain ⟨p631, p632, h630, h⟩ := hh
  have hh := getI_some h; clear h; obtain ⟨x634, h633, h⟩ := hh
  have hh := getI_some h; clear h; obtain ⟨x636, h635, h⟩ := hh
  have hh := getI_some h; clear h; obtain ⟨x638, h637, h⟩ := hh
  have hh := getI_some h; clear h; obtain ⟨x640, h639, h⟩ := hh
  have hh := getI_some h; clear h; obtain ⟨x642, h641, h⟩ := hh
  have hh := getI_some h; clear h; obtain ⟨x644, h643, h⟩ := hh
  refine W_sound tab_ok mixed 35 _ _ _ ?_
  simp -implicitDefEqProofs only [go_sem, ne_eq, not_false_eq_true, Nat.reduceBEq, Nat.reduceAdd, Nat.reduceSub, Nat.reduceMul, Nat.reduceLT, Nat.reduceLeDiff, Int.reduceLE, Int.reduceLT, Int.reduceToNat, Int.reduceBEq, Int.reduceBNe, Int.le_refl, Nat.le_refl, decide_true, decide_false, Int.cast_ofNat_Int, ↓reduceIte, h624, h627, h630, h633, h635, h637, h639, h641, h643]
  repeat with_reducible refine And.intro (by first | kernel_rfl | decide) ?_
  obtain rfl := Option.some.inj h
  exact finC [(6, .v (.bool (decide ((IntKind.i64.wrap ((IntKind.i64.wrap (x634 - x636)) * (IntKind.i64.wrap (x638 - x640)))) > (IntKind.i64.wrap ((IntKind.i64.wrap (x642 - x634)) * (IntKind.i64.wrap (x640 - x644))))))))] [(6, .v (.bool (decide ((IntKind.i64.wrap ((IntKind.i64.wrap (x634 - x636)) * (IntKind.i64.wrap (x638 - x640)))) > (IntKind.i64.wrap ((IntKind.i64.wrap (x642 - x634)) * (IntKind.i64.wrap (x640 - x644))))))))] (by simp [leE, lk_cons]) (.cons _ _ _ _ _ (.v _ _ (.refl _)) .nil) (by rfl) (by simp [leE, lk_cons]) (by decide) (by decide) rfl (by simp only [go_sem, ne_eq, not_false_eq_true, Nat.reduceBEq, Nat.reduceAdd, Nat.reduceSub, Nat.reduceMul, Nat.reduceLT, Nat.reduceLeDiff, Int.reduceLE, Int.reduceLT, Int.reduceToNat, Int.reduceBEq, Int.reduceBNe, Int.le_refl, Nat.le_refl, decide_true, decide_false, Int.cast_ofNat_Int, ↓reduceIte, resQ_tmp, resQ_cell, resQ_nil, retD_one, retD_two, retD_three, retD_none]; try simp [R.val, retD_one, retD_two, retD_three, retD_none])

/-! breeze/turn.covers -/
def m69 (N : Nat) (p645 : PV) (p646 : PV) (p647 : PV) : Option (PV) :=
  getA2 p645 fun p649 p650 =>
  getA2 p646 fun p652 p653 =>
  getA2 p647 fun p655 p656 =>
  getI .i64 p650 fun x658 =>
  getI .i64 p653 fun x660 =>
  brn (decide (x658 > x660)) (
    brn (x660 == x658) (
      getI .i64 p656 fun x664 =>
      brn (x664 == x660) (
        getI .i64 p655 fun x667 =>
        getI .i64 p652 fun x669 =>
        getI .i64 p649 fun x671 =>
        some (.bool (decide (x667 ≤ (maxI x669 x671))))) (
        some (.bool false))) (
      getI .i64 p656 fun x673 =>
      brn (decide (x673 < x660)) (
        some (.bool false)) (
        brn (decide (x673 > x658)) (
          some (.bool false)) (
          brn (x673 == x660) (
            getI .i64 p655 fun x678 =>
            getI .i64 p652 fun x680 =>
            some (.bool (decide (x678 ≤ x680)))) (
            brn (x673 == x658) (
              getI .i64 p655 fun x683 =>
              getI .i64 p649 fun x685 =>
              some (.bool (decide (x683 ≤ x685)))) (
              bnd' (m86 N (.agg [p652, (.int .i64 x660)]) (.agg [p655, (.int .i64 x673)]) (.agg [p649, (.int .i64 x658)])) fun p686 =>
              getB p686 fun b689 =>
              brn b689 (
                some (.bool false)) (
                some (.bool true)))))))) (
    brn (x658 == x660) (
      getI .i64 p656 fun x693 =>
      brn (x693 == x658) (
        getI .i64 p655 fun x696 =>
        getI .i64 p649 fun x698 =>
        getI .i64 p652 fun x700 =>
        some (.bool (decide (x696 ≤ (maxI x698 x700))))) (
        some (.bool false))) (
      getI .i64 p656 fun x702 =>
      brn (decide (x702 < x658)) (
        some (.bool false)) (
        brn (decide (x702 > x660)) (
          some (.bool false)) (
          brn (x702 == x658) (
            getI .i64 p655 fun x707 =>
            getI .i64 p649 fun x709 =>
            some (.bool (decide (x707 ≤ x709)))) (
            brn (x702 == x660) (
              getI .i64 p655 fun x712 =>
              getI .i64 p652 fun x714 =>
              some (.bool (decide (x712 ≤ x714)))) (
              bnd' (m86 N (.agg [p649, (.int .i64 x658)]) (.agg [p655, (.int .i64 x702)]) (.agg [p652, (.int .i64 x660)])) fun p715 =>
              getB p715 fun b718 =>
              brn b718 (
                some (.bool false)) (
                some (.bool true))))))))
theorem c69 (N : Nat) (p645 : PV) (p646 : PV) (p647 : PV) (r : PV)  (h : m69 N p645 p646 p647 = some r) : FnP Try.prog 69 [p645, p646, p647] r := by
  unfold m69 at h
  refine Fn_of (sz := 75) tab_ok [0, 1, 2, 3, 4, 5, 6, 11, 14, 35, 48, 59] [.tmp 6] Try.func69 rfl rfl rfl (by simp) ?_
  simp only [initSt, initEnv, List.map_cons, List.map_nil, List.getD_cons_zero, List.getD_cons_succ, List.getD_nil]
  have hh := getA2_some h; clear h; obtain ⟨p649, p650, h648, h⟩ := hh
  have hh := getA2_some h; clear h; obtain ⟨p652, p653, h651, h⟩ := hh
  have hh := getA2_some h; clear h; obtain ⟨p655, p656, h654, h⟩ := hh
  have hh := getI_some h; clear h; obtain ⟨x658, h657, h⟩ := hh
  have hh := getI_some h; clear h; obtain ⟨x660, h659, h⟩ := hh
  have hh := brn_some h; clear h; rcases hh with ⟨h661, h⟩ | ⟨h661, h⟩
  · have hh := brn_some h; clear h; rcases hh with ⟨h662, h⟩ | ⟨h662, h⟩
    · have hh := getI_some h; clear h; obtain ⟨x664, h663, h⟩ := hh
      have hh := brn_some h; clear h; rcases hh with ⟨h665, h⟩ | ⟨h665, h⟩
      · have hh := getI_some h; clear h; obtain ⟨x667, h666, h⟩ := hh
        have hh := getI_some h; clear h; obtain ⟨x669, h668, h⟩ := hh
        have hh := getI_some h; clear h; obtain ⟨x671, h670, h⟩ := hh
        refine W_sound tab_ok mixed 55 _ _ _ ?_
        simp -implicitDefEqProofs only [go_sem, ne_eq, not_false_eq_true, Nat.reduceBEq, Nat.reduceAdd, Nat.reduceSub, Nat.reduceMul, Nat.reduceLT, Nat.reduceLeDiff, Int.reduceLE, Int.reduceLT, Int.reduceToNat, Int.reduceBEq, Int.reduceBNe, Int.le_refl, Nat.le_refl, decide_true, decide_false, Int.cast_ofNat_Int, ↓reduceIte, h648, h651, h654, h657, h659, h661, h662, h663, h665, h666, h668, h670]
        repeat with_reducible refine And.intro (by first | kernel_rfl | decide) ?_
        obtain rfl := Option.some.inj h
        exact finC [(6, .v (.bool (decide (x667 ≤ (maxI x669 x671)))))] [(6, .v (.bool (decide (x667 ≤ (maxI x669 x671)))))] (by simp [leE, lk_cons]) (.cons _ _ _ _ _ (.v _ _ (.refl _)) .nil) (by rfl) (by simp [leE, lk_cons]) (by decide) (by decide) rfl (by simp only [go_sem, ne_eq, not_false_eq_true, Nat.reduceBEq, Nat.reduceAdd, Nat.reduceSub, Nat.reduceMul, Nat.reduceLT, Nat.reduceLeDiff, Int.reduceLE, Int.reduceLT, Int.reduceToNat, Int.reduceBEq, Int.reduceBNe, Int.le_refl, Nat.le_refl, decide_true, decide_false, Int.cast_ofNat_Int, ↓reduceIte, resQ_tmp, resQ_cell, resQ_nil, retD_one, retD_two, retD_three, retD_none]; try simp [R.val, retD_one, retD_two, retD_three, retD_none])
      · refine W_sound tab_ok mixed 55 _ _ _ ?_
        simp -implicitDefEqProofs only [go_sem, ne_eq, not_false_eq_true, Nat.reduceBEq, Nat.reduceAdd, Nat.reduceSub, Nat.reduceMul, Nat.reduceLT, Nat.reduceLeDiff, Int.reduceLE, Int.reduceLT, Int.reduceToNat, Int.reduceBEq, Int.reduceBNe, Int.le_refl, Nat.le_refl, decide_true, decide_false, Int.cast_ofNat_Int, ↓reduceIte, h648, h651, h654, h657, h659, h661, h662, h663, h665]
        repeat with_reducible refine And.intro (by first | kernel_rfl | decide) ?_
        obtain rfl := Option.some.inj h
        exact finC [(6, .v (.bool false))] [(6, .v (.bool false))] (by simp [leE, lk_cons]) (.cons _ _ _ _ _ (.v _ _ (.refl _)) .nil) (by rfl) (by simp [leE, lk_cons]) (by decide) (by decide) rfl (by simp only [go_sem, ne_eq, not_false_eq_true, Nat.reduceBEq, Nat.reduceAdd, Nat.reduceSub, Nat.reduceMul, Nat.reduceLT, Nat.reduceLeDiff, Int.reduceLE, Int.reduceLT, Int.reduceToNat, Int.reduceBEq, Int.reduceBNe, Int.le_refl, Nat.le_refl, decide_true, decide_false, Int.cast_ofNat_Int, ↓reduceIte, resQ_tmp, resQ_cell, resQ_nil, retD_one, retD_two, retD_three, retD_none]; try simp [R.val, retD_one, retD_two, retD_three, retD_none])
    · have hh := getI_some h; clear h; obtain ⟨x673, h672, h⟩ := hh
      have hh := brn_some h; clear h; rcases hh with ⟨h674, h⟩ | ⟨h674, h⟩
      · refine W_sound tab_ok mixed 57 _ _ _ ?_
        simp -implicitDefEqProofs only [go_sem, ne_eq, not_false_eq_true, Nat.reduceBEq, Nat.reduceAdd, Nat.reduceSub, Nat.reduceMul, Nat.reduceLT, Nat.reduceLeDiff, Int.reduceLE, Int.reduceLT, Int.reduceToNat, Int.reduceBEq, Int.reduceBNe, Int.le_refl, Nat.le_refl, decide_true, decide_false, Int.cast_ofNat_Int, ↓reduceIte, h648, h651, h654, h657, h659, h661, h662, h672, h674]
        repeat with_reducible refine And.intro (by first | kernel_rfl | decide) ?_
        obtain rfl := Option.some.inj h
        exact finC [(6, .v (.bool false))] [(6, .v (.bool false))] (by simp [leE, lk_cons]) (.cons _ _ _ _ _ (.v _ _ (.refl _)) .nil) (by rfl) (by simp [leE, lk_cons]) (by decide) (by decide) rfl (by simp only [go_sem, ne_eq, not_false_eq_true, Nat.reduceBEq, Nat.reduceAdd, Nat.reduceSub, Nat.reduceMul, Nat.reduceLT, Nat.reduceLeDiff, Int.reduceLE, Int.reduceLT, Int.reduceToNat, Int.reduceBEq, Int.reduceBNe, Int.le_refl, Nat.le_refl, decide_true, decide_false, Int.cast_ofNat_Int, ↓reduceIte, resQ_tmp, resQ_cell, resQ_nil, retD_one, retD_two, retD_three, retD_none]; try simp [R.val, retD_one, retD_two, retD_three, retD_none])
      · have hh := brn_some h; clear h; rcases hh with ⟨h675, h⟩ | ⟨h675, h⟩
        · refine W_sound tab_ok mixed 57 _ _ _ ?_
          simp -implicitDefEqProofs only [go_sem, ne_eq, not_false_eq_true, Nat.reduceBEq, Nat.reduceAdd, Nat.reduceSub, Nat.reduceMul, Nat.reduceLT, Nat.reduceLeDiff, Int.reduceLE, Int.reduceLT, Int.reduceToNat, Int.reduceBEq, Int.reduceBNe, Int.le_refl, Nat.le_refl, decide_true, decide_false, Int.cast_ofNat_Int, ↓reduceIte, h648, h651, h654, h657, h659, h661, h662, h672, h674, h675]
          repeat with_reducible refine And.intro (by first | kernel_rfl | decide) ?_
          obtain rfl := Option.some.inj h
          exact finC [(6, .v (.bool false))] [(6, .v (.bool false))] (by simp [leE, lk_cons]) (.cons _ _ _ _ _ (.v _ _ (.refl _)) .nil) (by rfl) (by simp [leE, lk_cons]) (by decide) (by decide) rfl (by simp only [go_sem, ne_eq, not_false_eq_true, Nat.reduceBEq, Nat.reduceAdd, Nat.reduceSub, Nat.reduceMul, Nat.reduceLT, Nat.reduceLeDiff, Int.reduceLE, Int.reduceLT, Int.reduceToNat, Int.reduceBEq, Int.reduceBNe, Int.le_refl, Nat.le_refl, decide_true, decide_false, Int.cast_ofNat_Int, ↓reduceIte, resQ_tmp, resQ_cell, resQ_nil, retD_one, retD_two, retD_three, retD_none]; try simp [R.val, retD_one, retD_two, retD_three, retD_none])
        · have hh := brn_some h; clear h; rcases hh with ⟨h676, h⟩ | ⟨h676, h⟩
          · have hh := getI_some h; clear h; obtain ⟨x678, h677, h⟩ := hh
            have hh := getI_some h; clear h; obtain ⟨x680, h679, h⟩ := hh
            refine W_sound tab_ok mixed 72 _ _ _ ?_
            simp -implicitDefEqProofs only [go_sem, ne_eq, not_false_eq_true, Nat.reduceBEq, Nat.reduceAdd, Nat.reduceSub, Nat.reduceMul, Nat.reduceLT, Nat.reduceLeDiff, Int.reduceLE, Int.reduceLT, Int.reduceToNat, Int.reduceBEq, Int.reduceBNe, Int.le_refl, Nat.le_refl, decide_true, decide_false, Int.cast_ofNat_Int, ↓reduceIte, h648, h651, h654, h657, h659, h661, h662, h672, h674, h675, h676, h677, h679]
            repeat with_reducible refine And.intro (by first | kernel_rfl | decide) ?_
            obtain rfl := Option.some.inj h
            exact finC [(6, .v (.bool (decide (x678 ≤ x680))))] [(6, .v (.bool (decide (x678 ≤ x680))))] (by simp [leE, lk_cons]) (.cons _ _ _ _ _ (.v _ _ (.refl _)) .nil) (by rfl) (by simp [leE, lk_cons]) (by decide) (by decide) rfl (by simp only [go_sem, ne_eq, not_false_eq_true, Nat.reduceBEq, Nat.reduceAdd, Nat.reduceSub, Nat.reduceMul, Nat.reduceLT, Nat.reduceLeDiff, Int.reduceLE, Int.reduceLT, Int.reduceToNat, Int.reduceBEq, Int.reduceBNe, Int.le_refl, Nat.le_refl, decide_true, decide_false, Int.cast_ofNat_Int, ↓reduceIte, resQ_tmp, resQ_cell, resQ_nil, retD_one, retD_two, retD_three, retD_none]; try simp [R.val, retD_one, retD_two, retD_three, retD_none])
          · have hh := brn_some h; clear h; rcases hh with ⟨h681, h⟩ | ⟨h681, h⟩
            · have hh := getI_some h; clear h; obtain ⟨x683, h682, h⟩ := hh
              have hh := getI_some h; clear h; obtain ⟨x685, h684, h⟩ := hh
              refine W_sound tab_ok mixed 82 _ _ _ ?_
              simp -implicitDefEqProofs only [go_sem, ne_eq, not_false_eq_true, Nat.reduceBEq, Nat.reduceAdd, Nat.reduceSub, Nat.reduceMul, Nat.reduceLT, Nat.reduceLeDiff, Int.reduceLE, Int.reduceLT, Int.reduceToNat, Int.reduceBEq, Int.reduceBNe, Int.le_refl, Nat.le_refl, decide_true, decide_false, Int.cast_ofNat_Int, ↓reduceIte, h648, h651, h654, h657, h659, h661, h662, h672, h674, h675, h676, h681, h682, h684]
              repeat with_reducible refine And.intro (by first | kernel_rfl | decide) ?_
              obtain rfl := Option.some.inj h
              exact finC [(6, .v (.bool (decide (x683 ≤ x685))))] [(6, .v (.bool (decide (x683 ≤ x685))))] (by simp [leE, lk_cons]) (.cons _ _ _ _ _ (.v _ _ (.refl _)) .nil) (by rfl) (by simp [leE, lk_cons]) (by decide) (by decide) rfl (by simp only [go_sem, ne_eq, not_false_eq_true, Nat.reduceBEq, Nat.reduceAdd, Nat.reduceSub, Nat.reduceMul, Nat.reduceLT, Nat.reduceLeDiff, Int.reduceLE, Int.reduceLT, Int.reduceToNat, Int.reduceBEq, Int.reduceBNe, Int.le_refl, Nat.le_refl, decide_true, decide_false, Int.cast_ofNat_Int, ↓reduceIte, resQ_tmp, resQ_cell, resQ_nil, retD_one, retD_two, retD_three, retD_none]; try simp [R.val, retD_one, retD_two, retD_three, retD_none])
            · have hh := bnd'_some h; clear h; obtain ⟨p686, h687, h⟩ := hh
              refine W_sound tab_ok mixed 79 _ _ _ ?_
              simp -implicitDefEqProofs only [go_sem, ne_eq, not_false_eq_true, Nat.reduceBEq, Nat.reduceAdd, Nat.reduceSub, Nat.reduceMul, Nat.reduceLT, Nat.reduceLeDiff, Int.reduceLE, Int.reduceLT, Int.reduceToNat, Int.reduceBEq, Int.reduceBNe, Int.le_refl, Nat.le_refl, decide_true, decide_false, Int.cast_ofNat_Int, ↓reduceIte, h648, h651, h654, h657, h659, h661, h662, h672, h674, h675, h676, h681]
              repeat with_reducible refine And.intro (by first | kernel_rfl | decide) ?_
              refine Wp_callP (c86 N _ _ _ _ h687) (by kernel_rfl) rfl rfl rfl rfl (by decide) ?_
              have hh := getB_some h; clear h; obtain ⟨b689, h688, h⟩ := hh
              have hh := brn_some h; clear h; rcases hh with ⟨h690, h⟩ | ⟨h690, h⟩
              · refine W_sound tab_ok mixed 4 _ _ _ ?_
                simp -implicitDefEqProofs only [go_sem, ne_eq, not_false_eq_true, Nat.reduceBEq, Nat.reduceAdd, Nat.reduceSub, Nat.reduceMul, Nat.reduceLT, Nat.reduceLeDiff, Int.reduceLE, Int.reduceLT, Int.reduceToNat, Int.reduceBEq, Int.reduceBNe, Int.le_refl, Nat.le_refl, decide_true, decide_false, Int.cast_ofNat_Int, ↓reduceIte, h648, h651, h654, h657, h659, h661, h662, h672, h674, h675, h676, h681, h688, h690]
                repeat with_reducible refine And.intro (by first | kernel_rfl | decide) ?_
                obtain rfl := Option.some.inj h
                exact finC [(6, .v (.bool false))] [(6, .v (.bool false))] (by simp [leE, lk_cons]) (.cons _ _ _ _ _ (.v _ _ (.refl _)) .nil) (by rfl) (by simp [leE, lk_cons]) (by decide) (by decide) rfl (by simp only [go_sem, ne_eq, not_false_eq_true, Nat.reduceBEq, Nat.reduceAdd, Nat.reduceSub, Nat.reduceMul, Nat.reduceLT, Nat.reduceLeDiff, Int.reduceLE, Int.reduceLT, Int.reduceToNat, Int.reduceBEq, Int.reduceBNe, Int.le_refl, Nat.le_refl, decide_true, decide_false, Int.cast_ofNat_Int, ↓reduceIte, resQ_tmp, resQ_cell, resQ_nil, retD_one, retD_two, retD_three, retD_none]; try simp [R.val, retD_one, retD_two, retD_three, retD_none])
              · refine W_sound tab_ok mixed 4 _ _ _ ?_
                simp -implicitDefEqProofs only [go_sem, ne_eq, not_false_eq_true, Nat.reduceBEq, Nat.reduceAdd, Nat.reduceSub, Nat.reduceMul, Nat.reduceLT, Nat.reduceLeDiff, Int.reduceLE, Int.reduceLT, Int.reduceToNat, Int.reduceBEq, Int.reduceBNe, Int.le_refl, Nat.le_refl, decide_true, decide_false, Int.cast_ofNat_Int, ↓reduceIte, h648, h651, h654, h657, h659, h661, h662, h672, h674, h675, h676, h681, h688, h690]
                repeat with_reducible refine And.intro (by first | kernel_rfl | decide) ?_
                obtain rfl := Option.some.inj h
                exact finC [(6, .v (.bool true))] [(6, .v (.bool true))] (by simp [leE, lk_cons]) (.cons _ _ _ _ _ (.v _ _ (.refl _)) .nil) (by rfl) (by simp [leE, lk_cons]) (by decide) (by decide) rfl (by simp only [go_sem, ne_eq, not_false_eq_true, Nat.reduceBEq, Nat.reduceAdd, Nat.reduceSub, Nat.reduceMul, Nat.reduceLT, Nat.reduceLeDiff, Int.reduceLE, Int.reduceLT, Int.reduceToNat, Int.reduceBEq, Int.reduceBNe, Int.le_refl, Nat.le_refl, decide_true, decide_false, Int.cast_ofNat_Int, ↓reduceIte, resQ_tmp, resQ_cell, resQ_nil, retD_one, retD_two, retD_three, retD_none]; try simp [R.val, retD_one, retD_two, retD_three, retD_none])
  · have hh := brn_some h; clear h; rcases hh with ⟨h691, h⟩ | ⟨h691, h⟩
    · have hh := getI_some h; clear h; obtain ⟨x693, h692, h⟩ := hh
      have hh := brn_some h; clear h; rcases hh with ⟨h694, h⟩ | ⟨h694, h⟩
      · have hh := getI_some h; clear h; obtain ⟨x696, h695, h⟩ := hh
        have hh := getI_some h; clear h; obtain ⟨x698, h697, h⟩ := hh
        have hh := getI_some h; clear h; obtain ⟨x700, h699, h⟩ := hh
        refine W_sound tab_ok mixed 50 _ _ _ ?_
        simp -implicitDefEqProofs only [go_sem, ne_eq, not_false_eq_true, Nat.reduceBEq, Nat.reduceAdd, Nat.reduceSub, Nat.reduceMul, Nat.reduceLT, Nat.reduceLeDiff, Int.reduceLE, Int.reduceLT, Int.reduceToNat, Int.reduceBEq, Int.reduceBNe, Int.le_refl, Nat.le_refl, decide_true, decide_false, Int.cast_ofNat_Int, ↓reduceIte, h648, h651, h654, h657, h659, h661, h691, h692, h694, h695, h697, h699]
        repeat with_reducible refine And.intro (by first | kernel_rfl | decide) ?_
        obtain rfl := Option.some.inj h
        exact finC [(6, .v (.bool (decide (x696 ≤ (maxI x698 x700)))))] [(6, .v (.bool (decide (x696 ≤ (maxI x698 x700)))))] (by simp [leE, lk_cons]) (.cons _ _ _ _ _ (.v _ _ (.refl _)) .nil) (by rfl) (by simp [leE, lk_cons]) (by decide) (by decide) rfl (by simp only [go_sem, ne_eq, not_false_eq_true, Nat.reduceBEq, Nat.reduceAdd, Nat.reduceSub, Nat.reduceMul, Nat.reduceLT, Nat.reduceLeDiff, Int.reduceLE, Int.reduceLT, Int.reduceToNat, Int.reduceBEq, Int.reduceBNe, Int.le_refl, Nat.le_refl, decide_true, decide_false, Int.cast_ofNat_Int, ↓reduceIte, resQ_tmp, resQ_cell, resQ_nil, retD_one, retD_two, retD_three, retD_none]; try simp [R.val, retD_one, retD_two, retD_three, retD_none])
      · refine W_sound tab_ok mixed 50 _ _ _ ?_
        simp -implicitDefEqProofs only [go_sem, ne_eq, not_false_eq_true, Nat.reduceBEq, Nat.reduceAdd, Nat.reduceSub, Nat.reduceMul, Nat.reduceLT, Nat.reduceLeDiff, Int.reduceLE, Int.reduceLT, Int.reduceToNat, Int.reduceBEq, Int.reduceBNe, Int.le_refl, Nat.le_refl, decide_true, decide_false, Int.cast_ofNat_Int, ↓reduceIte, h648, h651, h654, h657, h659, h661, h691, h692, h694]
        repeat with_reducible refine And.intro (by first | kernel_rfl | decide) ?_
        obtain rfl := Option.some.inj h
        exact finC [(6, .v (.bool false))] [(6, .v (.bool false))] (by simp [leE, lk_cons]) (.cons _ _ _ _ _ (.v _ _ (.refl _)) .nil) (by rfl) (by simp [leE, lk_cons]) (by decide) (by decide) rfl (by simp only [go_sem, ne_eq, not_false_eq_true, Nat.reduceBEq, Nat.reduceAdd, Nat.reduceSub, Nat.reduceMul, Nat.reduceLT, Nat.reduceLeDiff, Int.reduceLE, Int.reduceLT, Int.reduceToNat, Int.reduceBEq, Int.reduceBNe, Int.le_refl, Nat.le_refl, decide_true, decide_false, Int.cast_ofNat_Int, ↓reduceIte, resQ_tmp, resQ_cell, resQ_nil, retD_one, retD_two, retD_three, retD_none]; try simp [R.val, retD_one, retD_two, retD_three, retD_none])
    · have hh := getI_some h; clear h; obtain ⟨x702, h701, h⟩ := hh
      have hh := brn_some h; clear h; rcases hh with ⟨h703, h⟩ | ⟨h703, h⟩
      · refine W_sound tab_ok mixed 52 _ _ _ ?_
        simp -implicitDefEqProofs only [go_sem, ne_eq, not_false_eq_true, Nat.reduceBEq, Nat.reduceAdd, Nat.reduceSub, Nat.reduceMul, Nat.reduceLT, Nat.reduceLeDiff, Int.reduceLE, Int.reduceLT, Int.reduceToNat, Int.reduceBEq, Int.reduceBNe, Int.le_refl, Nat.le_refl, decide_true, decide_false, Int.cast_ofNat_Int, ↓reduceIte, h648, h651, h654, h657, h659, h661, h691, h701, h703]
        repeat with_reducible refine And.intro (by first | kernel_rfl | decide) ?_
        obtain rfl := Option.some.inj h
        exact finC [(6, .v (.bool false))] [(6, .v (.bool false))] (by simp [leE, lk_cons]) (.cons _ _ _ _ _ (.v _ _ (.refl _)) .nil) (by rfl) (by simp [leE, lk_cons]) (by decide) (by decide) rfl (by simp only [go_sem, ne_eq, not_false_eq_true, Nat.reduceBEq, Nat.reduceAdd, Nat.reduceSub, Nat.reduceMul, Nat.reduceLT, Nat.reduceLeDiff, Int.reduceLE, Int.reduceLT, Int.reduceToNat, Int.reduceBEq, Int.reduceBNe, Int.le_refl, Nat.le_refl, decide_true, decide_false, Int.cast_ofNat_Int, ↓reduceIte, resQ_tmp, resQ_cell, resQ_nil, retD_one, retD_two, retD_three, retD_none]; try simp [R.val, retD_one, retD_two, retD_three, retD_none])
      · have hh := brn_some h; clear h; rcases hh with ⟨h704, h⟩ | ⟨h704, h⟩
        · refine W_sound tab_ok mixed 52 _ _ _ ?_
          simp -implicitDefEqProofs only [go_sem, ne_eq, not_false_eq_true, Nat.reduceBEq, Nat.reduceAdd, Nat.reduceSub, Nat.reduceMul, Nat.reduceLT, Nat.reduceLeDiff, Int.reduceLE, Int.reduceLT, Int.reduceToNat, Int.reduceBEq, Int.reduceBNe, Int.le_refl, Nat.le_refl, decide_true, decide_false, Int.cast_ofNat_Int, ↓reduceIte, h648, h651, h654, h657, h659, h661, h691, h701, h703, h704]
          repeat with_reducible refine And.intro (by first | kernel_rfl | decide) ?_
          obtain rfl := Option.some.inj h
          exact finC [(6, .v (.bool false))] [(6, .v (.bool false))] (by simp [leE, lk_cons]) (.cons _ _ _ _ _ (.v _ _ (.refl _)) .nil) (by rfl) (by simp [leE, lk_cons]) (by decide) (by decide) rfl (by simp only [go_sem, ne_eq, not_false_eq_true, Nat.reduceBEq, Nat.reduceAdd, Nat.reduceSub, Nat.reduceMul, Nat.reduceLT, Nat.reduceLeDiff, Int.reduceLE, Int.reduceLT, Int.reduceToNat, Int.reduceBEq, Int.reduceBNe, Int.le_refl, Nat.le_refl, decide_true, decide_false, Int.cast_ofNat_Int, ↓reduceIte, resQ_tmp, resQ_cell, resQ_nil, retD_one, retD_two, retD_three, retD_none]; try simp [R.val, retD_one, retD_two, retD_three, retD_none])
        · have hh := brn_some h; clear h; rcases hh with ⟨h705, h⟩ | ⟨h705, h⟩
          · have hh := getI_some h; clear h; obtain ⟨x707, h706, h⟩ := hh
            have hh := getI_some h; clear h; obtain ⟨x709, h708, h⟩ := hh
            refine W_sound tab_ok mixed 67 _ _ _ ?_
            simp -implicitDefEqProofs only [go_sem, ne_eq, not_false_eq_true, Nat.reduceBEq, Nat.reduceAdd, Nat.reduceSub, Nat.reduceMul, Nat.reduceLT, Nat.reduceLeDiff, Int.reduceLE, Int.reduceLT, Int.reduceToNat, Int.reduceBEq, Int.reduceBNe, Int.le_refl, Nat.le_refl, decide_true, decide_false, Int.cast_ofNat_Int, ↓reduceIte, h648, h651, h654, h657, h659, h661, h691, h701, h703, h704, h705, h706, h708]
            repeat with_reducible refine And.intro (by first | kernel_rfl | decide) ?_
            obtain rfl := Option.some.inj h
            exact finC [(6, .v (.bool (decide (x707 ≤ x709))))] [(6, .v (.bool (decide (x707 ≤ x709))))] (by simp [leE, lk_cons]) (.cons _ _ _ _ _ (.v _ _ (.refl _)) .nil) (by rfl) (by simp [leE, lk_cons]) (by decide) (by decide) rfl (by simp only [go_sem, ne_eq, not_false_eq_true, Nat.reduceBEq, Nat.reduceAdd, Nat.reduceSub, Nat.reduceMul, Nat.reduceLT, Nat.reduceLeDiff, Int.reduceLE, Int.reduceLT, Int.reduceToNat, Int.reduceBEq, Int.reduceBNe, Int.le_refl, Nat.le_refl, decide_true, decide_false, Int.cast_ofNat_Int, ↓reduceIte, resQ_tmp, resQ_cell, resQ_nil, retD_one, retD_two, retD_three, retD_none]; try simp [R.val, retD_one, retD_two, retD_three, retD_none])
          · have hh := brn_some h; clear h; rcases hh with ⟨h710, h⟩ | ⟨h710, h⟩
            · have hh := getI_some h; clear h; obtain ⟨x712, h711, h⟩ := hh
              have hh := getI_some h; clear h; obtain ⟨x714, h713, h⟩ := hh
              refine W_sound tab_ok mixed 77 _ _ _ ?_
              simp -implicitDefEqProofs only [go_sem, ne_eq, not_false_eq_true, Nat.reduceBEq, Nat.reduceAdd, Nat.reduceSub, Nat.reduceMul, Nat.reduceLT, Nat.reduceLeDiff, Int.reduceLE, Int.reduceLT, Int.reduceToNat, Int.reduceBEq, Int.reduceBNe, Int.le_refl, Nat.le_refl, decide_true, decide_false, Int.cast_ofNat_Int, ↓reduceIte, h648, h651, h654, h657, h659, h661, h691, h701, h703, h704, h705, h710, h711, h713]
              repeat with_reducible refine And.intro (by first | kernel_rfl | decide) ?_
              obtain rfl := Option.some.inj h
              exact finC [(6, .v (.bool (decide (x712 ≤ x714))))] [(6, .v (.bool (decide (x712 ≤ x714))))] (by simp [leE, lk_cons]) (.cons _ _ _ _ _ (.v _ _ (.refl _)) .nil) (by rfl) (by simp [leE, lk_cons]) (by decide) (by decide) rfl (by simp only [go_sem, ne_eq, not_false_eq_true, Nat.reduceBEq, Nat.reduceAdd, Nat.reduceSub, Nat.reduceMul, Nat.reduceLT, Nat.reduceLeDiff, Int.reduceLE, Int.reduceLT, Int.reduceToNat, Int.reduceBEq, Int.reduceBNe, Int.le_refl, Nat.le_refl, decide_true, decide_false, Int.cast_ofNat_Int, ↓reduceIte, resQ_tmp, resQ_cell, resQ_nil, retD_one, retD_two, retD_three, retD_none]; try simp [R.val, retD_one, retD_two, retD_three, retD_none])
            · have hh := bnd'_some h; clear h; obtain ⟨p715, h716, h⟩ := hh
              refine W_sound tab_ok mixed 74 _ _ _ ?_
              simp -implicitDefEqProofs only [go_sem, ne_eq, not_false_eq_true, Nat.reduceBEq, Nat.reduceAdd, Nat.reduceSub, Nat.reduceMul, Nat.reduceLT, Nat.reduceLeDiff, Int.reduceLE, Int.reduceLT, Int.reduceToNat, Int.reduceBEq, Int.reduceBNe, Int.le_refl, Nat.le_refl, decide_true, decide_false, Int.cast_ofNat_Int, ↓reduceIte, h648, h651, h654, h657, h659, h661, h691, h701, h703, h704, h705, h710]
              repeat with_reducible refine And.intro (by first | kernel_rfl | decide) ?_
              refine Wp_callP (c86 N _ _ _ _ h716) (by kernel_rfl) rfl rfl rfl rfl (by decide) ?_
              have hh := getB_some h; clear h; obtain ⟨b718, h717, h⟩ := hh
              have hh := brn_some h; clear h; rcases hh with ⟨h719, h⟩ | ⟨h719, h⟩
              · refine W_sound tab_ok mixed 4 _ _ _ ?_
                simp -implicitDefEqProofs only [go_sem, ne_eq, not_false_eq_true, Nat.reduceBEq, Nat.reduceAdd, Nat.reduceSub, Nat.reduceMul, Nat.reduceLT, Nat.reduceLeDiff, Int.reduceLE, Int.reduceLT, Int.reduceToNat, Int.reduceBEq, Int.reduceBNe, Int.le_refl, Nat.le_refl, decide_true, decide_false, Int.cast_ofNat_Int, ↓reduceIte, h648, h651, h654, h657, h659, h661, h691, h701, h703, h704, h705, h710, h717, h719]
                repeat with_reducible refine And.intro (by first | kernel_rfl | decide) ?_
                obtain rfl := Option.some.inj h
                exact finC [(6, .v (.bool false))] [(6, .v (.bool false))] (by simp [leE, lk_cons]) (.cons _ _ _ _ _ (.v _ _ (.refl _)) .nil) (by rfl) (by simp [leE, lk_cons]) (by decide) (by decide) rfl (by simp only [go_sem, ne_eq, not_false_eq_true, Nat.reduceBEq, Nat.reduceAdd, Nat.reduceSub, Nat.reduceMul, Nat.reduceLT, Nat.reduceLeDiff, Int.reduceLE, Int.reduceLT, Int.reduceToNat, Int.reduceBEq, Int.reduceBNe, Int.le_refl, Nat.le_refl, decide_true, decide_false, Int.cast_ofNat_Int, ↓reduceIte, resQ_tmp, resQ_cell, resQ_nil, retD_one, retD_two, retD_three, retD_none]; try simp [R.val, retD_one, retD_two, retD_three, retD_none])
              · refine W_sound tab_ok mixed 4 _ _ _ ?_
                simp -implicitDefEqProofs only [go_sem, ne_eq, not_false_eq_true, Nat.reduceBEq, Nat.reduceAdd, Nat.reduceSub, Nat.reduceMul, Nat.reduceLT, Nat.reduceLeDiff, Int.reduceLE, Int.reduceLT, Int.reduceToNat, Int.reduceBEq, Int.reduceBNe, Int.le_refl, Nat.le_refl, decide_true, decide_false, Int.cast_ofNat_Int, ↓reduceIte, h648, h651, h654, h657, h659, h661, h691, h701, h703, h704, h705, h710, h717, h719]
                repeat with_reducible refine And.intro (by first | kernel_rfl | decide) ?_
                obtain rfl := Option.some.inj h
                exact finC [(6, .v (.bool true))] [(6, .v (.bool true))] (by simp [leE, lk_cons]) (.cons _ _ _ _ _ (.v _ _ (.refl _)) .nil) (by rfl) (by simp [leE, lk_cons]) (by decide) (by decide) rfl (by simp only [go_sem, ne_eq, not_false_eq_true, Nat.reduceBEq, Nat.reduceAdd, Nat.reduceSub, Nat.reduceMul, Nat.reduceLT, Nat.reduceLeDiff, Int.reduceLE, Int.reduceLT, Int.reduceToNat, Int.reduceBEq, Int.reduceBNe, Int.le_refl, Nat.le_refl, decide_true, decide_false, Int.cast_ofNat_Int, ↓reduceIte, resQ_tmp, resQ_cell, resQ_nil, retD_one, retD_two, retD_three, retD_none]; try simp [R.val, retD_one, retD_two, retD_three, retD_none])

/-! breeze/turn.Why -/
def m28_L1 (N : Nat) (x721 : Int) (n723 : Nat) (c724 : List PV) (x732 : Int) : Nat → Int → Option ((PV ⊕ Unit))
  | 0, _ => none
  | n + 1, x734 =>
    brn (decide (x734 < ((n723 : Nat) : Int))) (
      brn (x732 != x721) (
        brn (x734 != x721) (
          grd (0 ≤ x732 ∧ x732 < ((n723 : Nat) : Int)) <|
          grd (2 ≤ List.length (List.drop ((Int.toNat x732) * 2) c724)) <|
          getA2 (.agg (List.take 2 (List.drop ((Int.toNat x732) * 2) c724))) fun p742 p743 =>
          grd (0 ≤ x734 ∧ x734 < ((n723 : Nat) : Int)) <|
          grd (2 ≤ List.length (List.drop ((Int.toNat x734) * 2) c724)) <|
          getA2 (.agg (List.take 2 (List.drop ((Int.toNat x734) * 2) c724))) fun p748 p749 =>
          grd (0 ≤ x721 ∧ x721 < ((n723 : Nat) : Int)) <|
          grd (2 ≤ List.length (List.drop ((Int.toNat x721) * 2) c724)) <|
          getA2 (.agg (List.take 2 (List.drop ((Int.toNat x721) * 2) c724))) fun p754 p755 =>
          bnd' (m69 N (.agg [p742, p743]) (.agg [p748, p749]) (.agg [p754, p755])) fun p756 =>
          getB p756 fun b759 =>
          brn b759 (
            some (.inl (.tup [(.int .i64 x732), (.int .i64 x734), (.int .i64 0)]))) (
            m28_L1 N x721 n723 c724 x732 n (IntKind.i64.wrap (x734 + 1)))) (
          m28_L1 N x721 n723 c724 x732 n (IntKind.i64.wrap (x734 + 1)))) (
        m28_L1 N x721 n723 c724 x732 n (IntKind.i64.wrap (x734 + 1)))) (
      some (.inr ()))
def m28_L0 (N : Nat) (x721 : Int) (n723 : Nat) (c724 : List PV) : Nat → Int → Option ((PV ⊕ Unit))
  | 0, _ => none
  | n + 1, x732 =>
    brn (decide (x732 < ((n723 : Nat) : Int))) (
      bnd' (m28_L1 N x721 n723 c724 x732 N x732) fun o =>
      match o with
      | .inl p761 =>
        some (.inl p761)
      | .inr () =>
        m28_L0 N x721 n723 c724 n (IntKind.i64.wrap (x732 + 1))) (
      some (.inr ()))
def m28 (N : Nat) (p720 : PV) (x721 : Int) : Option (PV) :=
  getL p720 fun n723 c724 =>
  bnd' (m22 N (.lst false n723 c724)) fun p725 =>
  getI .i64 p725 fun x728 =>
  brn (x728 != 0) (
    some (.tup [(.int .i64 0), (.int .i64 0), (.int .i64 x728)])) (
    brn (decide (x721 < 0)) (
      some (.tup [(.int .i64 0), (.int .i64 0), (.int .i64 2)])) (
      brn (decide (x721 ≥ ((n723 : Nat) : Int))) (
        some (.tup [(.int .i64 0), (.int .i64 0), (.int .i64 2)])) (
        bnd' (m28_L0 N x721 n723 c724 N 0) fun o =>
        match o with
        | .inl p762 =>
          some p762
        | .inr () =>
          some (.tup [(.int .i64 0), (.int .i64 0), (.int .i64 13)]))))
theorem c28 (N : Nat) (p720 : PV) (x721 : Int) (r : PV)  (h : m28 N p720 x721 = some r) : FnP Try.prog 28 [p720, (.int .i64 x721)] r := by
  unfold m28 at h
  refine Fn_of (sz := 62) tab_ok [0, 1, 4, 5, 6, 7, 8, 11, 15, 25, 26, 27, 33, 58] [.tmp 4, .tmp 5, .tmp 6] Try.func28 rfl rfl rfl (by simp) ?_
  simp only [initSt, initEnv, List.map_cons, List.map_nil, List.getD_cons_zero, List.getD_cons_succ, List.getD_nil]
  have hh := getL_some h; clear h; obtain ⟨n723, c724, h722, h⟩ := hh
  have hh := bnd'_some h; clear h; obtain ⟨p725, h726, h⟩ := hh
  refine W_sound tab_ok mixed 9 _ _ _ ?_
  simp -implicitDefEqProofs only [go_sem, ne_eq, not_false_eq_true, Nat.reduceBEq, Nat.reduceAdd, Nat.reduceSub, Nat.reduceMul, Nat.reduceLT, Nat.reduceLeDiff, Int.reduceLE, Int.reduceLT, Int.reduceToNat, Int.reduceBEq, Int.reduceBNe, Int.le_refl, Nat.le_refl, decide_true, decide_false, Int.cast_ofNat_Int, ↓reduceIte, h722]
  repeat with_reducible refine And.intro (by first | kernel_rfl | decide) ?_
  refine Wp_callP (c22 N _ _ h726) (by kernel_rfl) rfl rfl rfl rfl (by decide) ?_
  have hh := getI_some h; clear h; obtain ⟨x728, h727, h⟩ := hh
  have hh := brn_some h; clear h; rcases hh with ⟨h729, h⟩ | ⟨h729, h⟩
  · refine W_sound tab_ok mixed 19 _ _ _ ?_
    simp -implicitDefEqProofs only [go_sem, ne_eq, not_false_eq_true, Nat.reduceBEq, Nat.reduceAdd, Nat.reduceSub, Nat.reduceMul, Nat.reduceLT, Nat.reduceLeDiff, Int.reduceLE, Int.reduceLT, Int.reduceToNat, Int.reduceBEq, Int.reduceBNe, Int.le_refl, Nat.le_refl, decide_true, decide_false, Int.cast_ofNat_Int, ↓reduceIte, h722, h727, h729]
    repeat with_reducible refine And.intro (by first | kernel_rfl | decide) ?_
    obtain rfl := Option.some.inj h
    exact finC [(4, .v (.int .i64 0)), (5, .v (.int .i64 0)), (6, .v (.int .i64 x728))] [(4, .v (.int .i64 0)), (5, .v (.int .i64 0)), (6, .v (.int .i64 x728))] (by simp [leE, lk_cons]) (.cons _ _ _ _ _ (.v _ _ (.refl _)) (.cons _ _ _ _ _ (.v _ _ (.refl _)) (.cons _ _ _ _ _ (.v _ _ (.refl _)) .nil))) (by rfl) (by simp [leE, lk_cons]) (by decide) (by decide) rfl (by simp only [go_sem, ne_eq, not_false_eq_true, Nat.reduceBEq, Nat.reduceAdd, Nat.reduceSub, Nat.reduceMul, Nat.reduceLT, Nat.reduceLeDiff, Int.reduceLE, Int.reduceLT, Int.reduceToNat, Int.reduceBEq, Int.reduceBNe, Int.le_refl, Nat.le_refl, decide_true, decide_false, Int.cast_ofNat_Int, ↓reduceIte, resQ_tmp, resQ_cell, resQ_nil, retD_one, retD_two, retD_three, retD_none]; try simp [R.val, retD_one, retD_two, retD_three, retD_none])
  · have hh := brn_some h; clear h; rcases hh with ⟨h730, h⟩ | ⟨h730, h⟩
    · refine W_sound tab_ok mixed 31 _ _ _ ?_
      simp -implicitDefEqProofs only [go_sem, ne_eq, not_false_eq_true, Nat.reduceBEq, Nat.reduceAdd, Nat.reduceSub, Nat.reduceMul, Nat.reduceLT, Nat.reduceLeDiff, Int.reduceLE, Int.reduceLT, Int.reduceToNat, Int.reduceBEq, Int.reduceBNe, Int.le_refl, Nat.le_refl, decide_true, decide_false, Int.cast_ofNat_Int, ↓reduceIte, h722, h727, h729, h730]
      repeat with_reducible refine And.intro (by first | kernel_rfl | decide) ?_
      obtain rfl := Option.some.inj h
      exact finC [(4, .v (.int .i64 0)), (5, .v (.int .i64 0)), (6, .v (.int .i64 2))] [(4, .v (.int .i64 0)), (5, .v (.int .i64 0)), (6, .v (.int .i64 2))] (by simp [leE, lk_cons]) (.cons _ _ _ _ _ (.v _ _ (.refl _)) (.cons _ _ _ _ _ (.v _ _ (.refl _)) (.cons _ _ _ _ _ (.v _ _ (.refl _)) .nil))) (by rfl) (by simp [leE, lk_cons]) (by decide) (by decide) rfl (by simp only [go_sem, ne_eq, not_false_eq_true, Nat.reduceBEq, Nat.reduceAdd, Nat.reduceSub, Nat.reduceMul, Nat.reduceLT, Nat.reduceLeDiff, Int.reduceLE, Int.reduceLT, Int.reduceToNat, Int.reduceBEq, Int.reduceBNe, Int.le_refl, Nat.le_refl, decide_true, decide_false, Int.cast_ofNat_Int, ↓reduceIte, resQ_tmp, resQ_cell, resQ_nil, retD_one, retD_two, retD_three, retD_none]; try simp [R.val, retD_one, retD_two, retD_three, retD_none])
    · have hh := brn_some h; clear h; rcases hh with ⟨h731, h⟩ | ⟨h731, h⟩
      · refine W_sound tab_ok mixed 31 _ _ _ ?_
        simp -implicitDefEqProofs only [go_sem, ne_eq, not_false_eq_true, Nat.reduceBEq, Nat.reduceAdd, Nat.reduceSub, Nat.reduceMul, Nat.reduceLT, Nat.reduceLeDiff, Int.reduceLE, Int.reduceLT, Int.reduceToNat, Int.reduceBEq, Int.reduceBNe, Int.le_refl, Nat.le_refl, decide_true, decide_false, Int.cast_ofNat_Int, ↓reduceIte, h722, h727, h729, h730, h731]
        repeat with_reducible refine And.intro (by first | kernel_rfl | decide) ?_
        obtain rfl := Option.some.inj h
        exact finC [(4, .v (.int .i64 0)), (5, .v (.int .i64 0)), (6, .v (.int .i64 2))] [(4, .v (.int .i64 0)), (5, .v (.int .i64 0)), (6, .v (.int .i64 2))] (by simp [leE, lk_cons]) (.cons _ _ _ _ _ (.v _ _ (.refl _)) (.cons _ _ _ _ _ (.v _ _ (.refl _)) (.cons _ _ _ _ _ (.v _ _ (.refl _)) .nil))) (by rfl) (by simp [leE, lk_cons]) (by decide) (by decide) rfl (by simp only [go_sem, ne_eq, not_false_eq_true, Nat.reduceBEq, Nat.reduceAdd, Nat.reduceSub, Nat.reduceMul, Nat.reduceLT, Nat.reduceLeDiff, Int.reduceLE, Int.reduceLT, Int.reduceToNat, Int.reduceBEq, Int.reduceBNe, Int.le_refl, Nat.le_refl, decide_true, decide_false, Int.cast_ofNat_Int, ↓reduceIte, resQ_tmp, resQ_cell, resQ_nil, retD_one, retD_two, retD_three, retD_none]; try simp [R.val, retD_one, retD_two, retD_three, retD_none])
      · refine W_sound tab_ok mixed 33 _ _ _ ?_
        simp -implicitDefEqProofs only [go_sem, ne_eq, not_false_eq_true, Nat.reduceBEq, Nat.reduceAdd, Nat.reduceSub, Nat.reduceMul, Nat.reduceLT, Nat.reduceLeDiff, Int.reduceLE, Int.reduceLT, Int.reduceToNat, Int.reduceBEq, Int.reduceBNe, Int.le_refl, Nat.le_refl, decide_true, decide_false, Int.cast_ofNat_Int, ↓reduceIte, h722, h727, h729, h730, h731]
        repeat with_reducible refine And.intro (by first | kernel_rfl | decide) ?_
        have hh := bnd'_some h; clear h; obtain ⟨o763, h764, h765⟩ := hh
        refine Wp_cut (fun s => (.inr ()) = o763 ∧ s = ⟨[], [(0, .dead), (1, .dead), (4, .dead), (5, .dead), (6, .dead), (7, .dead), (8, .dead), (11, .dead), (15, .dead), (25, .dead), (26, .dead), (27, .dead), (33, .dead), (58, .dead)], [], 0, []⟩) ?_ ?_
        · refine Wp_block ?_
          refine Wp_loopG (fun n s => ∃ x732, m28_L0 N x721 n723 c724 n x732 = some o763 ∧ s = ⟨[], [(0, .v (.lst false n723 c724)), (1, .v (.int .i64 x721)), (4, .dead), (5, .dead), (6, .dead), (7, .dead), (8, .dead), (11, .dead), (15, .dead), (25, .v (.int .i64 ((n723 : Nat) : Int))), (26, .v (.int .i64 x732)), (27, .dead), (33, .dead), (58, .dead)], [], 0, []⟩) N _ ((Wk_le (.cons _ _ _ _ _ (.refl _) (.cons _ _ _ _ _ (.refl _) (.cons _ _ _ _ _ (.dead _) (.cons _ _ _ _ _ (.dead _) (.cons _ _ _ _ _ (.dead _) (.cons _ _ _ _ _ (.refl _) (.cons _ _ _ _ _ (.refl _) (.cons _ _ _ _ _ (.dead _) (.cons _ _ _ _ _ (.dead _) (.cons _ _ _ _ _ (.refl _) (.cons _ _ _ _ _ (.refl _) (.cons _ _ _ _ _ (.refl _) (.cons _ _ _ _ _ (.refl _) (.cons _ _ _ _ _ (.refl _) .nil)))))))))))))) (OLe.refl _)).trans (cmpS_ok rfl)) ⟨_, h764, rfl⟩ ?_
          clear h764
          rintro n _ ⟨x732, h764, rfl⟩
          cases n with
          | zero => cases h764
          | succ n =>
            rw [m28_L0] at h764
            have hh := brn_some h764; clear h764; rcases hh with ⟨h733, h764⟩ | ⟨h733, h764⟩
            · refine W_sound tab_ok mixed 19 _ _ _ ?_
              simp -implicitDefEqProofs only [go_sem, ne_eq, not_false_eq_true, Nat.reduceBEq, Nat.reduceAdd, Nat.reduceSub, Nat.reduceMul, Nat.reduceLT, Nat.reduceLeDiff, Int.reduceLE, Int.reduceLT, Int.reduceToNat, Int.reduceBEq, Int.reduceBNe, Int.le_refl, Nat.le_refl, decide_true, decide_false, Int.cast_ofNat_Int, ↓reduceIte, h722, h727, h729, h730, h731, h733]
              repeat with_reducible refine And.intro (by first | kernel_rfl | decide) ?_
              have hh := bnd'_some h764; clear h764; obtain ⟨o766, h767, h768⟩ := hh
              refine Wp_cut (fun s => (.inr ()) = o766 ∧ s = ⟨[], [(0, .v (.lst false n723 c724)), (1, .v (.int .i64 x721)), (4, .dead), (5, .dead), (6, .dead), (7, .dead), (8, .dead), (11, .dead), (15, .dead), (25, .v (.int .i64 ((n723 : Nat) : Int))), (26, .v (.int .i64 x732)), (27, .dead), (33, .dead), (58, .dead)], [], 0, []⟩) ?_ ?_
              · refine Wp_block ?_
                refine Wp_loopG (fun n s => ∃ x734, m28_L1 N x721 n723 c724 x732 n x734 = some o766 ∧ s = ⟨[], [(0, .v (.lst false n723 c724)), (1, .v (.int .i64 x721)), (4, .dead), (5, .dead), (6, .dead), (7, .v (.int .i64 x732)), (8, .v (.int .i64 x734)), (11, .dead), (15, .dead), (25, .v (.int .i64 ((n723 : Nat) : Int))), (26, .v (.int .i64 x732)), (27, .dead), (33, .dead), (58, .dead)], [], 0, []⟩) N _ ((Wk_le (.cons _ _ _ _ _ (.refl _) (.cons _ _ _ _ _ (.refl _) (.cons _ _ _ _ _ (.refl _) (.cons _ _ _ _ _ (.refl _) (.cons _ _ _ _ _ (.refl _) (.cons _ _ _ _ _ (.refl _) (.cons _ _ _ _ _ (.refl _) (.cons _ _ _ _ _ (.refl _) (.cons _ _ _ _ _ (.refl _) (.cons _ _ _ _ _ (.refl _) (.cons _ _ _ _ _ (.refl _) (.cons _ _ _ _ _ (.dead _) (.cons _ _ _ _ _ (.refl _) (.cons _ _ _ _ _ (.refl _) .nil)))))))))))))) (OLe.refl _)).trans (cmpS_ok rfl)) ⟨_, h767, rfl⟩ ?_
                clear h767
                rintro n _ ⟨x734, h767, rfl⟩
                cases n with
                | zero => cases h767
                | succ n =>
                  rw [m28_L1] at h767
                  have hh := brn_some h767; clear h767; rcases hh with ⟨h735, h767⟩ | ⟨h735, h767⟩
                  · have hh := brn_some h767; clear h767; rcases hh with ⟨h736, h767⟩ | ⟨h736, h767⟩
                    · have hh := brn_some h767; clear h767; rcases hh with ⟨h737, h767⟩ | ⟨h737, h767⟩
                      · have hh := grd_some h767; clear h767; obtain ⟨⟨g738, g739⟩, h767⟩ := hh
                        have hh := grd_some h767; clear h767; obtain ⟨g740, h767⟩ := hh
                        have hh := getA2_some h767; clear h767; obtain ⟨p742, p743, h741, h767⟩ := hh
                        injection h741 with h741
                        have hh := grd_some h767; clear h767; obtain ⟨⟨g744, g745⟩, h767⟩ := hh
                        have hh := grd_some h767; clear h767; obtain ⟨g746, h767⟩ := hh
                        have hh := getA2_some h767; clear h767; obtain ⟨p748, p749, h747, h767⟩ := hh
                        injection h747 with h747
                        have hh := grd_some h767; clear h767; obtain ⟨⟨g750, g751⟩, h767⟩ := hh
                        have hh := grd_some h767; clear h767; obtain ⟨g752, h767⟩ := hh
                        have hh := getA2_some h767; clear h767; obtain ⟨p754, p755, h753, h767⟩ := hh
                        injection h753 with h753
                        have hh := bnd'_some h767; clear h767; obtain ⟨p756, h757, h767⟩ := hh
                        refine W_sound tab_ok mixed 35 _ _ _ ?_
                        simp -implicitDefEqProofs only [go_sem, ne_eq, not_false_eq_true, Nat.reduceBEq, Nat.reduceAdd, Nat.reduceSub, Nat.reduceMul, Nat.reduceLT, Nat.reduceLeDiff, Int.reduceLE, Int.reduceLT, Int.reduceToNat, Int.reduceBEq, Int.reduceBNe, Int.le_refl, Nat.le_refl, decide_true, decide_false, Int.cast_ofNat_Int, ↓reduceIte, h722, h727, h729, h730, h731, h733, h735, h736, h737, g738, g739, g740, h741, g744, g745, g746, h747, g750, g751, g752, h753]
                        repeat with_reducible refine And.intro (by first | kernel_rfl | decide) ?_
                        refine Wp_callP (c69 N _ _ _ _ h757) (by kernel_rfl) rfl rfl rfl rfl (by decide) ?_
                        have hh := getB_some h767; clear h767; obtain ⟨b759, h758, h767⟩ := hh
                        have hh := brn_some h767; clear h767; rcases hh with ⟨h760, h767⟩ | ⟨h760, h767⟩
                        · refine W_sound tab_ok mixed 12 _ _ _ ?_
                          simp -implicitDefEqProofs only [go_sem, ne_eq, not_false_eq_true, Nat.reduceBEq, Nat.reduceAdd, Nat.reduceSub, Nat.reduceMul, Nat.reduceLT, Nat.reduceLeDiff, Int.reduceLE, Int.reduceLT, Int.reduceToNat, Int.reduceBEq, Int.reduceBNe, Int.le_refl, Nat.le_refl, decide_true, decide_false, Int.cast_ofNat_Int, ↓reduceIte, h722, h727, h729, h730, h731, h733, h735, h736, h737, g738, g739, g740, h741, g744, g745, g746, h747, g750, g751, g752, h753, h758, h760]
                          repeat with_reducible refine And.intro (by first | kernel_rfl | decide) ?_
                          obtain rfl := Option.some.inj h767
                          (try dsimp only at h768)
                          obtain rfl := Option.some.inj h768
                          (try dsimp only at h765)
                          obtain rfl := Option.some.inj h765
                          exact finC [(4, .v (.int .i64 x732)), (5, .v (.int .i64 x734)), (6, .v (.int .i64 0))] [(4, .v (.int .i64 x732)), (5, .v (.int .i64 x734)), (6, .v (.int .i64 0))] (by simp [leE, lk_cons]) (.cons _ _ _ _ _ (.v _ _ (.refl _)) (.cons _ _ _ _ _ (.v _ _ (.refl _)) (.cons _ _ _ _ _ (.v _ _ (.refl _)) .nil))) (by rfl) (by simp [leE, lk_cons]) (by decide) (by decide) rfl (by simp only [go_sem, ne_eq, not_false_eq_true, Nat.reduceBEq, Nat.reduceAdd, Nat.reduceSub, Nat.reduceMul, Nat.reduceLT, Nat.reduceLeDiff, Int.reduceLE, Int.reduceLT, Int.reduceToNat, Int.reduceBEq, Int.reduceBNe, Int.le_refl, Nat.le_refl, decide_true, decide_false, Int.cast_ofNat_Int, ↓reduceIte, resQ_tmp, resQ_cell, resQ_nil, retD_one, retD_two, retD_three, retD_none]; try simp [R.val, retD_one, retD_two, retD_three, retD_none])
                        · refine W_sound tab_ok mixed 10 _ _ _ ?_
                          simp -implicitDefEqProofs only [go_sem, ne_eq, not_false_eq_true, Nat.reduceBEq, Nat.reduceAdd, Nat.reduceSub, Nat.reduceMul, Nat.reduceLT, Nat.reduceLeDiff, Int.reduceLE, Int.reduceLT, Int.reduceToNat, Int.reduceBEq, Int.reduceBNe, Int.le_refl, Nat.le_refl, decide_true, decide_false, Int.cast_ofNat_Int, ↓reduceIte, h722, h727, h729, h730, h731, h733, h735, h736, h737, g738, g739, g740, h741, g744, g745, g746, h747, g750, g751, g752, h753, h758, h760]
                          repeat with_reducible refine And.intro (by first | kernel_rfl | decide) ?_
                          exact cutQ _ ((Wk_le (.cons _ _ _ _ _ (.refl _) (.cons _ _ _ _ _ (.refl _) (.cons _ _ _ _ _ (.refl _) (.cons _ _ _ _ _ (.refl _) (.cons _ _ _ _ _ (.refl _) (.cons _ _ _ _ _ (.refl _) (.cons _ _ _ _ _ (.refl _) (.cons _ _ _ _ _ (.refl _) (.cons _ _ _ _ _ (.refl _) (.cons _ _ _ _ _ (.refl _) (.cons _ _ _ _ _ (.refl _) (.cons _ _ _ _ _ (.refl _) (.cons _ _ _ _ _ (.dead _) (.cons _ _ _ _ _ (.dead _) .nil)))))))))))))) (OLe.refl _)).trans (cmpS_ok rfl)) ⟨n, Nat.lt_succ_self n, _, h767, rfl⟩
                      · refine W_sound tab_ok mixed 46 _ _ _ ?_
                        simp -implicitDefEqProofs only [go_sem, ne_eq, not_false_eq_true, Nat.reduceBEq, Nat.reduceAdd, Nat.reduceSub, Nat.reduceMul, Nat.reduceLT, Nat.reduceLeDiff, Int.reduceLE, Int.reduceLT, Int.reduceToNat, Int.reduceBEq, Int.reduceBNe, Int.le_refl, Nat.le_refl, decide_true, decide_false, Int.cast_ofNat_Int, ↓reduceIte, h722, h727, h729, h730, h731, h733, h735, h736, h737]
                        repeat with_reducible refine And.intro (by first | kernel_rfl | decide) ?_
                        exact cutQ _ ((Wk_le (.cons _ _ _ _ _ (.refl _) (.cons _ _ _ _ _ (.refl _) (.cons _ _ _ _ _ (.refl _) (.cons _ _ _ _ _ (.refl _) (.cons _ _ _ _ _ (.refl _) (.cons _ _ _ _ _ (.refl _) (.cons _ _ _ _ _ (.refl _) (.cons _ _ _ _ _ (.refl _) (.cons _ _ _ _ _ (.refl _) (.cons _ _ _ _ _ (.refl _) (.cons _ _ _ _ _ (.refl _) (.cons _ _ _ _ _ (.refl _) (.cons _ _ _ _ _ (.dead _) (.cons _ _ _ _ _ (.dead _) .nil)))))))))))))) (OLe.refl _)).trans (cmpS_ok rfl)) ⟨n, Nat.lt_succ_self n, _, h767, rfl⟩
                    · refine W_sound tab_ok mixed 46 _ _ _ ?_
                      simp -implicitDefEqProofs only [go_sem, ne_eq, not_false_eq_true, Nat.reduceBEq, Nat.reduceAdd, Nat.reduceSub, Nat.reduceMul, Nat.reduceLT, Nat.reduceLeDiff, Int.reduceLE, Int.reduceLT, Int.reduceToNat, Int.reduceBEq, Int.reduceBNe, Int.le_refl, Nat.le_refl, decide_true, decide_false, Int.cast_ofNat_Int, ↓reduceIte, h722, h727, h729, h730, h731, h733, h735, h736]
                      repeat with_reducible refine And.intro (by first | kernel_rfl | decide) ?_
                      exact cutQ _ ((Wk_le (.cons _ _ _ _ _ (.refl _) (.cons _ _ _ _ _ (.refl _) (.cons _ _ _ _ _ (.refl _) (.cons _ _ _ _ _ (.refl _) (.cons _ _ _ _ _ (.refl _) (.cons _ _ _ _ _ (.refl _) (.cons _ _ _ _ _ (.refl _) (.cons _ _ _ _ _ (.refl _) (.cons _ _ _ _ _ (.refl _) (.cons _ _ _ _ _ (.refl _) (.cons _ _ _ _ _ (.refl _) (.cons _ _ _ _ _ (.refl _) (.cons _ _ _ _ _ (.dead _) (.cons _ _ _ _ _ (.dead _) .nil)))))))))))))) (OLe.refl _)).trans (cmpS_ok rfl)) ⟨n, Nat.lt_succ_self n, _, h767, rfl⟩
                  · refine W_sound tab_ok mixed 10 _ _ _ ?_
                    simp -implicitDefEqProofs only [go_sem, ne_eq, not_false_eq_true, Nat.reduceBEq, Nat.reduceAdd, Nat.reduceSub, Nat.reduceMul, Nat.reduceLT, Nat.reduceLeDiff, Int.reduceLE, Int.reduceLT, Int.reduceToNat, Int.reduceBEq, Int.reduceBNe, Int.le_refl, Nat.le_refl, decide_true, decide_false, Int.cast_ofNat_Int, ↓reduceIte, h722, h727, h729, h730, h731, h733, h735]
                    repeat with_reducible refine And.intro (by first | kernel_rfl | decide) ?_
                    obtain rfl := Option.some.inj h767
                    exact cutQ _ ((Wk_le (.cons _ _ _ _ _ (.refl _) (.cons _ _ _ _ _ (.refl _) (.cons _ _ _ _ _ (.refl _) (.cons _ _ _ _ _ (.refl _) (.cons _ _ _ _ _ (.refl _) (.cons _ _ _ _ _ (.dead _) (.cons _ _ _ _ _ (.dead _) (.cons _ _ _ _ _ (.refl _) (.cons _ _ _ _ _ (.refl _) (.cons _ _ _ _ _ (.refl _) (.cons _ _ _ _ _ (.refl _) (.cons _ _ _ _ _ (.refl _) (.cons _ _ _ _ _ (.dead _) (.cons _ _ _ _ _ (.refl _) .nil)))))))))))))) (OLe.refl _)).trans (cmpS_ok rfl)) ⟨rfl, rfl⟩
              · rintro _ ⟨rfl, rfl⟩
                (try dsimp only at h768)
                refine W_sound tab_ok mixed 5 _ _ _ ?_
                simp -implicitDefEqProofs only [go_sem, ne_eq, not_false_eq_true, Nat.reduceBEq, Nat.reduceAdd, Nat.reduceSub, Nat.reduceMul, Nat.reduceLT, Nat.reduceLeDiff, Int.reduceLE, Int.reduceLT, Int.reduceToNat, Int.reduceBEq, Int.reduceBNe, Int.le_refl, Nat.le_refl, decide_true, decide_false, Int.cast_ofNat_Int, ↓reduceIte, h722, h727, h729, h730, h731, h733]
                repeat with_reducible refine And.intro (by first | kernel_rfl | decide) ?_
                exact cutQ _ ((Wk_le (.cons _ _ _ _ _ (.refl _) (.cons _ _ _ _ _ (.refl _) (.cons _ _ _ _ _ (.refl _) (.cons _ _ _ _ _ (.refl _) (.cons _ _ _ _ _ (.refl _) (.cons _ _ _ _ _ (.refl _) (.cons _ _ _ _ _ (.refl _) (.cons _ _ _ _ _ (.refl _) (.cons _ _ _ _ _ (.refl _) (.cons _ _ _ _ _ (.refl _) (.cons _ _ _ _ _ (.refl _) (.cons _ _ _ _ _ (.refl _) (.cons _ _ _ _ _ (.refl _) (.cons _ _ _ _ _ (.refl _) .nil)))))))))))))) (OLe.refl _)).trans (cmpS_ok rfl)) ⟨n, Nat.lt_succ_self n, _, h768, rfl⟩
            · refine W_sound tab_ok mixed 7 _ _ _ ?_
              simp -implicitDefEqProofs only [go_sem, ne_eq, not_false_eq_true, Nat.reduceBEq, Nat.reduceAdd, Nat.reduceSub, Nat.reduceMul, Nat.reduceLT, Nat.reduceLeDiff, Int.reduceLE, Int.reduceLT, Int.reduceToNat, Int.reduceBEq, Int.reduceBNe, Int.le_refl, Nat.le_refl, decide_true, decide_false, Int.cast_ofNat_Int, ↓reduceIte, h722, h727, h729, h730, h731, h733]
              repeat with_reducible refine And.intro (by first | kernel_rfl | decide) ?_
              obtain rfl := Option.some.inj h764
              exact cutQ _ ((Wk_le (.cons _ _ _ _ _ (.dead _) (.cons _ _ _ _ _ (.dead _) (.cons _ _ _ _ _ (.refl _) (.cons _ _ _ _ _ (.refl _) (.cons _ _ _ _ _ (.refl _) (.cons _ _ _ _ _ (.refl _) (.cons _ _ _ _ _ (.refl _) (.cons _ _ _ _ _ (.refl _) (.cons _ _ _ _ _ (.refl _) (.cons _ _ _ _ _ (.dead _) (.cons _ _ _ _ _ (.dead _) (.cons _ _ _ _ _ (.dead _) (.cons _ _ _ _ _ (.refl _) (.cons _ _ _ _ _ (.refl _) .nil)))))))))))))) (OLe.refl _)).trans (cmpS_ok rfl)) ⟨rfl, rfl⟩
        · rintro _ ⟨rfl, rfl⟩
          (try dsimp only at h765)
          refine W_sound tab_ok mixed 7 _ _ _ ?_
          simp -implicitDefEqProofs only [go_sem, ne_eq, not_false_eq_true, Nat.reduceBEq, Nat.reduceAdd, Nat.reduceSub, Nat.reduceMul, Nat.reduceLT, Nat.reduceLeDiff, Int.reduceLE, Int.reduceLT, Int.reduceToNat, Int.reduceBEq, Int.reduceBNe, Int.le_refl, Nat.le_refl, decide_true, decide_false, Int.cast_ofNat_Int, ↓reduceIte, h722, h727, h729, h730, h731]
          repeat with_reducible refine And.intro (by first | kernel_rfl | decide) ?_
          obtain rfl := Option.some.inj h765
          exact finC [(4, .v (.int .i64 0)), (5, .v (.int .i64 0)), (6, .v (.int .i64 13))] [(4, .v (.int .i64 0)), (5, .v (.int .i64 0)), (6, .v (.int .i64 13))] (by simp [leE, lk_cons]) (.cons _ _ _ _ _ (.v _ _ (.refl _)) (.cons _ _ _ _ _ (.v _ _ (.refl _)) (.cons _ _ _ _ _ (.v _ _ (.refl _)) .nil))) (by rfl) (by simp [leE, lk_cons]) (by decide) (by decide) rfl (by simp only [go_sem, ne_eq, not_false_eq_true, Nat.reduceBEq, Nat.reduceAdd, Nat.reduceSub, Nat.reduceMul, Nat.reduceLT, Nat.reduceLeDiff, Int.reduceLE, Int.reduceLT, Int.reduceToNat, Int.reduceBEq, Int.reduceBNe, Int.le_refl, Nat.le_refl, decide_true, decide_false, Int.cast_ofNat_Int, ↓reduceIte, resQ_tmp, resQ_cell, resQ_nil, retD_one, retD_two, retD_three, retD_none]; try simp [R.val, retD_one, retD_two, retD_three, retD_none])

/-! breeze/turn.Proves -/
def m30 (N : Nat) (p769 : PV) (x770 : Int) (x771 : Int) (x772 : Int) : Option (PV) :=
  getL p769 fun n774 c775 =>
  bnd' (m22 N (.lst false n774 c775)) fun p776 =>
  getI .i64 p776 fun x779 =>
  brn (x779 != 0) (
    some (.int .i64 x779)) (
    brn (decide ((minI (minI x770 x771) x772) < 0)) (
      some (.int .i64 2)) (
      brn (decide ((maxI (maxI x770 x771) x772) ≥ ((n774 : Nat) : Int))) (
        some (.int .i64 2)) (
        brn (x771 == x770) (
          some (.int .i64 6)) (
          brn (x772 == x770) (
            some (.int .i64 6)) (
            grd (0 ≤ x771 ∧ x771 < ((n774 : Nat) : Int)) <|
            grd (2 ≤ List.length (List.drop ((Int.toNat x771) * 2) c775)) <|
            getA2 (.agg (List.take 2 (List.drop ((Int.toNat x771) * 2) c775))) fun p789 p790 =>
            grd (0 ≤ x772 ∧ x772 < ((n774 : Nat) : Int)) <|
            grd (2 ≤ List.length (List.drop ((Int.toNat x772) * 2) c775)) <|
            getA2 (.agg (List.take 2 (List.drop ((Int.toNat x772) * 2) c775))) fun p795 p796 =>
            grd (0 ≤ x770 ∧ x770 < ((n774 : Nat) : Int)) <|
            grd (2 ≤ List.length (List.drop ((Int.toNat x770) * 2) c775)) <|
            getA2 (.agg (List.take 2 (List.drop ((Int.toNat x770) * 2) c775))) fun p801 p802 =>
            bnd' (m69 N (.agg [p789, p790]) (.agg [p795, p796]) (.agg [p801, p802])) fun p803 =>
            getB p803 fun b806 =>
            brn b806 (
              some (.int .i64 0)) (
              some (.int .i64 14)))))))
theorem c30 (N : Nat) (p769 : PV) (x770 : Int) (x771 : Int) (x772 : Int) (r : PV)  (h : m30 N p769 x770 x771 x772 = some r) : FnP Try.prog 30 [p769, (.int .i64 x770), (.int .i64 x771), (.int .i64 x772)] r := by
  unfold m30 at h
  refine Fn_of (sz := 55) tab_ok [0, 1, 2, 3, 8, 9, 12, 16, 31, 40] [.tmp 8] Try.func30 rfl rfl rfl (by simp) ?_
  simp only [initSt, initEnv, List.map_cons, List.map_nil, List.getD_cons_zero, List.getD_cons_succ, List.getD_nil]
  have hh := getL_some h; clear h; obtain ⟨n774, c775, h773, h⟩ := hh
  have hh := bnd'_some h; clear h; obtain ⟨p776, h777, h⟩ := hh
  refine W_sound tab_ok mixed 7 _ _ _ ?_
  simp -implicitDefEqProofs only [go_sem, ne_eq, not_false_eq_true, Nat.reduceBEq, Nat.reduceAdd, Nat.reduceSub, Nat.reduceMul, Nat.reduceLT, Nat.reduceLeDiff, Int.reduceLE, Int.reduceLT, Int.reduceToNat, Int.reduceBEq, Int.reduceBNe, Int.le_refl, Nat.le_refl, decide_true, decide_false, Int.cast_ofNat_Int, ↓reduceIte, h773]
  repeat with_reducible refine And.intro (by first | kernel_rfl | decide) ?_
  refine Wp_callP (c22 N _ _ h777) (by kernel_rfl) rfl rfl rfl rfl (by decide) ?_
  have hh := getI_some h; clear h; obtain ⟨x779, h778, h⟩ := hh
  have hh := brn_some h; clear h; rcases hh with ⟨h780, h⟩ | ⟨h780, h⟩
  · refine W_sound tab_ok mixed 17 _ _ _ ?_
    simp -implicitDefEqProofs only [go_sem, ne_eq, not_false_eq_true, Nat.reduceBEq, Nat.reduceAdd, Nat.reduceSub, Nat.reduceMul, Nat.reduceLT, Nat.reduceLeDiff, Int.reduceLE, Int.reduceLT, Int.reduceToNat, Int.reduceBEq, Int.reduceBNe, Int.le_refl, Nat.le_refl, decide_true, decide_false, Int.cast_ofNat_Int, ↓reduceIte, h773, h778, h780]
    repeat with_reducible refine And.intro (by first | kernel_rfl | decide) ?_
    obtain rfl := Option.some.inj h
    exact finC [(8, .v (.int .i64 x779))] [(8, .v (.int .i64 x779))] (by simp [leE, lk_cons]) (.cons _ _ _ _ _ (.v _ _ (.refl _)) .nil) (by rfl) (by simp [leE, lk_cons]) (by decide) (by decide) rfl (by simp only [go_sem, ne_eq, not_false_eq_true, Nat.reduceBEq, Nat.reduceAdd, Nat.reduceSub, Nat.reduceMul, Nat.reduceLT, Nat.reduceLeDiff, Int.reduceLE, Int.reduceLT, Int.reduceToNat, Int.reduceBEq, Int.reduceBNe, Int.le_refl, Nat.le_refl, decide_true, decide_false, Int.cast_ofNat_Int, ↓reduceIte, resQ_tmp, resQ_cell, resQ_nil, retD_one, retD_two, retD_three, retD_none]; try simp [R.val, retD_one, retD_two, retD_three, retD_none])
  · have hh := brn_some h; clear h; rcases hh with ⟨h781, h⟩ | ⟨h781, h⟩
    · refine W_sound tab_ok mixed 35 _ _ _ ?_
      simp -implicitDefEqProofs only [go_sem, ne_eq, not_false_eq_true, Nat.reduceBEq, Nat.reduceAdd, Nat.reduceSub, Nat.reduceMul, Nat.reduceLT, Nat.reduceLeDiff, Int.reduceLE, Int.reduceLT, Int.reduceToNat, Int.reduceBEq, Int.reduceBNe, Int.le_refl, Nat.le_refl, decide_true, decide_false, Int.cast_ofNat_Int, ↓reduceIte, h773, h778, h780, h781]
      repeat with_reducible refine And.intro (by first | kernel_rfl | decide) ?_
      obtain rfl := Option.some.inj h
      exact finC [(8, .v (.int .i64 2))] [(8, .v (.int .i64 2))] (by simp [leE, lk_cons]) (.cons _ _ _ _ _ (.v _ _ (.refl _)) .nil) (by rfl) (by simp [leE, lk_cons]) (by decide) (by decide) rfl (by simp only [go_sem, ne_eq, not_false_eq_true, Nat.reduceBEq, Nat.reduceAdd, Nat.reduceSub, Nat.reduceMul, Nat.reduceLT, Nat.reduceLeDiff, Int.reduceLE, Int.reduceLT, Int.reduceToNat, Int.reduceBEq, Int.reduceBNe, Int.le_refl, Nat.le_refl, decide_true, decide_false, Int.cast_ofNat_Int, ↓reduceIte, resQ_tmp, resQ_cell, resQ_nil, retD_one, retD_two, retD_three, retD_none]; try simp [R.val, retD_one, retD_two, retD_three, retD_none])
    · have hh := brn_some h; clear h; rcases hh with ⟨h782, h⟩ | ⟨h782, h⟩
      · refine W_sound tab_ok mixed 35 _ _ _ ?_
        simp -implicitDefEqProofs only [go_sem, ne_eq, not_false_eq_true, Nat.reduceBEq, Nat.reduceAdd, Nat.reduceSub, Nat.reduceMul, Nat.reduceLT, Nat.reduceLeDiff, Int.reduceLE, Int.reduceLT, Int.reduceToNat, Int.reduceBEq, Int.reduceBNe, Int.le_refl, Nat.le_refl, decide_true, decide_false, Int.cast_ofNat_Int, ↓reduceIte, h773, h778, h780, h781, h782]
        repeat with_reducible refine And.intro (by first | kernel_rfl | decide) ?_
        obtain rfl := Option.some.inj h
        exact finC [(8, .v (.int .i64 2))] [(8, .v (.int .i64 2))] (by simp [leE, lk_cons]) (.cons _ _ _ _ _ (.v _ _ (.refl _)) .nil) (by rfl) (by simp [leE, lk_cons]) (by decide) (by decide) rfl (by simp only [go_sem, ne_eq, not_false_eq_true, Nat.reduceBEq, Nat.reduceAdd, Nat.reduceSub, Nat.reduceMul, Nat.reduceLT, Nat.reduceLeDiff, Int.reduceLE, Int.reduceLT, Int.reduceToNat, Int.reduceBEq, Int.reduceBNe, Int.le_refl, Nat.le_refl, decide_true, decide_false, Int.cast_ofNat_Int, ↓reduceIte, resQ_tmp, resQ_cell, resQ_nil, retD_one, retD_two, retD_three, retD_none]; try simp [R.val, retD_one, retD_two, retD_three, retD_none])
      · have hh := brn_some h; clear h; rcases hh with ⟨h783, h⟩ | ⟨h783, h⟩
        · refine W_sound tab_ok mixed 48 _ _ _ ?_
          simp -implicitDefEqProofs only [go_sem, ne_eq, not_false_eq_true, Nat.reduceBEq, Nat.reduceAdd, Nat.reduceSub, Nat.reduceMul, Nat.reduceLT, Nat.reduceLeDiff, Int.reduceLE, Int.reduceLT, Int.reduceToNat, Int.reduceBEq, Int.reduceBNe, Int.le_refl, Nat.le_refl, decide_true, decide_false, Int.cast_ofNat_Int, ↓reduceIte, h773, h778, h780, h781, h782, h783]
          repeat with_reducible refine And.intro (by first | kernel_rfl | decide) ?_
          obtain rfl := Option.some.inj h
          exact finC [(8, .v (.int .i64 6))] [(8, .v (.int .i64 6))] (by simp [leE, lk_cons]) (.cons _ _ _ _ _ (.v _ _ (.refl _)) .nil) (by rfl) (by simp [leE, lk_cons]) (by decide) (by decide) rfl (by simp only [go_sem, ne_eq, not_false_eq_true, Nat.reduceBEq, Nat.reduceAdd, Nat.reduceSub, Nat.reduceMul, Nat.reduceLT, Nat.reduceLeDiff, Int.reduceLE, Int.reduceLT, Int.reduceToNat, Int.reduceBEq, Int.reduceBNe, Int.le_refl, Nat.le_refl, decide_true, decide_false, Int.cast_ofNat_Int, ↓reduceIte, resQ_tmp, resQ_cell, resQ_nil, retD_one, retD_two, retD_three, retD_none]; try simp [R.val, retD_one, retD_two, retD_three, retD_none])
        · have hh := brn_some h; clear h; rcases hh with ⟨h784, h⟩ | ⟨h784, h⟩
          · refine W_sound tab_ok mixed 48 _ _ _ ?_
            simp -implicitDefEqProofs only [go_sem, ne_eq, not_false_eq_true, Nat.reduceBEq, Nat.reduceAdd, Nat.reduceSub, Nat.reduceMul, Nat.reduceLT, Nat.reduceLeDiff, Int.reduceLE, Int.reduceLT, Int.reduceToNat, Int.reduceBEq, Int.reduceBNe, Int.le_refl, Nat.le_refl, decide_true, decide_false, Int.cast_ofNat_Int, ↓reduceIte, h773, h778, h780, h781, h782, h783, h784]
            repeat with_reducible refine And.intro (by first | kernel_rfl | decide) ?_
            obtain rfl := Option.some.inj h
            exact finC [(8, .v (.int .i64 6))] [(8, .v (.int .i64 6))] (by simp [leE, lk_cons]) (.cons _ _ _ _ _ (.v _ _ (.refl _)) .nil) (by rfl) (by simp [leE, lk_cons]) (by decide) (by decide) rfl (by simp only [go_sem, ne_eq, not_false_eq_true, Nat.reduceBEq, Nat.reduceAdd, Nat.reduceSub, Nat.reduceMul, Nat.reduceLT, Nat.reduceLeDiff, Int.reduceLE, Int.reduceLT, Int.reduceToNat, Int.reduceBEq, Int.reduceBNe, Int.le_refl, Nat.le_refl, decide_true, decide_false, Int.cast_ofNat_Int, ↓reduceIte, resQ_tmp, resQ_cell, resQ_nil, retD_one, retD_two, retD_three, retD_none]; try simp [R.val, retD_one, retD_two, retD_three, retD_none])
          · have hh := grd_some h; clear h; obtain ⟨⟨g785, g786⟩, h⟩ := hh
            have hh := grd_some h; clear h; obtain ⟨g787, h⟩ := hh
            have hh := getA2_some h; clear h; obtain ⟨p789, p790, h788, h⟩ := hh
            injection h788 with h788
            have hh := grd_some h; clear h; obtain ⟨⟨g791, g792⟩, h⟩ := hh
            have hh := grd_some h; clear h; obtain ⟨g793, h⟩ := hh
            have hh := getA2_some h; clear h; obtain ⟨p795, p796, h794, h⟩ := hh
            injection h794 with h794
            have hh := grd_some h; clear h; obtain ⟨⟨g797, g798⟩, h⟩ := hh
            have hh := grd_some h; clear h; obtain ⟨g799, h⟩ := hh
            have hh := getA2_some h; clear h; obtain ⟨p801, p802, h800, h⟩ := hh
            injection h800 with h800
            have hh := bnd'_some h; clear h; obtain ⟨p803, h804, h⟩ := hh
            refine W_sound tab_ok mixed 57 _ _ _ ?_
            simp -implicitDefEqProofs only [go_sem, ne_eq, not_false_eq_true, Nat.reduceBEq, Nat.reduceAdd, Nat.reduceSub, Nat.reduceMul, Nat.reduceLT, Nat.reduceLeDiff, Int.reduceLE, Int.reduceLT, Int.reduceToNat, Int.reduceBEq, Int.reduceBNe, Int.le_refl, Nat.le_refl, decide_true, decide_false, Int.cast_ofNat_Int, ↓reduceIte, h773, h778, h780, h781, h782, h783, h784, g785, g786, g787, h788, g791, g792, g793, h794, g797, g798, g799, h800]
            repeat with_reducible refine And.intro (by first | kernel_rfl | decide) ?_
            refine Wp_callP (c69 N _ _ _ _ h804) (by kernel_rfl) rfl rfl rfl rfl (by decide) ?_
            have hh := getB_some h; clear h; obtain ⟨b806, h805, h⟩ := hh
            have hh := brn_some h; clear h; rcases hh with ⟨h807, h⟩ | ⟨h807, h⟩
            · refine W_sound tab_ok mixed 11 _ _ _ ?_
              simp -implicitDefEqProofs only [go_sem, ne_eq, not_false_eq_true, Nat.reduceBEq, Nat.reduceAdd, Nat.reduceSub, Nat.reduceMul, Nat.reduceLT, Nat.reduceLeDiff, Int.reduceLE, Int.reduceLT, Int.reduceToNat, Int.reduceBEq, Int.reduceBNe, Int.le_refl, Nat.le_refl, decide_true, decide_false, Int.cast_ofNat_Int, ↓reduceIte, h773, h778, h780, h781, h782, h783, h784, g785, g786, g787, h788, g791, g792, g793, h794, g797, g798, g799, h800, h805, h807]
              repeat with_reducible refine And.intro (by first | kernel_rfl | decide) ?_
              obtain rfl := Option.some.inj h
              exact finC [(8, .v (.int .i64 0))] [(8, .v (.int .i64 0))] (by simp [leE, lk_cons]) (.cons _ _ _ _ _ (.v _ _ (.refl _)) .nil) (by rfl) (by simp [leE, lk_cons]) (by decide) (by decide) rfl (by simp only [go_sem, ne_eq, not_false_eq_true, Nat.reduceBEq, Nat.reduceAdd, Nat.reduceSub, Nat.reduceMul, Nat.reduceLT, Nat.reduceLeDiff, Int.reduceLE, Int.reduceLT, Int.reduceToNat, Int.reduceBEq, Int.reduceBNe, Int.le_refl, Nat.le_refl, decide_true, decide_false, Int.cast_ofNat_Int, ↓reduceIte, resQ_tmp, resQ_cell, resQ_nil, retD_one, retD_two, retD_three, retD_none]; try simp [R.val, retD_one, retD_two, retD_three, retD_none])
            · refine W_sound tab_ok mixed 9 _ _ _ ?_
              simp -implicitDefEqProofs only [go_sem, ne_eq, not_false_eq_true, Nat.reduceBEq, Nat.reduceAdd, Nat.reduceSub, Nat.reduceMul, Nat.reduceLT, Nat.reduceLeDiff, Int.reduceLE, Int.reduceLT, Int.reduceToNat, Int.reduceBEq, Int.reduceBNe, Int.le_refl, Nat.le_refl, decide_true, decide_false, Int.cast_ofNat_Int, ↓reduceIte, h773, h778, h780, h781, h782, h783, h784, g785, g786, g787, h788, g791, g792, g793, h794, g797, g798, g799, h800, h805, h807]
              repeat with_reducible refine And.intro (by first | kernel_rfl | decide) ?_
              obtain rfl := Option.some.inj h
              exact finC [(8, .v (.int .i64 14))] [(8, .v (.int .i64 14))] (by simp [leE, lk_cons]) (.cons _ _ _ _ _ (.v _ _ (.refl _)) .nil) (by rfl) (by simp [leE, lk_cons]) (by decide) (by decide) rfl (by simp only [go_sem, ne_eq, not_false_eq_true, Nat.reduceBEq, Nat.reduceAdd, Nat.reduceSub, Nat.reduceMul, Nat.reduceLT, Nat.reduceLeDiff, Int.reduceLE, Int.reduceLT, Int.reduceToNat, Int.reduceBEq, Int.reduceBNe, Int.le_refl, Nat.le_refl, decide_true, decide_false, Int.cast_ofNat_Int, ↓reduceIte, resQ_tmp, resQ_cell, resQ_nil, retD_one, retD_two, retD_three, retD_none]; try simp [R.val, retD_one, retD_two, retD_three, retD_none])

/-! breeze/breezeref12.less -/
def m72 (N : Nat) (p808 : PV) (p809 : PV) : Option (PV) :=
  getA2 p808 fun p811 p812 =>
  getA2 p809 fun p814 p815 =>
  getI .i64 p811 fun x817 =>
  getI .i64 p815 fun x819 =>
  getI .i64 p814 fun x821 =>
  getI .i64 p812 fun x823 =>
  some (.bool (decide ((IntKind.i64.wrap (x817 * x819)) < (IntKind.i64.wrap (x821 * x823)))))
theorem c72 (N : Nat) (p808 : PV) (p809 : PV) (r : PV)  (h : m72 N p808 p809 = some r) : FnP Try.prog 72 [p808, p809] r := by
  unfold m72 at h
  refine Fn_of (sz := 16) tab_ok [0, 1, 2, 3, 4] [.tmp 4] Try.func72 rfl rfl rfl (by simp) ?_
  simp only [initSt, initEnv, List.map_cons, List.map_nil, List.getD_cons_zero, List.getD_cons_succ, List.getD_nil]
  have hh := getA2_some h; clear h; obtain ⟨p811, p812, h810, h⟩ := hh
  have hh := getA2_some h; clear h; obtain ⟨p814, p815, h813, h⟩ := hh
  have hh := getI_some h; clear h; obtain ⟨x817, h816, h⟩ := hh
  have hh := getI_some h; clear h; obtain ⟨x819, h818, h⟩ := hh
  have hh := getI_some h; clear h; obtain ⟨x821, h820, h⟩ := hh
  have hh := getI_some h; clear h; obtain ⟨x823, h822, h⟩ := hh
  refine W_sound tab_ok mixed 22 _ _ _ ?_
  simp -implicitDefEqProofs only [go_sem, ne_eq, not_false_eq_true, Nat.reduceBEq, Nat.reduceAdd, Nat.reduceSub, Nat.reduceMul, Nat.reduceLT, Nat.reduceLeDiff, Int.reduceLE, Int.reduceLT, Int.reduceToNat, Int.reduceBEq, Int.reduceBNe, Int.le_refl, Nat.le_refl, decide_true, decide_false, Int.cast_ofNat_Int, ↓reduceIte, h810, h813, h816, h818, h820, h822]
  repeat with_reducible refine And.intro (by first | kernel_rfl | decide) ?_
  obtain rfl := Option.some.inj h
  exact finC [(4, .v (.bool (decide ((IntKind.i64.wrap (x817 * x819)) < (IntKind.i64.wrap (x821 * x823))))))] [(4, .v (.bool (decide ((IntKind.i64.wrap (x817 * x819)) < (IntKind.i64.wrap (x821 * x823))))))] (by simp [leE, lk_cons]) (.cons _ _ _ _ _ (.v _ _ (.refl _)) .nil) (by rfl) (by simp [leE, lk_cons]) (by decide) (by decide) rfl (by simp only [go_sem, ne_eq, not_false_eq_true, Nat.reduceBEq, Nat.reduceAdd, Nat.reduceSub, Nat.reduceMul, Nat.reduceLT, Nat.reduceLeDiff, Int.reduceLE, Int.reduceLT, Int.reduceToNat, Int.reduceBEq, Int.reduceBNe, Int.le_refl, Nat.le_refl, decide_true, decide_false, Int.cast_ofNat_Int, ↓reduceIte, resQ_tmp, resQ_cell, resQ_nil, retD_one, retD_two, retD_three, retD_none]; try simp [R.val, retD_one, retD_two, retD_three, retD_none])

/-! breeze/breezeref12.equals -/
def m68_L2 (N : Nat) (n826 : Nat) (c827 : List PV) (x1194 : Int) (n1278 : Nat) (x1279 : Int) (c1280 : List PV) (p1302 : PV) (p1303 : PV) : Nat → Int → Option (Int)
  | 0, _ => none
  | n + 1, x1304 =>
    brn (decide (x1304 < ((n1278 : Nat) : Int))) (
      grd (0 ≤ x1304 ∧ x1304 < ((n1278 : Nat) : Int)) <|
      grd ((((Int.toNat x1304) * 2) + 2) ≤ List.length c1280) <|
      getA2 (.agg (List.take 2 (List.drop ((Int.toNat x1304) * 2) c1280))) fun p1310 p1311 =>
      bnd' (m72 N (.agg [p1310, p1311]) (.agg [p1302, p1303])) fun p1312 =>
      getB p1312 fun b1315 =>
      brn b1315 (
        m68_L2 N n826 c827 x1194 n1278 x1279 c1280 p1302 p1303 n (IntKind.i64.wrap (x1304 + 1))) (
        some x1304)) (
      some x1304)
def m68_L1 (N : Nat) (n826 : Nat) (c827 : List PV) (x1194 : Int) : Nat → Nat → Int → List PV → Option ((Nat × List PV))
  | 0, _, _, _ => none
  | n + 1, n1278, x1279, c1280 =>
    brn (decide (x1279 < x1194)) (
      grd (0 ≤ x1194 ∧ x1194 < ((n826 : Nat) : Int)) <|
      grd (0 < List.length (List.drop 1 (List.drop ((Int.toNat x1194) * 2) c827))) <|
      getI .i64 (gp c827 (((Int.toNat x1194) * 2) + 1)) fun x1286 =>
      grd (0 ≤ x1279 ∧ x1279 < ((n826 : Nat) : Int)) <|
      grd (0 < List.length (List.drop 1 (List.drop ((Int.toNat x1279) * 2) c827))) <|
      getI .i64 (gp c827 (((Int.toNat x1279) * 2) + 1)) fun x1291 =>
      brn (x1286 == x1291) (
        m68_L1 N n826 c827 x1194 n n1278 (IntKind.i64.wrap (x1279 + 1)) c1280) (
        grd (0 < List.length (List.drop ((Int.toNat x1194) * 2) c827)) <|
        getI .i64 (gp c827 ((Int.toNat x1194) * 2)) fun x1295 =>
        grd (0 < List.length (List.drop ((Int.toNat x1279) * 2) c827)) <|
        getI .i64 (gp c827 ((Int.toNat x1279) * 2)) fun x1298 =>
        bnd' (m60 N (IntKind.i64.wrap (x1295 - x1298)) (IntKind.i64.wrap (x1291 - x1286))) fun p1299 =>
        getA2 p1299 fun p1302 p1303 =>
        bnd' (m68_L2 N n826 c827 x1194 n1278 x1279 c1280 p1302 p1303 N 0) fun x1317 =>
        brn (decide (x1317 < ((n1278 : Nat) : Int))) (
          grd (0 ≤ x1317 ∧ x1317 < ((n1278 : Nat) : Int)) <|
          grd ((((Int.toNat x1317) * 2) + 2) ≤ List.length c1280) <|
          getA2 (.agg (List.take 2 (List.drop ((Int.toNat x1317) * 2) c1280))) fun p1323 p1324 =>
          getI .i64 p1324 fun x1326 =>
          getI .i64 p1303 fun x1328 =>
          getI .i64 p1323 fun x1330 =>
          getI .i64 p1302 fun x1332 =>
          brn ((x1330 == x1332) && (x1326 == x1328)) (
            m68_L1 N n826 c827 x1194 n n1278 (IntKind.i64.wrap (x1279 + 1)) c1280) (
            grd (x1317 ≤ ((n1278 : Nat) : Int)) <|
            grd (List.length (List.take ((Int.toNat x1317) * 2) c1280) = ((Int.toNat x1317) * 2)) <|
            brn (decide (0 < (Int.toNat x1317))) (
              grd ((Int.toNat x1317) ≤ 1099511627776) <|
              grd (((Int.toNat x1317) + 1) ≤ 1099511627776) <|
              grd (List.length (List.take ((Int.toNat (((n1278 : Nat) : Int) - x1317)) * 2) (List.drop ((Int.toNat x1317) * 2) c1280)) = ((Int.toNat (((n1278 : Nat) : Int) - x1317)) * 2)) <|
              grd ((((Int.toNat x1317) + 1) + (Int.toNat (((n1278 : Nat) : Int) - x1317))) ≤ 1099511627776) <|
              grd (List.length ((List.take ((Int.toNat x1317) * 2) c1280) ++ [(.int .i64 x1332), (.int .i64 x1328)]) = (((Int.toNat x1317) + 1) * 2)) <|
              m68_L1 N n826 c827 x1194 n (((Int.toNat x1317) + 1) + (Int.toNat (((n1278 : Nat) : Int) - x1317))) (IntKind.i64.wrap (x1279 + 1)) (((List.take ((Int.toNat x1317) * 2) c1280) ++ [(.int .i64 x1332), (.int .i64 x1328)]) ++ (List.take ((Int.toNat (((n1278 : Nat) : Int) - x1317)) * 2) (List.drop ((Int.toNat x1317) * 2) c1280)))) (
              grd ((Int.toNat x1317) ≤ 1099511627776) <|
              grd (((Int.toNat x1317) + 1) ≤ 1099511627776) <|
              grd (List.length (List.take ((Int.toNat (((n1278 : Nat) : Int) - x1317)) * 2) (List.drop ((Int.toNat x1317) * 2) c1280)) = ((Int.toNat (((n1278 : Nat) : Int) - x1317)) * 2)) <|
              grd ((((Int.toNat x1317) + 1) + (Int.toNat (((n1278 : Nat) : Int) - x1317))) ≤ 1099511627776) <|
              grd (List.length ((List.take ((Int.toNat x1317) * 2) c1280) ++ [(.int .i64 x1332), (.int .i64 x1328)]) = (((Int.toNat x1317) + 1) * 2)) <|
              m68_L1 N n826 c827 x1194 n (((Int.toNat x1317) + 1) + (Int.toNat (((n1278 : Nat) : Int) - x1317))) (IntKind.i64.wrap (x1279 + 1)) (((List.take ((Int.toNat x1317) * 2) c1280) ++ [(.int .i64 x1332), (.int .i64 x1328)]) ++ (List.take ((Int.toNat (((n1278 : Nat) : Int) - x1317)) * 2) (List.drop ((Int.toNat x1317) * 2) c1280)))))) (
          grd (0 ≤ x1317 ∧ x1317 ≤ ((n1278 : Nat) : Int)) <|
          grd (List.length (List.take ((Int.toNat x1317) * 2) c1280) = ((Int.toNat x1317) * 2)) <|
          brn (decide (0 < (Int.toNat x1317))) (
            grd ((Int.toNat x1317) ≤ 1099511627776) <|
            grd (((Int.toNat x1317) + 1) ≤ 1099511627776) <|
            grd (List.length (List.take ((Int.toNat (((n1278 : Nat) : Int) - x1317)) * 2) (List.drop ((Int.toNat x1317) * 2) c1280)) = ((Int.toNat (((n1278 : Nat) : Int) - x1317)) * 2)) <|
            grd ((((Int.toNat x1317) + 1) + (Int.toNat (((n1278 : Nat) : Int) - x1317))) ≤ 1099511627776) <|
            grd (List.length ((List.take ((Int.toNat x1317) * 2) c1280) ++ [p1302, p1303]) = (((Int.toNat x1317) + 1) * 2)) <|
            m68_L1 N n826 c827 x1194 n (((Int.toNat x1317) + 1) + (Int.toNat (((n1278 : Nat) : Int) - x1317))) (IntKind.i64.wrap (x1279 + 1)) (((List.take ((Int.toNat x1317) * 2) c1280) ++ [p1302, p1303]) ++ (List.take ((Int.toNat (((n1278 : Nat) : Int) - x1317)) * 2) (List.drop ((Int.toNat x1317) * 2) c1280)))) (
            grd ((Int.toNat x1317) ≤ 1099511627776) <|
            grd (((Int.toNat x1317) + 1) ≤ 1099511627776) <|
            grd (List.length (List.take ((Int.toNat (((n1278 : Nat) : Int) - x1317)) * 2) (List.drop ((Int.toNat x1317) * 2) c1280)) = ((Int.toNat (((n1278 : Nat) : Int) - x1317)) * 2)) <|
            grd ((((Int.toNat x1317) + 1) + (Int.toNat (((n1278 : Nat) : Int) - x1317))) ≤ 1099511627776) <|
            grd (List.length ((List.take ((Int.toNat x1317) * 2) c1280) ++ [p1302, p1303]) = (((Int.toNat x1317) + 1) * 2)) <|
            m68_L1 N n826 c827 x1194 n (((Int.toNat x1317) + 1) + (Int.toNat (((n1278 : Nat) : Int) - x1317))) (IntKind.i64.wrap (x1279 + 1)) (((List.take ((Int.toNat x1317) * 2) c1280) ++ [p1302, p1303]) ++ (List.take ((Int.toNat (((n1278 : Nat) : Int) - x1317)) * 2) (List.drop ((Int.toNat x1317) * 2) c1280))))))) (
      some (n1278, c1280))
def m68_L0 (N : Nat) (n826 : Nat) (c827 : List PV) : Nat → Nat → Int → List PV → Option ((Nat × List PV))
  | 0, _, _, _ => none
  | n + 1, n1193, x1194, c1195 =>
    brn (decide (x1194 < ((n826 : Nat) : Int))) (
      bnd' (m68_L1 N n826 c827 x1194 N n1193 0 c1195) fun o =>
      match o with
      | (n1361, c1362) =>
        m68_L0 N n826 c827 n n1361 (IntKind.i64.wrap (x1194 + 1)) c1362) (
      some (n1193, c1195))
def m68 (N : Nat) (p824 : PV) : Option (PV) :=
  getL p824 fun n826 c827 =>
  bnd' (m68_L0 N n826 c827 N 0 0 []) fun o =>
  match o with
  | (n1363, c1364) =>
    grd (List.length c1364 = (n1363 * 2)) <|
    some (.lst false n1363 c1364)
theorem c68 (N : Nat) (p824 : PV) (r : PV)  (h : m68 N p824 = some r) : FnP Try.prog 68 [p824] r := by
  unfold m68 at h
  refine Fn_of (sz := 95) tab_ok [0, 2, 3, 4, 5, 6, 7, 8, 12, 17, 30, 65, 79] [.tmp 2] Try.func68 rfl rfl rfl (by simp) ?_
  simp only [initSt, initEnv, List.map_cons, List.map_nil, List.getD_cons_zero, List.getD_cons_succ, List.getD_nil]
  have hh := getL_some h; clear h; obtain ⟨n826, c827, h825, h⟩ := hh
  refine W_sound tab_ok mixed 13 _ _ _ ?_
  simp -implicitDefEqProofs only [go_sem, ne_eq, not_false_eq_true, Nat.reduceBEq, Nat.reduceAdd, Nat.reduceSub, Nat.reduceMul, Nat.reduceLT, Nat.reduceLeDiff, Int.reduceLE, Int.reduceLT, Int.reduceToNat, Int.reduceBEq, Int.reduceBNe, Int.le_refl, Nat.le_refl, decide_true, decide_false, Int.cast_ofNat_Int, ↓reduceIte, h825]
  repeat with_reducible refine And.intro (by first | kernel_rfl | decide) ?_
  refine Wp_weaken (Wk_ownS 3 2 rfl (by decide) (by decide)) ?_
  simp -implicitDefEqProofs only [go_sem, ne_eq, not_false_eq_true, Nat.reduceBEq, Nat.reduceAdd, Nat.reduceSub, Nat.reduceMul, Nat.reduceLT, Nat.reduceLeDiff, Int.reduceLE, Int.reduceLT, Int.reduceToNat, Int.reduceBEq, Int.reduceBNe, Int.le_refl, Nat.le_refl, decide_true, decide_false, Int.cast_ofNat_Int, ↓reduceIte, h825]
  have hh := bnd'_some h; clear h; obtain ⟨o1366, h1367, h1368⟩ := hh
  refine Wp_cut (fun s => ∃ n1363, ∃ c1364, (n1363, c1364) = o1366 ∧ s = ⟨[], [(0, .dead), (2, .dead), (3, .sl false 0 0 n1363 2), (4, .dead), (5, .dead), (6, .dead), (7, .dead), (8, .dead), (12, .dead), (17, .dead), (30, .dead), (65, .dead), (79, .dead)], [(0, .p c1364)], 1, []⟩) ?_ ?_
  · refine Wp_block ?_
    refine Wp_loopG (fun n s => ∃ n1193, ∃ x1194, ∃ c1195, m68_L0 N n826 c827 n n1193 x1194 c1195 = some o1366 ∧ s = ⟨[], [(0, .v (.lst false n826 c827)), (2, .dead), (3, .sl false 0 0 n1193 2), (4, .v (.int .i64 x1194)), (5, .dead), (6, .dead), (7, .dead), (8, .dead), (12, .dead), (17, .dead), (30, .dead), (65, .dead), (79, .dead)], [(0, .p c1195)], 1, []⟩) N _ ((Wk_le (.cons _ _ _ _ _ (.refl _) (.cons _ _ _ _ _ (.dead _) (.cons _ _ _ _ _ (.refl _) (.cons _ _ _ _ _ (.refl _) (.cons _ _ _ _ _ (.refl _) (.cons _ _ _ _ _ (.refl _) (.cons _ _ _ _ _ (.refl _) (.cons _ _ _ _ _ (.refl _) (.cons _ _ _ _ _ (.refl _) (.cons _ _ _ _ _ (.refl _) (.cons _ _ _ _ _ (.refl _) (.cons _ _ _ _ _ (.refl _) (.cons _ _ _ _ _ (.refl _) .nil))))))))))))) (OLe.refl _)).trans (cmpS_ok rfl)) ⟨_, _, _, h1367, rfl⟩ ?_
    clear h1367
    rintro n _ ⟨n1193, x1194, c1195, h1367, rfl⟩
    cases n with
    | zero => cases h1367
    | succ n =>
      rw [m68_L0] at h1367
      have hh := brn_some h1367; clear h1367; rcases hh with ⟨h1196, h1367⟩ | ⟨h1196, h1367⟩
      · refine W_sound tab_ok mixed 16 _ _ _ ?_
        simp -implicitDefEqProofs only [go_sem, ne_eq, not_false_eq_true, Nat.reduceBEq, Nat.reduceAdd, Nat.reduceSub, Nat.reduceMul, Nat.reduceLT, Nat.reduceLeDiff, Int.reduceLE, Int.reduceLT, Int.reduceToNat, Int.reduceBEq, Int.reduceBNe, Int.le_refl, Nat.le_refl, decide_true, decide_false, Int.cast_ofNat_Int, ↓reduceIte, h825, h1196]
        repeat with_reducible refine And.intro (by first | kernel_rfl | decide) ?_
        have hh := bnd'_some h1367; clear h1367; obtain ⟨o1369, h1370, h1371⟩ := hh
        refine Wp_cut (fun s => ∃ n1361, ∃ c1362, (n1361, c1362) = o1369 ∧ s = ⟨[], [(0, .v (.lst false n826 c827)), (2, .dead), (3, .sl false 0 0 n1361 2), (4, .v (.int .i64 x1194)), (5, .dead), (6, .dead), (7, .dead), (8, .dead), (12, .dead), (17, .dead), (30, .dead), (65, .dead), (79, .dead)], [(0, .p c1362)], 1, []⟩) ?_ ?_
        · refine Wp_block ?_
          refine Wp_loopG (fun n s => ∃ n1278, ∃ x1279, ∃ c1280, m68_L1 N n826 c827 x1194 n n1278 x1279 c1280 = some o1369 ∧ s = ⟨[], [(0, .v (.lst false n826 c827)), (2, .dead), (3, .sl false 0 0 n1278 2), (4, .v (.int .i64 x1194)), (5, .v (.int .i64 x1279)), (6, .dead), (7, .dead), (8, .dead), (12, .dead), (17, .dead), (30, .dead), (65, .dead), (79, .dead)], [(0, .p c1280)], 1, []⟩) N _ ((Wk_le (.cons _ _ _ _ _ (.refl _) (.cons _ _ _ _ _ (.refl _) (.cons _ _ _ _ _ (.refl _) (.cons _ _ _ _ _ (.refl _) (.cons _ _ _ _ _ (.refl _) (.cons _ _ _ _ _ (.refl _) (.cons _ _ _ _ _ (.refl _) (.cons _ _ _ _ _ (.refl _) (.cons _ _ _ _ _ (.dead _) (.cons _ _ _ _ _ (.refl _) (.cons _ _ _ _ _ (.refl _) (.cons _ _ _ _ _ (.refl _) (.cons _ _ _ _ _ (.refl _) .nil))))))))))))) (OLe.refl _)).trans (cmpS_ok rfl)) ⟨_, _, _, h1370, rfl⟩ ?_
          clear h1370
          rintro n _ ⟨n1278, x1279, c1280, h1370, rfl⟩
          cases n with
          | zero => cases h1370
          | succ n =>
            rw [m68_L1] at h1370
            have hh := brn_some h1370; clear h1370; rcases hh with ⟨h1281, h1370⟩ | ⟨h1281, h1370⟩
            · have hh := grd_some h1370; clear h1370; obtain ⟨⟨g1282, g1283⟩, h1370⟩ := hh
              have hh := grd_some h1370; clear h1370; obtain ⟨g1284, h1370⟩ := hh
              have hh := getI_some h1370; clear h1370; obtain ⟨x1286, h1285, h1370⟩ := hh
              have hh := grd_some h1370; clear h1370; obtain ⟨⟨g1287, g1288⟩, h1370⟩ := hh
              have hh := grd_some h1370; clear h1370; obtain ⟨g1289, h1370⟩ := hh
              have hh := getI_some h1370; clear h1370; obtain ⟨x1291, h1290, h1370⟩ := hh
              have hh := brn_some h1370; clear h1370; rcases hh with ⟨h1292, h1370⟩ | ⟨h1292, h1370⟩
              · refine W_sound tab_ok mixed 33 _ _ _ ?_
                simp -implicitDefEqProofs only [go_sem, ne_eq, not_false_eq_true, Nat.reduceBEq, Nat.reduceAdd, Nat.reduceSub, Nat.reduceMul, Nat.reduceLT, Nat.reduceLeDiff, Int.reduceLE, Int.reduceLT, Int.reduceToNat, Int.reduceBEq, Int.reduceBNe, Int.le_refl, Nat.le_refl, decide_true, decide_false, Int.cast_ofNat_Int, ↓reduceIte, h825, h1196, h1281, g1282, g1283, g1284, h1285, g1287, g1288, g1289, h1290, h1292]
                repeat with_reducible refine And.intro (by first | kernel_rfl | decide) ?_
                exact cutQ _ ((Wk_le (.cons _ _ _ _ _ (.refl _) (.cons _ _ _ _ _ (.refl _) (.cons _ _ _ _ _ (.refl _) (.cons _ _ _ _ _ (.refl _) (.cons _ _ _ _ _ (.refl _) (.cons _ _ _ _ _ (.refl _) (.cons _ _ _ _ _ (.refl _) (.cons _ _ _ _ _ (.refl _) (.cons _ _ _ _ _ (.refl _) (.cons _ _ _ _ _ (.dead _) (.cons _ _ _ _ _ (.dead _) (.cons _ _ _ _ _ (.refl _) (.cons _ _ _ _ _ (.refl _) .nil))))))))))))) (OLe.refl _)).trans (cmpS_ok rfl)) ⟨n, Nat.lt_succ_self n, _, _, _, h1370, rfl⟩
              · have hh := grd_some h1370; clear h1370; obtain ⟨g1293, h1370⟩ := hh
                have hh := getI_some h1370; clear h1370; obtain ⟨x1295, h1294, h1370⟩ := hh
                have hh := grd_some h1370; clear h1370; obtain ⟨g1296, h1370⟩ := hh
                have hh := getI_some h1370; clear h1370; obtain ⟨x1298, h1297, h1370⟩ := hh
                have hh := bnd'_some h1370; clear h1370; obtain ⟨p1299, h1300, h1370⟩ := hh
                refine W_sound tab_ok mixed 52 _ _ _ ?_
                simp -implicitDefEqProofs only [go_sem, ne_eq, not_false_eq_true, Nat.reduceBEq, Nat.reduceAdd, Nat.reduceSub, Nat.reduceMul, Nat.reduceLT, Nat.reduceLeDiff, Int.reduceLE, Int.reduceLT, Int.reduceToNat, Int.reduceBEq, Int.reduceBNe, Int.le_refl, Nat.le_refl, decide_true, decide_false, Int.cast_ofNat_Int, ↓reduceIte, h825, h1196, h1281, g1282, g1283, g1284, h1285, g1287, g1288, g1289, h1290, h1292, g1293, h1294, g1296, h1297]
                repeat with_reducible refine And.intro (by first | kernel_rfl | decide) ?_
                refine Wp_callP (c60 N _ _ _ h1300) (by kernel_rfl) rfl rfl rfl rfl (by decide) ?_
                have hh := getA2_some h1370; clear h1370; obtain ⟨p1302, p1303, h1301, h1370⟩ := hh
                refine W_sound tab_ok mixed 8 _ _ _ ?_
                simp -implicitDefEqProofs only [go_sem, ne_eq, not_false_eq_true, Nat.reduceBEq, Nat.reduceAdd, Nat.reduceSub, Nat.reduceMul, Nat.reduceLT, Nat.reduceLeDiff, Int.reduceLE, Int.reduceLT, Int.reduceToNat, Int.reduceBEq, Int.reduceBNe, Int.le_refl, Nat.le_refl, decide_true, decide_false, Int.cast_ofNat_Int, ↓reduceIte, h825, h1196, h1281, g1282, g1283, g1284, h1285, g1287, g1288, g1289, h1290, h1292, g1293, h1294, g1296, h1297, h1301]
                repeat with_reducible refine And.intro (by first | kernel_rfl | decide) ?_
                have hh := bnd'_some h1370; clear h1370; obtain ⟨o1372, h1373, h1374⟩ := hh
                refine Wp_cut (fun s => ∃ x1317, x1317 = o1372 ∧ s = ⟨[], [(0, .v (.lst false n826 c827)), (2, .dead), (3, .sl false 0 0 n1278 2), (4, .v (.int .i64 x1194)), (5, .v (.int .i64 x1279)), (6, .ptr 1 0), (7, .v (.int .i64 x1317)), (8, .dead), (12, .dead), (17, .dead), (30, .dead), (65, .dead), (79, .dead)], [(0, .p c1280), (1, .p [p1302, p1303])], 2, []⟩) ?_ ?_
                · refine Wp_block ?_
                  refine Wp_loopG (fun n s => ∃ x1304, m68_L2 N n826 c827 x1194 n1278 x1279 c1280 p1302 p1303 n x1304 = some o1372 ∧ s = ⟨[], [(0, .v (.lst false n826 c827)), (2, .dead), (3, .sl false 0 0 n1278 2), (4, .v (.int .i64 x1194)), (5, .v (.int .i64 x1279)), (6, .ptr 1 0), (7, .v (.int .i64 x1304)), (8, .dead), (12, .dead), (17, .dead), (30, .dead), (65, .dead), (79, .dead)], [(0, .p c1280), (1, .p [p1302, p1303])], 2, []⟩) N _ ((Wk_le (.cons _ _ _ _ _ (.refl _) (.cons _ _ _ _ _ (.refl _) (.cons _ _ _ _ _ (.refl _) (.cons _ _ _ _ _ (.refl _) (.cons _ _ _ _ _ (.refl _) (.cons _ _ _ _ _ (.refl _) (.cons _ _ _ _ _ (.refl _) (.cons _ _ _ _ _ (.refl _) (.cons _ _ _ _ _ (.refl _) (.cons _ _ _ _ _ (.dead _) (.cons _ _ _ _ _ (.dead _) (.cons _ _ _ _ _ (.refl _) (.cons _ _ _ _ _ (.refl _) .nil))))))))))))) (OLe.refl _)).trans (cmpS_ok rfl)) ⟨_, h1373, rfl⟩ ?_
                  clear h1373
                  rintro n _ ⟨x1304, h1373, rfl⟩
                  cases n with
                  | zero => cases h1373
                  | succ n =>
                    rw [m68_L2] at h1373
                    have hh := brn_some h1373; clear h1373; rcases hh with ⟨h1305, h1373⟩ | ⟨h1305, h1373⟩
                    · have hh := grd_some h1373; clear h1373; obtain ⟨⟨g1306, g1307⟩, h1373⟩ := hh
                      have hh := grd_some h1373; clear h1373; obtain ⟨g1308, h1373⟩ := hh
                      have hh := getA2_some h1373; clear h1373; obtain ⟨p1310, p1311, h1309, h1373⟩ := hh
                      injection h1309 with h1309
                      have hh := bnd'_some h1373; clear h1373; obtain ⟨p1312, h1313, h1373⟩ := hh
                      refine W_sound tab_ok mixed 13 _ _ _ ?_
                      simp -implicitDefEqProofs only [go_sem, ne_eq, not_false_eq_true, Nat.reduceBEq, Nat.reduceAdd, Nat.reduceSub, Nat.reduceMul, Nat.reduceLT, Nat.reduceLeDiff, Int.reduceLE, Int.reduceLT, Int.reduceToNat, Int.reduceBEq, Int.reduceBNe, Int.le_refl, Nat.le_refl, decide_true, decide_false, Int.cast_ofNat_Int, ↓reduceIte, h825, h1196, h1281, g1282, g1283, g1284, h1285, g1287, g1288, g1289, h1290, h1292, g1293, h1294, g1296, h1297, h1301, h1305, g1306, g1307, g1308, h1309]
                      repeat with_reducible refine And.intro (by first | kernel_rfl | decide) ?_
                      refine Wp_callP (c72 N _ _ _ h1313) (by kernel_rfl) rfl rfl rfl rfl (by decide) ?_
                      have hh := getB_some h1373; clear h1373; obtain ⟨b1315, h1314, h1373⟩ := hh
                      have hh := brn_some h1373; clear h1373; rcases hh with ⟨h1316, h1373⟩ | ⟨h1316, h1373⟩
                      · refine W_sound tab_ok mixed 11 _ _ _ ?_
                        simp -implicitDefEqProofs only [go_sem, ne_eq, not_false_eq_true, Nat.reduceBEq, Nat.reduceAdd, Nat.reduceSub, Nat.reduceMul, Nat.reduceLT, Nat.reduceLeDiff, Int.reduceLE, Int.reduceLT, Int.reduceToNat, Int.reduceBEq, Int.reduceBNe, Int.le_refl, Nat.le_refl, decide_true, decide_false, Int.cast_ofNat_Int, ↓reduceIte, h825, h1196, h1281, g1282, g1283, g1284, h1285, g1287, g1288, g1289, h1290, h1292, g1293, h1294, g1296, h1297, h1301, h1305, g1306, g1307, g1308, h1309, h1314, h1316]
                        repeat with_reducible refine And.intro (by first | kernel_rfl | decide) ?_
                        exact cutQ _ ((Wk_le (.cons _ _ _ _ _ (.refl _) (.cons _ _ _ _ _ (.refl _) (.cons _ _ _ _ _ (.refl _) (.cons _ _ _ _ _ (.refl _) (.cons _ _ _ _ _ (.refl _) (.cons _ _ _ _ _ (.refl _) (.cons _ _ _ _ _ (.refl _) (.cons _ _ _ _ _ (.refl _) (.cons _ _ _ _ _ (.refl _) (.cons _ _ _ _ _ (.refl _) (.cons _ _ _ _ _ (.refl _) (.cons _ _ _ _ _ (.dead _) (.cons _ _ _ _ _ (.refl _) .nil))))))))))))) (OLe.refl _)).trans (cmpS_ok rfl)) ⟨n, Nat.lt_succ_self n, _, h1373, rfl⟩
                      · refine W_sound tab_ok mixed 4 _ _ _ ?_
                        simp -implicitDefEqProofs only [go_sem, ne_eq, not_false_eq_true, Nat.reduceBEq, Nat.reduceAdd, Nat.reduceSub, Nat.reduceMul, Nat.reduceLT, Nat.reduceLeDiff, Int.reduceLE, Int.reduceLT, Int.reduceToNat, Int.reduceBEq, Int.reduceBNe, Int.le_refl, Nat.le_refl, decide_true, decide_false, Int.cast_ofNat_Int, ↓reduceIte, h825, h1196, h1281, g1282, g1283, g1284, h1285, g1287, g1288, g1289, h1290, h1292, g1293, h1294, g1296, h1297, h1301, h1305, g1306, g1307, g1308, h1309, h1314, h1316]
                        repeat with_reducible refine And.intro (by first | kernel_rfl | decide) ?_
                        obtain rfl := Option.some.inj h1373
                        exact cutQ _ ((Wk_le (.cons _ _ _ _ _ (.refl _) (.cons _ _ _ _ _ (.refl _) (.cons _ _ _ _ _ (.refl _) (.cons _ _ _ _ _ (.refl _) (.cons _ _ _ _ _ (.refl _) (.cons _ _ _ _ _ (.refl _) (.cons _ _ _ _ _ (.refl _) (.cons _ _ _ _ _ (.refl _) (.cons _ _ _ _ _ (.refl _) (.cons _ _ _ _ _ (.refl _) (.cons _ _ _ _ _ (.refl _) (.cons _ _ _ _ _ (.dead _) (.cons _ _ _ _ _ (.refl _) .nil))))))))))))) (OLe.refl _)).trans (cmpS_ok rfl)) ⟨_, rfl, rfl⟩
                    · refine W_sound tab_ok mixed 18 _ _ _ ?_
                      simp -implicitDefEqProofs only [go_sem, ne_eq, not_false_eq_true, Nat.reduceBEq, Nat.reduceAdd, Nat.reduceSub, Nat.reduceMul, Nat.reduceLT, Nat.reduceLeDiff, Int.reduceLE, Int.reduceLT, Int.reduceToNat, Int.reduceBEq, Int.reduceBNe, Int.le_refl, Nat.le_refl, decide_true, decide_false, Int.cast_ofNat_Int, ↓reduceIte, h825, h1196, h1281, g1282, g1283, g1284, h1285, g1287, g1288, g1289, h1290, h1292, g1293, h1294, g1296, h1297, h1301, h1305]
                      repeat with_reducible refine And.intro (by first | kernel_rfl | decide) ?_
                      obtain rfl := Option.some.inj h1373
                      exact cutQ _ ((Wk_le (.cons _ _ _ _ _ (.refl _) (.cons _ _ _ _ _ (.refl _) (.cons _ _ _ _ _ (.refl _) (.cons _ _ _ _ _ (.refl _) (.cons _ _ _ _ _ (.refl _) (.cons _ _ _ _ _ (.refl _) (.cons _ _ _ _ _ (.refl _) (.cons _ _ _ _ _ (.refl _) (.cons _ _ _ _ _ (.refl _) (.cons _ _ _ _ _ (.refl _) (.cons _ _ _ _ _ (.refl _) (.cons _ _ _ _ _ (.dead _) (.cons _ _ _ _ _ (.refl _) .nil))))))))))))) (OLe.refl _)).trans (cmpS_ok rfl)) ⟨_, rfl, rfl⟩
                · rintro _ ⟨x1317, rfl, rfl⟩
                  have hh := brn_some h1374; clear h1374; rcases hh with ⟨h1318, h1374⟩ | ⟨h1318, h1374⟩
                  · have hh := grd_some h1374; clear h1374; obtain ⟨⟨g1319, g1320⟩, h1374⟩ := hh
                    have hh := grd_some h1374; clear h1374; obtain ⟨g1321, h1374⟩ := hh
                    have hh := getA2_some h1374; clear h1374; obtain ⟨p1323, p1324, h1322, h1374⟩ := hh
                    injection h1322 with h1322
                    have hh := getI_some h1374; clear h1374; obtain ⟨x1326, h1325, h1374⟩ := hh
                    have hh := getI_some h1374; clear h1374; obtain ⟨x1328, h1327, h1374⟩ := hh
                    have hh := getI_some h1374; clear h1374; obtain ⟨x1330, h1329, h1374⟩ := hh
                    have hh := getI_some h1374; clear h1374; obtain ⟨x1332, h1331, h1374⟩ := hh
                    have hh := brn_some h1374; clear h1374; rcases hh with ⟨h1333, h1374⟩ | ⟨h1333, h1374⟩
                    · refine W_sound tab_ok mixed 23 _ _ _ ?_
                      simp -implicitDefEqProofs only [go_sem, ne_eq, not_false_eq_true, Nat.reduceBEq, Nat.reduceAdd, Nat.reduceSub, Nat.reduceMul, Nat.reduceLT, Nat.reduceLeDiff, Int.reduceLE, Int.reduceLT, Int.reduceToNat, Int.reduceBEq, Int.reduceBNe, Int.le_refl, Nat.le_refl, decide_true, decide_false, Int.cast_ofNat_Int, ↓reduceIte, h825, h1196, h1281, g1282, g1283, g1284, h1285, g1287, g1288, g1289, h1290, h1292, g1293, h1294, g1296, h1297, h1301, h1318, g1319, g1320, g1321, h1322, h1325, h1327, h1329, h1331, h1333]
                      repeat with_reducible refine And.intro (by first | kernel_rfl | decide) ?_
                      exact cutQ _ ((Wk_le (.cons _ _ _ _ _ (.refl _) (.cons _ _ _ _ _ (.refl _) (.cons _ _ _ _ _ (.refl _) (.cons _ _ _ _ _ (.refl _) (.cons _ _ _ _ _ (.refl _) (.cons _ _ _ _ _ (.dead _) (.cons _ _ _ _ _ (.dead _) (.cons _ _ _ _ _ (.refl _) (.cons _ _ _ _ _ (.refl _) (.cons _ _ _ _ _ (.refl _) (.cons _ _ _ _ _ (.refl _) (.cons _ _ _ _ _ (.refl _) (.cons _ _ _ _ _ (.dead _) .nil))))))))))))) (OLe.refl _)).trans (cmpS_ok rfl)) ⟨n, Nat.lt_succ_self n, _, _, _, h1374, rfl⟩
                    · have hh := grd_some h1374; clear h1374; obtain ⟨g1334, h1374⟩ := hh
                      have hh := grd_some h1374; clear h1374; obtain ⟨g1335, h1374⟩ := hh
                      have hh := brn_some h1374; clear h1374; rcases hh with ⟨h1336, h1374⟩ | ⟨h1336, h1374⟩
                      · have hh := grd_some h1374; clear h1374; obtain ⟨g1337, h1374⟩ := hh
                        have hh := grd_some h1374; clear h1374; obtain ⟨g1338, h1374⟩ := hh
                        have hh := grd_some h1374; clear h1374; obtain ⟨g1339, h1374⟩ := hh
                        have hh := grd_some h1374; clear h1374; obtain ⟨g1340, h1374⟩ := hh
                        have hh := grd_some h1374; clear h1374; obtain ⟨g1341, h1374⟩ := hh
                        refine W_sound tab_ok mixed 49 _ _ _ ?_
                        simp -implicitDefEqProofs only [go_sem, ne_eq, not_false_eq_true, Nat.reduceBEq, Nat.reduceAdd, Nat.reduceSub, Nat.reduceMul, Nat.reduceLT, Nat.reduceLeDiff, Int.reduceLE, Int.reduceLT, Int.reduceToNat, Int.reduceBEq, Int.reduceBNe, Int.le_refl, Nat.le_refl, decide_true, decide_false, Int.cast_ofNat_Int, ↓reduceIte, h825, h1196, h1281, g1282, g1283, g1284, h1285, g1287, g1288, g1289, h1290, h1292, g1293, h1294, g1296, h1297, h1301, h1318, g1319, g1320, g1321, h1322, h1325, h1327, h1329, h1331, h1333, g1334, g1335, h1336, g1337, g1338, g1339, g1340, g1341]
                        repeat with_reducible refine And.intro (by first | kernel_rfl | decide) ?_
                        exact cutQ _ ((Wk_le (.cons _ _ _ _ _ (.refl _) (.cons _ _ _ _ _ (.refl _) (.cons _ _ _ _ _ (.refl _) (.cons _ _ _ _ _ (.refl _) (.cons _ _ _ _ _ (.refl _) (.cons _ _ _ _ _ (.dead _) (.cons _ _ _ _ _ (.dead _) (.cons _ _ _ _ _ (.dead _) (.cons _ _ _ _ _ (.refl _) (.cons _ _ _ _ _ (.refl _) (.cons _ _ _ _ _ (.refl _) (.cons _ _ _ _ _ (.refl _) (.cons _ _ _ _ _ (.dead _) .nil))))))))))))) (OLe.refl _)).trans (cmpS_ok rfl)) ⟨n, Nat.lt_succ_self n, _, _, _, h1374, rfl⟩
                      · have hh := grd_some h1374; clear h1374; obtain ⟨g1342, h1374⟩ := hh
                        have hh := grd_some h1374; clear h1374; obtain ⟨g1343, h1374⟩ := hh
                        have hh := grd_some h1374; clear h1374; obtain ⟨g1344, h1374⟩ := hh
                        have hh := grd_some h1374; clear h1374; obtain ⟨g1345, h1374⟩ := hh
                        have hh := grd_some h1374; clear h1374; obtain ⟨g1346, h1374⟩ := hh
                        refine W_sound tab_ok mixed 49 _ _ _ ?_
                        simp -implicitDefEqProofs only [go_sem, ne_eq, not_false_eq_true, Nat.reduceBEq, Nat.reduceAdd, Nat.reduceSub, Nat.reduceMul, Nat.reduceLT, Nat.reduceLeDiff, Int.reduceLE, Int.reduceLT, Int.reduceToNat, Int.reduceBEq, Int.reduceBNe, Int.le_refl, Nat.le_refl, decide_true, decide_false, Int.cast_ofNat_Int, ↓reduceIte, h825, h1196, h1281, g1282, g1283, g1284, h1285, g1287, g1288, g1289, h1290, h1292, g1293, h1294, g1296, h1297, h1301, h1318, g1319, g1320, g1321, h1322, h1325, h1327, h1329, h1331, h1333, g1334, g1335, h1336, g1342, g1343, g1344, g1345, g1346]
                        repeat with_reducible refine And.intro (by first | kernel_rfl | decide) ?_
                        exact cutQ _ ((Wk_le (.cons _ _ _ _ _ (.refl _) (.cons _ _ _ _ _ (.refl _) (.cons _ _ _ _ _ (.refl _) (.cons _ _ _ _ _ (.refl _) (.cons _ _ _ _ _ (.refl _) (.cons _ _ _ _ _ (.dead _) (.cons _ _ _ _ _ (.dead _) (.cons _ _ _ _ _ (.dead _) (.cons _ _ _ _ _ (.refl _) (.cons _ _ _ _ _ (.refl _) (.cons _ _ _ _ _ (.refl _) (.cons _ _ _ _ _ (.refl _) (.cons _ _ _ _ _ (.dead _) .nil))))))))))))) (OLe.refl _)).trans (cmpS_ok rfl)) ⟨n, Nat.lt_succ_self n, _, _, _, h1374, rfl⟩
                  · have hh := grd_some h1374; clear h1374; obtain ⟨⟨g1347, g1348⟩, h1374⟩ := hh
                    have hh := grd_some h1374; clear h1374; obtain ⟨g1349, h1374⟩ := hh
                    have hh := brn_some h1374; clear h1374; rcases hh with ⟨h1350, h1374⟩ | ⟨h1350, h1374⟩
                    · have hh := grd_some h1374; clear h1374; obtain ⟨g1351, h1374⟩ := hh
                      have hh := grd_some h1374; clear h1374; obtain ⟨g1352, h1374⟩ := hh
                      have hh := grd_some h1374; clear h1374; obtain ⟨g1353, h1374⟩ := hh
                      have hh := grd_some h1374; clear h1374; obtain ⟨g1354, h1374⟩ := hh
                      have hh := grd_some h1374; clear h1374; obtain ⟨g1355, h1374⟩ := hh
                      refine W_sound tab_ok mixed 49 _ _ _ ?_
                      simp -implicitDefEqProofs only [go_sem, ne_eq, not_false_eq_true, Nat.reduceBEq, Nat.reduceAdd, Nat.reduceSub, Nat.reduceMul, Nat.reduceLT, Nat.reduceLeDiff, Int.reduceLE, Int.reduceLT, Int.reduceToNat, Int.reduceBEq, Int.reduceBNe, Int.le_refl, Nat.le_refl, decide_true, decide_false, Int.cast_ofNat_Int, ↓reduceIte, h825, h1196, h1281, g1282, g1283, g1284, h1285, g1287, g1288, g1289, h1290, h1292, g1293, h1294, g1296, h1297, h1301, h1318, g1347, g1348, g1349, h1350, g1351, g1352, g1353, g1354, g1355]
                      repeat with_reducible refine And.intro (by first | kernel_rfl | decide) ?_
                      exact cutQ _ ((Wk_le (.cons _ _ _ _ _ (.refl _) (.cons _ _ _ _ _ (.refl _) (.cons _ _ _ _ _ (.refl _) (.cons _ _ _ _ _ (.refl _) (.cons _ _ _ _ _ (.refl _) (.cons _ _ _ _ _ (.dead _) (.cons _ _ _ _ _ (.dead _) (.cons _ _ _ _ _ (.dead _) (.cons _ _ _ _ _ (.refl _) (.cons _ _ _ _ _ (.refl _) (.cons _ _ _ _ _ (.refl _) (.cons _ _ _ _ _ (.refl _) (.cons _ _ _ _ _ (.dead _) .nil))))))))))))) (OLe.refl _)).trans (cmpS_ok rfl)) ⟨n, Nat.lt_succ_self n, _, _, _, h1374, rfl⟩
                    · have hh := grd_some h1374; clear h1374; obtain ⟨g1356, h1374⟩ := hh
                      have hh := grd_some h1374; clear h1374; obtain ⟨g1357, h1374⟩ := hh
                      have hh := grd_some h1374; clear h1374; obtain ⟨g1358, h1374⟩ := hh
                      have hh := grd_some h1374; clear h1374; obtain ⟨g1359, h1374⟩ := hh
                      have hh := grd_some h1374; clear h1374; obtain ⟨g1360, h1374⟩ := hh
                      refine W_sound tab_ok mixed 49 _ _ _ ?_
                      simp -implicitDefEqProofs only [go_sem, ne_eq, not_false_eq_true, Nat.reduceBEq, Nat.reduceAdd, Nat.reduceSub, Nat.reduceMul, Nat.reduceLT, Nat.reduceLeDiff, Int.reduceLE, Int.reduceLT, Int.reduceToNat, Int.reduceBEq, Int.reduceBNe, Int.le_refl, Nat.le_refl, decide_true, decide_false, Int.cast_ofNat_Int, ↓reduceIte, h825, h1196, h1281, g1282, g1283, g1284, h1285, g1287, g1288, g1289, h1290, h1292, g1293, h1294, g1296, h1297, h1301, h1318, g1347, g1348, g1349, h1350, g1356, g1357, g1358, g1359, g1360]
                      repeat with_reducible refine And.intro (by first | kernel_rfl | decide) ?_
                      exact cutQ _ ((Wk_le (.cons _ _ _ _ _ (.refl _) (.cons _ _ _ _ _ (.refl _) (.cons _ _ _ _ _ (.refl _) (.cons _ _ _ _ _ (.refl _) (.cons _ _ _ _ _ (.refl _) (.cons _ _ _ _ _ (.dead _) (.cons _ _ _ _ _ (.dead _) (.cons _ _ _ _ _ (.dead _) (.cons _ _ _ _ _ (.refl _) (.cons _ _ _ _ _ (.refl _) (.cons _ _ _ _ _ (.refl _) (.cons _ _ _ _ _ (.refl _) (.cons _ _ _ _ _ (.dead _) .nil))))))))))))) (OLe.refl _)).trans (cmpS_ok rfl)) ⟨n, Nat.lt_succ_self n, _, _, _, h1374, rfl⟩
            · refine W_sound tab_ok mixed 9 _ _ _ ?_
              simp -implicitDefEqProofs only [go_sem, ne_eq, not_false_eq_true, Nat.reduceBEq, Nat.reduceAdd, Nat.reduceSub, Nat.reduceMul, Nat.reduceLT, Nat.reduceLeDiff, Int.reduceLE, Int.reduceLT, Int.reduceToNat, Int.reduceBEq, Int.reduceBNe, Int.le_refl, Nat.le_refl, decide_true, decide_false, Int.cast_ofNat_Int, ↓reduceIte, h825, h1196, h1281]
              repeat with_reducible refine And.intro (by first | kernel_rfl | decide) ?_
              obtain rfl := Option.some.inj h1370
              exact cutQ _ ((Wk_le (.cons _ _ _ _ _ (.refl _) (.cons _ _ _ _ _ (.refl _) (.cons _ _ _ _ _ (.refl _) (.cons _ _ _ _ _ (.refl _) (.cons _ _ _ _ _ (.dead _) (.cons _ _ _ _ _ (.refl _) (.cons _ _ _ _ _ (.refl _) (.cons _ _ _ _ _ (.refl _) (.cons _ _ _ _ _ (.refl _) (.cons _ _ _ _ _ (.dead _) (.cons _ _ _ _ _ (.refl _) (.cons _ _ _ _ _ (.refl _) (.cons _ _ _ _ _ (.refl _) .nil))))))))))))) (OLe.refl _)).trans (cmpS_ok rfl)) ⟨_, _, rfl, rfl⟩
        · rintro _ ⟨n1361, c1362, rfl, rfl⟩
          (try dsimp only at h1371)
          refine W_sound tab_ok mixed 6 _ _ _ ?_
          simp -implicitDefEqProofs only [go_sem, ne_eq, not_false_eq_true, Nat.reduceBEq, Nat.reduceAdd, Nat.reduceSub, Nat.reduceMul, Nat.reduceLT, Nat.reduceLeDiff, Int.reduceLE, Int.reduceLT, Int.reduceToNat, Int.reduceBEq, Int.reduceBNe, Int.le_refl, Nat.le_refl, decide_true, decide_false, Int.cast_ofNat_Int, ↓reduceIte, h825, h1196]
          repeat with_reducible refine And.intro (by first | kernel_rfl | decide) ?_
          exact cutQ _ ((Wk_le (.cons _ _ _ _ _ (.refl _) (.cons _ _ _ _ _ (.refl _) (.cons _ _ _ _ _ (.refl _) (.cons _ _ _ _ _ (.refl _) (.cons _ _ _ _ _ (.refl _) (.cons _ _ _ _ _ (.refl _) (.cons _ _ _ _ _ (.refl _) (.cons _ _ _ _ _ (.refl _) (.cons _ _ _ _ _ (.refl _) (.cons _ _ _ _ _ (.refl _) (.cons _ _ _ _ _ (.refl _) (.cons _ _ _ _ _ (.refl _) (.cons _ _ _ _ _ (.refl _) .nil))))))))))))) (OLe.refl _)).trans (cmpS_ok rfl)) ⟨n, Nat.lt_succ_self n, _, _, _, h1371, rfl⟩
      · refine W_sound tab_ok mixed 10 _ _ _ ?_
        simp -implicitDefEqProofs only [go_sem, ne_eq, not_false_eq_true, Nat.reduceBEq, Nat.reduceAdd, Nat.reduceSub, Nat.reduceMul, Nat.reduceLT, Nat.reduceLeDiff, Int.reduceLE, Int.reduceLT, Int.reduceToNat, Int.reduceBEq, Int.reduceBNe, Int.le_refl, Nat.le_refl, decide_true, decide_false, Int.cast_ofNat_Int, ↓reduceIte, h825, h1196]
        repeat with_reducible refine And.intro (by first | kernel_rfl | decide) ?_
        obtain rfl := Option.some.inj h1367
        exact cutQ _ ((Wk_le (.cons _ _ _ _ _ (.dead _) (.cons _ _ _ _ _ (.refl _) (.cons _ _ _ _ _ (.refl _) (.cons _ _ _ _ _ (.dead _) (.cons _ _ _ _ _ (.refl _) (.cons _ _ _ _ _ (.refl _) (.cons _ _ _ _ _ (.refl _) (.cons _ _ _ _ _ (.refl _) (.cons _ _ _ _ _ (.dead _) (.cons _ _ _ _ _ (.refl _) (.cons _ _ _ _ _ (.refl _) (.cons _ _ _ _ _ (.refl _) (.cons _ _ _ _ _ (.refl _) .nil))))))))))))) (OLe.refl _)).trans (cmpS_ok rfl)) ⟨_, _, rfl, rfl⟩
  · rintro _ ⟨n1363, c1364, rfl, rfl⟩
    (try dsimp only at h1368)
    refine W_sound tab_ok mixed 6 _ _ _ ?_
    simp -implicitDefEqProofs only [go_sem, ne_eq, not_false_eq_true, Nat.reduceBEq, Nat.reduceAdd, Nat.reduceSub, Nat.reduceMul, Nat.reduceLT, Nat.reduceLeDiff, Int.reduceLE, Int.reduceLT, Int.reduceToNat, Int.reduceBEq, Int.reduceBNe, Int.le_refl, Nat.le_refl, decide_true, decide_false, Int.cast_ofNat_Int, ↓reduceIte, h825]
    repeat with_reducible refine And.intro (by first | kernel_rfl | decide) ?_
    have hh := grd_some h1368; clear h1368; obtain ⟨g1365, h1368⟩ := hh
    refine FinQ_wk (Wk_freeze 0 c1364 (by rfl) (by decide) (by decide)) ?_
    simp -implicitDefEqProofs only [go_sem, ne_eq, not_false_eq_true, Nat.reduceBEq, Nat.reduceAdd, Nat.reduceSub, Nat.reduceMul, Nat.reduceLT, Nat.reduceLeDiff, Int.reduceLE, Int.reduceLT, Int.reduceToNat, Int.reduceBEq, Int.reduceBNe, Int.le_refl, Nat.le_refl, decide_true, decide_false, Int.cast_ofNat_Int, ↓reduceIte, h825, g1365]
    obtain rfl := Option.some.inj h1368
    exact finC [(2, .v (.lst false n1363 c1364))] [(2, .v (.lst false n1363 c1364))] (by simp [leE, lk_cons]) (.cons _ _ _ _ _ (.v _ _ (.refl _)) .nil) (by rfl) (by simp [leE, lk_cons]) (by decide) (by decide) rfl (by simp only [go_sem, ne_eq, not_false_eq_true, Nat.reduceBEq, Nat.reduceAdd, Nat.reduceSub, Nat.reduceMul, Nat.reduceLT, Nat.reduceLeDiff, Int.reduceLE, Int.reduceLT, Int.reduceToNat, Int.reduceBEq, Int.reduceBNe, Int.le_refl, Nat.le_refl, decide_true, decide_false, Int.cast_ofNat_Int, ↓reduceIte, resQ_tmp, resQ_cell, resQ_nil, retD_one, retD_two, retD_three, retD_none]; try simp [R.val, retD_one, retD_two, retD_three, retD_none])

/-! breeze/breezeref12.prices -/
def m71_L0 (N : Nat) (n1382 : Nat) (c1383 : List PV) : Nat → Nat → Int → List PV → Option ((Nat × List PV))
  | 0, _, _, _ => none
  | n + 1, n1431, x1432, c1433 =>
    brn (decide (x1432 < ((n1382 : Nat) : Int))) (
      brn (decide (x1432 > 0)) (
        grd (0 ≤ (IntKind.i64.wrap (x1432 - 1)) ∧ (IntKind.i64.wrap (x1432 - 1)) < ((n1382 : Nat) : Int)) <|
        grd (0 < List.length (List.drop ((Int.toNat (IntKind.i64.wrap (x1432 - 1))) * 2) c1383)) <|
        getI .i64 (gp c1383 ((Int.toNat (IntKind.i64.wrap (x1432 - 1))) * 2)) fun x1440 =>
        grd (0 ≤ x1432 ∧ x1432 < ((n1382 : Nat) : Int)) <|
        grd (0 < List.length (List.drop 1 (List.drop ((Int.toNat x1432) * 2) c1383))) <|
        getI .i64 (gp c1383 (((Int.toNat x1432) * 2) + 1)) fun x1445 =>
        grd (0 < List.length (List.drop ((Int.toNat x1432) * 2) c1383)) <|
        getI .i64 (gp c1383 ((Int.toNat x1432) * 2)) fun x1448 =>
        grd (0 < List.length (List.drop 1 (List.drop ((Int.toNat (IntKind.i64.wrap (x1432 - 1))) * 2) c1383))) <|
        getI .i64 (gp c1383 (((Int.toNat (IntKind.i64.wrap (x1432 - 1))) * 2) + 1)) fun x1451 =>
        bnd' (m60 N (IntKind.i64.wrap ((IntKind.i64.wrap (x1440 * x1445)) + (IntKind.i64.wrap (x1448 * x1451)))) (IntKind.i64.wrap ((IntKind.i64.wrap (2 * x1451)) * x1445))) fun p1452 =>
        getA2 p1452 fun p1455 p1456 =>
        grd ((n1431 + 1) ≤ 1099511627776) <|
        grd (List.length c1433 = (n1431 * 2)) <|
        grd (2 ≤ List.length (List.drop ((Int.toNat x1432) * 2) c1383)) <|
        getA2 (.agg (List.take 2 (List.drop ((Int.toNat x1432) * 2) c1383))) fun p1461 p1462 =>
        grd (((n1431 + 1) + 1) ≤ 1099511627776) <|
        grd (List.length (c1433 ++ [p1455, p1456]) = ((n1431 + 1) * 2)) <|
        m71_L0 N n1382 c1383 n ((n1431 + 1) + 1) (IntKind.i64.wrap (x1432 + 1)) ((c1433 ++ [p1455, p1456]) ++ [p1461, p1462])) (
        grd (0 ≤ x1432 ∧ x1432 < ((n1382 : Nat) : Int)) <|
        grd (2 ≤ List.length (List.drop ((Int.toNat x1432) * 2) c1383)) <|
        getA2 (.agg (List.take 2 (List.drop ((Int.toNat x1432) * 2) c1383))) fun p1469 p1470 =>
        grd ((n1431 + 1) ≤ 1099511627776) <|
        grd (List.length c1433 = (n1431 * 2)) <|
        m71_L0 N n1382 c1383 n (n1431 + 1) (IntKind.i64.wrap (x1432 + 1)) (c1433 ++ [p1469, p1470]))) (
      some (n1431, c1433))
def m71 (N : Nat) (p1375 : PV) : Option (PV) :=
  getL p1375 fun n1377 c1378 =>
  bnd' (m68 N (.lst false n1377 c1378)) fun p1379 =>
  getL p1379 fun n1382 c1383 =>
  brn (((n1382 : Nat) : Int) == 0) (
    some (.lst false 1 [(.int .i64 0), (.int .i64 1)])) (
    grd (0 < ((n1382 : Nat) : Int)) <|
    grd (0 < List.length c1383) <|
    getI .i64 (gp c1383 0) fun x1388 =>
    grd (0 < List.length (List.drop 1 c1383)) <|
    getI .i64 (gp c1383 1) fun x1391 =>
    bnd' (m60 N (IntKind.i64.wrap (x1388 - x1391)) x1391) fun p1392 =>
    getA2 p1392 fun p1395 p1396 =>
    bnd' (m71_L0 N n1382 c1383 N 1 0 [p1395, p1396]) fun o =>
    match o with
    | (n1473, c1474) =>
      grd (0 ≤ (IntKind.i64.wrap (((n1382 : Nat) : Int) - 1)) ∧ (IntKind.i64.wrap (((n1382 : Nat) : Int) - 1)) < ((n1382 : Nat) : Int)) <|
      grd (2 ≤ List.length (List.drop ((Int.toNat (IntKind.i64.wrap (((n1382 : Nat) : Int) - 1))) * 2) c1383)) <|
      getA2 (.agg (List.take 2 (List.drop ((Int.toNat (IntKind.i64.wrap (((n1382 : Nat) : Int) - 1))) * 2) c1383))) fun p1479 p1480 =>
      getI .i64 p1479 fun x1482 =>
      getI .i64 p1480 fun x1484 =>
      bnd' (m60 N (IntKind.i64.wrap (x1482 + x1484)) x1484) fun p1485 =>
      getA2 p1485 fun p1488 p1489 =>
      grd ((n1473 + 1) ≤ 1099511627776) <|
      grd (List.length c1474 = (n1473 * 2)) <|
      grd (List.length (c1474 ++ [p1488, p1489]) = ((n1473 + 1) * 2)) <|
      some (.lst false (n1473 + 1) (c1474 ++ [p1488, p1489])))
theorem c71 (N : Nat) (p1375 : PV) (r : PV)  (h : m71 N p1375 = some r) : FnP Try.prog 71 [p1375] r := by
  unfold m71 at h
  refine Fn_of (sz := 103) tab_ok [0, 2, 3, 4, 5, 6, 11, 32, 36] [.tmp 2] Try.func71 rfl rfl rfl (by simp) ?_
  simp only [initSt, initEnv, List.map_cons, List.map_nil, List.getD_cons_zero, List.getD_cons_succ, List.getD_nil]
  have hh := getL_some h; clear h; obtain ⟨n1377, c1378, h1376, h⟩ := hh
  have hh := bnd'_some h; clear h; obtain ⟨p1379, h1380, h⟩ := hh
  refine W_sound tab_ok mixed 7 _ _ _ ?_
  simp -implicitDefEqProofs only [go_sem, ne_eq, not_false_eq_true, Nat.reduceBEq, Nat.reduceAdd, Nat.reduceSub, Nat.reduceMul, Nat.reduceLT, Nat.reduceLeDiff, Int.reduceLE, Int.reduceLT, Int.reduceToNat, Int.reduceBEq, Int.reduceBNe, Int.le_refl, Nat.le_refl, decide_true, decide_false, Int.cast_ofNat_Int, ↓reduceIte, h1376]
  repeat with_reducible refine And.intro (by first | kernel_rfl | decide) ?_
  refine Wp_callP (c68 N _ _ h1380) (by kernel_rfl) rfl rfl rfl rfl (by decide) ?_
  have hh := getL_some h; clear h; obtain ⟨n1382, c1383, h1381, h⟩ := hh
  have hh := brn_some h; clear h; rcases hh with ⟨h1384, h⟩ | ⟨h1384, h⟩
  · refine W_sound tab_ok mixed 17 _ _ _ ?_
    simp -implicitDefEqProofs only [go_sem, ne_eq, not_false_eq_true, Nat.reduceBEq, Nat.reduceAdd, Nat.reduceSub, Nat.reduceMul, Nat.reduceLT, Nat.reduceLeDiff, Int.reduceLE, Int.reduceLT, Int.reduceToNat, Int.reduceBEq, Int.reduceBNe, Int.le_refl, Nat.le_refl, decide_true, decide_false, Int.cast_ofNat_Int, ↓reduceIte, h1376, h1381, h1384]
    repeat with_reducible refine And.intro (by first | kernel_rfl | decide) ?_
    refine FinQ_wk (Wk_freeze 13 [(.int .i64 0), (.int .i64 1)] (by rfl) (by decide) (by decide)) ?_
    simp -implicitDefEqProofs only [go_sem, ne_eq, not_false_eq_true, Nat.reduceBEq, Nat.reduceAdd, Nat.reduceSub, Nat.reduceMul, Nat.reduceLT, Nat.reduceLeDiff, Int.reduceLE, Int.reduceLT, Int.reduceToNat, Int.reduceBEq, Int.reduceBNe, Int.le_refl, Nat.le_refl, decide_true, decide_false, Int.cast_ofNat_Int, ↓reduceIte, h1376, h1381, h1384]
    obtain rfl := Option.some.inj h
    exact finC [(2, .v (.lst true 1 [(.int .i64 0), (.int .i64 1)]))] [(2, .v (.lst false 1 [(.int .i64 0), (.int .i64 1)]))] (by simp [leE, lk_cons]) (.cons _ _ _ _ _ (.v _ _ (.lst true false _ _ _ (fun h => by first | exact h | cases h) (PLes.refl _))) .nil) (by rfl) (by simp [leE, lk_cons]) (by decide) (by decide) rfl (by simp only [go_sem, ne_eq, not_false_eq_true, Nat.reduceBEq, Nat.reduceAdd, Nat.reduceSub, Nat.reduceMul, Nat.reduceLT, Nat.reduceLeDiff, Int.reduceLE, Int.reduceLT, Int.reduceToNat, Int.reduceBEq, Int.reduceBNe, Int.le_refl, Nat.le_refl, decide_true, decide_false, Int.cast_ofNat_Int, ↓reduceIte, resQ_tmp, resQ_cell, resQ_nil, retD_one, retD_two, retD_three, retD_none]; try simp [R.val, retD_one, retD_two, retD_three, retD_none])
  · have hh := grd_some h; clear h; obtain ⟨g1385, h⟩ := hh
    have hh := grd_some h; clear h; obtain ⟨g1386, h⟩ := hh
    have hh := getI_some h; clear h; obtain ⟨x1388, h1387, h⟩ := hh
    have hh := grd_some h; clear h; obtain ⟨g1389, h⟩ := hh
    have hh := getI_some h; clear h; obtain ⟨x1391, h1390, h⟩ := hh
    have hh := bnd'_some h; clear h; obtain ⟨p1392, h1393, h⟩ := hh
    refine W_sound tab_ok mixed 26 _ _ _ ?_
    simp -implicitDefEqProofs only [go_sem, ne_eq, not_false_eq_true, Nat.reduceBEq, Nat.reduceAdd, Nat.reduceSub, Nat.reduceMul, Nat.reduceLT, Nat.reduceLeDiff, Int.reduceLE, Int.reduceLT, Int.reduceToNat, Int.reduceBEq, Int.reduceBNe, Int.le_refl, Nat.le_refl, decide_true, decide_false, Int.cast_ofNat_Int, ↓reduceIte, h1376, h1381, h1384, g1385, g1386, h1387, g1389, h1390]
    repeat with_reducible refine And.intro (by first | kernel_rfl | decide) ?_
    refine Wp_callP (c60 N _ _ _ h1393) (by kernel_rfl) rfl rfl rfl rfl (by decide) ?_
    have hh := getA2_some h; clear h; obtain ⟨p1395, p1396, h1394, h⟩ := hh
    refine W_sound tab_ok mixed 8 _ _ _ ?_
    simp -implicitDefEqProofs only [go_sem, ne_eq, not_false_eq_true, Nat.reduceBEq, Nat.reduceAdd, Nat.reduceSub, Nat.reduceMul, Nat.reduceLT, Nat.reduceLeDiff, Int.reduceLE, Int.reduceLT, Int.reduceToNat, Int.reduceBEq, Int.reduceBNe, Int.le_refl, Nat.le_refl, decide_true, decide_false, Int.cast_ofNat_Int, ↓reduceIte, h1376, h1381, h1384, g1385, g1386, h1387, g1389, h1390, h1394]
    repeat with_reducible refine And.intro (by first | kernel_rfl | decide) ?_
    have hh := bnd'_some h; clear h; obtain ⟨o1493, h1494, h1495⟩ := hh
    refine Wp_cut (fun s => ∃ n1473, ∃ c1474, (n1473, c1474) = o1493 ∧ s = ⟨[], [(0, .dead), (2, .dead), (3, .v (.lst false n1382 c1383)), (4, .sl false 0 0 n1473 2), (5, .dead), (6, .dead), (11, .dead), (32, .dead), (36, .dead)], [(0, .p c1474)], 1, []⟩) ?_ ?_
    · refine Wp_block ?_
      refine Wp_loopG (fun n s => ∃ n1431, ∃ x1432, ∃ c1433, m71_L0 N n1382 c1383 n n1431 x1432 c1433 = some o1493 ∧ s = ⟨[], [(0, .dead), (2, .dead), (3, .v (.lst false n1382 c1383)), (4, .sl false 0 0 n1431 2), (5, .v (.int .i64 x1432)), (6, .dead), (11, .dead), (32, .dead), (36, .dead)], [(0, .p c1433)], 1, []⟩) N _ ((Wk_le (.cons _ _ _ _ _ (.dead _) (.cons _ _ _ _ _ (.dead _) (.cons _ _ _ _ _ (.refl _) (.cons _ _ _ _ _ (.sl _ _ _ _ _) (.cons _ _ _ _ _ (.refl _) (.cons _ _ _ _ _ (.refl _) (.cons _ _ _ _ _ (.dead _) (.cons _ _ _ _ _ (.refl _) (.cons _ _ _ _ _ (.refl _) .nil))))))))) (OLe.refl _)).trans (cmpS_ok rfl)) ⟨_, _, _, h1494, rfl⟩ ?_
      clear h1494
      rintro n _ ⟨n1431, x1432, c1433, h1494, rfl⟩
      cases n with
      | zero => cases h1494
      | succ n =>
        rw [m71_L0] at h1494
        have hh := brn_some h1494; clear h1494; rcases hh with ⟨h1434, h1494⟩ | ⟨h1434, h1494⟩
        · have hh := brn_some h1494; clear h1494; rcases hh with ⟨h1435, h1494⟩ | ⟨h1435, h1494⟩
          · have hh := grd_some h1494; clear h1494; obtain ⟨⟨g1436, g1437⟩, h1494⟩ := hh
            have hh := grd_some h1494; clear h1494; obtain ⟨g1438, h1494⟩ := hh
            have hh := getI_some h1494; clear h1494; obtain ⟨x1440, h1439, h1494⟩ := hh
            have hh := grd_some h1494; clear h1494; obtain ⟨⟨g1441, g1442⟩, h1494⟩ := hh
            have hh := grd_some h1494; clear h1494; obtain ⟨g1443, h1494⟩ := hh
            have hh := getI_some h1494; clear h1494; obtain ⟨x1445, h1444, h1494⟩ := hh
            have hh := grd_some h1494; clear h1494; obtain ⟨g1446, h1494⟩ := hh
            have hh := getI_some h1494; clear h1494; obtain ⟨x1448, h1447, h1494⟩ := hh
            have hh := grd_some h1494; clear h1494; obtain ⟨g1449, h1494⟩ := hh
            have hh := getI_some h1494; clear h1494; obtain ⟨x1451, h1450, h1494⟩ := hh
            have hh := bnd'_some h1494; clear h1494; obtain ⟨p1452, h1453, h1494⟩ := hh
            refine W_sound tab_ok mixed 59 _ _ _ ?_
            simp -implicitDefEqProofs only [go_sem, ne_eq, not_false_eq_true, Nat.reduceBEq, Nat.reduceAdd, Nat.reduceSub, Nat.reduceMul, Nat.reduceLT, Nat.reduceLeDiff, Int.reduceLE, Int.reduceLT, Int.reduceToNat, Int.reduceBEq, Int.reduceBNe, Int.le_refl, Nat.le_refl, decide_true, decide_false, Int.cast_ofNat_Int, ↓reduceIte, h1376, h1381, h1384, g1385, g1386, h1387, g1389, h1390, h1394, h1434, h1435, g1436, g1437, g1438, h1439, g1441, g1442, g1443, h1444, g1446, h1447, g1449, h1450]
            repeat with_reducible refine And.intro (by first | kernel_rfl | decide) ?_
            refine Wp_callP (c60 N _ _ _ h1453) (by kernel_rfl) rfl rfl rfl rfl (by decide) ?_
            have hh := getA2_some h1494; clear h1494; obtain ⟨p1455, p1456, h1454, h1494⟩ := hh
            have hh := grd_some h1494; clear h1494; obtain ⟨g1457, h1494⟩ := hh
            have hh := grd_some h1494; clear h1494; obtain ⟨g1458, h1494⟩ := hh
            have hh := grd_some h1494; clear h1494; obtain ⟨g1459, h1494⟩ := hh
            have hh := getA2_some h1494; clear h1494; obtain ⟨p1461, p1462, h1460, h1494⟩ := hh
            injection h1460 with h1460
            have hh := grd_some h1494; clear h1494; obtain ⟨g1463, h1494⟩ := hh
            have hh := grd_some h1494; clear h1494; obtain ⟨g1464, h1494⟩ := hh
            refine W_sound tab_ok mixed 20 _ _ _ ?_
            simp -implicitDefEqProofs only [go_sem, ne_eq, not_false_eq_true, Nat.reduceBEq, Nat.reduceAdd, Nat.reduceSub, Nat.reduceMul, Nat.reduceLT, Nat.reduceLeDiff, Int.reduceLE, Int.reduceLT, Int.reduceToNat, Int.reduceBEq, Int.reduceBNe, Int.le_refl, Nat.le_refl, decide_true, decide_false, Int.cast_ofNat_Int, ↓reduceIte, h1376, h1381, h1384, g1385, g1386, h1387, g1389, h1390, h1394, h1434, h1435, g1436, g1437, g1438, h1439, g1441, g1442, g1443, h1444, g1446, h1447, g1449, h1450, h1454, g1457, g1458, g1459, h1460, g1463, g1464]
            repeat with_reducible refine And.intro (by first | kernel_rfl | decide) ?_
            exact cutQ _ ((Wk_le (.cons _ _ _ _ _ (.refl _) (.cons _ _ _ _ _ (.refl _) (.cons _ _ _ _ _ (.refl _) (.cons _ _ _ _ _ (.refl _) (.cons _ _ _ _ _ (.refl _) (.cons _ _ _ _ _ (.refl _) (.cons _ _ _ _ _ (.refl _) (.cons _ _ _ _ _ (.dead _) (.cons _ _ _ _ _ (.dead _) .nil))))))))) (OLe.refl _)).trans (cmpS_ok rfl)) ⟨n, Nat.lt_succ_self n, _, _, _, h1494, rfl⟩
          · have hh := grd_some h1494; clear h1494; obtain ⟨⟨g1465, g1466⟩, h1494⟩ := hh
            have hh := grd_some h1494; clear h1494; obtain ⟨g1467, h1494⟩ := hh
            have hh := getA2_some h1494; clear h1494; obtain ⟨p1469, p1470, h1468, h1494⟩ := hh
            injection h1468 with h1468
            have hh := grd_some h1494; clear h1494; obtain ⟨g1471, h1494⟩ := hh
            have hh := grd_some h1494; clear h1494; obtain ⟨g1472, h1494⟩ := hh
            refine W_sound tab_ok mixed 36 _ _ _ ?_
            simp -implicitDefEqProofs only [go_sem, ne_eq, not_false_eq_true, Nat.reduceBEq, Nat.reduceAdd, Nat.reduceSub, Nat.reduceMul, Nat.reduceLT, Nat.reduceLeDiff, Int.reduceLE, Int.reduceLT, Int.reduceToNat, Int.reduceBEq, Int.reduceBNe, Int.le_refl, Nat.le_refl, decide_true, decide_false, Int.cast_ofNat_Int, ↓reduceIte, h1376, h1381, h1384, g1385, g1386, h1387, g1389, h1390, h1394, h1434, h1435, g1465, g1466, g1467, h1468, g1471, g1472]
            repeat with_reducible refine And.intro (by first | kernel_rfl | decide) ?_
            exact cutQ _ ((Wk_le (.cons _ _ _ _ _ (.refl _) (.cons _ _ _ _ _ (.refl _) (.cons _ _ _ _ _ (.refl _) (.cons _ _ _ _ _ (.refl _) (.cons _ _ _ _ _ (.refl _) (.cons _ _ _ _ _ (.refl _) (.cons _ _ _ _ _ (.refl _) (.cons _ _ _ _ _ (.dead _) (.cons _ _ _ _ _ (.dead _) .nil))))))))) (OLe.refl _)).trans (cmpS_ok rfl)) ⟨n, Nat.lt_succ_self n, _, _, _, h1494, rfl⟩
        · refine W_sound tab_ok mixed 10 _ _ _ ?_
          simp -implicitDefEqProofs only [go_sem, ne_eq, not_false_eq_true, Nat.reduceBEq, Nat.reduceAdd, Nat.reduceSub, Nat.reduceMul, Nat.reduceLT, Nat.reduceLeDiff, Int.reduceLE, Int.reduceLT, Int.reduceToNat, Int.reduceBEq, Int.reduceBNe, Int.le_refl, Nat.le_refl, decide_true, decide_false, Int.cast_ofNat_Int, ↓reduceIte, h1376, h1381, h1384, g1385, g1386, h1387, g1389, h1390, h1394, h1434]
          repeat with_reducible refine And.intro (by first | kernel_rfl | decide) ?_
          obtain rfl := Option.some.inj h1494
          exact cutQ _ ((Wk_le (.cons _ _ _ _ _ (.refl _) (.cons _ _ _ _ _ (.refl _) (.cons _ _ _ _ _ (.refl _) (.cons _ _ _ _ _ (.refl _) (.cons _ _ _ _ _ (.dead _) (.cons _ _ _ _ _ (.refl _) (.cons _ _ _ _ _ (.refl _) (.cons _ _ _ _ _ (.dead _) (.cons _ _ _ _ _ (.refl _) .nil))))))))) (OLe.refl _)).trans (cmpS_ok rfl)) ⟨_, _, rfl, rfl⟩
    · rintro _ ⟨n1473, c1474, rfl, rfl⟩
      (try dsimp only at h1495)
      have hh := grd_some h1495; clear h1495; obtain ⟨⟨g1475, g1476⟩, h1495⟩ := hh
      have hh := grd_some h1495; clear h1495; obtain ⟨g1477, h1495⟩ := hh
      have hh := getA2_some h1495; clear h1495; obtain ⟨p1479, p1480, h1478, h1495⟩ := hh
      injection h1478 with h1478
      have hh := getI_some h1495; clear h1495; obtain ⟨x1482, h1481, h1495⟩ := hh
      have hh := getI_some h1495; clear h1495; obtain ⟨x1484, h1483, h1495⟩ := hh
      have hh := bnd'_some h1495; clear h1495; obtain ⟨p1485, h1486, h1495⟩ := hh
      refine W_sound tab_ok mixed 21 _ _ _ ?_
      simp -implicitDefEqProofs only [go_sem, ne_eq, not_false_eq_true, Nat.reduceBEq, Nat.reduceAdd, Nat.reduceSub, Nat.reduceMul, Nat.reduceLT, Nat.reduceLeDiff, Int.reduceLE, Int.reduceLT, Int.reduceToNat, Int.reduceBEq, Int.reduceBNe, Int.le_refl, Nat.le_refl, decide_true, decide_false, Int.cast_ofNat_Int, ↓reduceIte, h1376, h1381, h1384, g1385, g1386, h1387, g1389, h1390, h1394, g1475, g1476, g1477, h1478, h1481, h1483]
      repeat with_reducible refine And.intro (by first | kernel_rfl | decide) ?_
      refine Wp_callP (c60 N _ _ _ h1486) (by kernel_rfl) rfl rfl rfl rfl (by decide) ?_
      have hh := getA2_some h1495; clear h1495; obtain ⟨p1488, p1489, h1487, h1495⟩ := hh
      have hh := grd_some h1495; clear h1495; obtain ⟨g1490, h1495⟩ := hh
      have hh := grd_some h1495; clear h1495; obtain ⟨g1491, h1495⟩ := hh
      refine W_sound tab_ok mixed 5 _ _ _ ?_
      simp -implicitDefEqProofs only [go_sem, ne_eq, not_false_eq_true, Nat.reduceBEq, Nat.reduceAdd, Nat.reduceSub, Nat.reduceMul, Nat.reduceLT, Nat.reduceLeDiff, Int.reduceLE, Int.reduceLT, Int.reduceToNat, Int.reduceBEq, Int.reduceBNe, Int.le_refl, Nat.le_refl, decide_true, decide_false, Int.cast_ofNat_Int, ↓reduceIte, h1376, h1381, h1384, g1385, g1386, h1387, g1389, h1390, h1394, g1475, g1476, g1477, h1478, h1481, h1483, h1487, g1490, g1491]
      repeat with_reducible refine And.intro (by first | kernel_rfl | decide) ?_
      have hh := grd_some h1495; clear h1495; obtain ⟨g1492, h1495⟩ := hh
      refine FinQ_wk (Wk_freeze 110 (c1474 ++ [p1488, p1489]) (by rfl) (by decide) (by decide)) ?_
      simp -implicitDefEqProofs only [go_sem, ne_eq, not_false_eq_true, Nat.reduceBEq, Nat.reduceAdd, Nat.reduceSub, Nat.reduceMul, Nat.reduceLT, Nat.reduceLeDiff, Int.reduceLE, Int.reduceLT, Int.reduceToNat, Int.reduceBEq, Int.reduceBNe, Int.le_refl, Nat.le_refl, decide_true, decide_false, Int.cast_ofNat_Int, ↓reduceIte, h1376, h1381, h1384, g1385, g1386, h1387, g1389, h1390, h1394, g1475, g1476, g1477, h1478, h1481, h1483, h1487, g1490, g1491, g1492]
      obtain rfl := Option.some.inj h1495
      exact finC [(2, .v (.lst false (n1473 + 1) (c1474 ++ [p1488, p1489])))] [(2, .v (.lst false (n1473 + 1) (c1474 ++ [p1488, p1489])))] (by simp [leE, lk_cons]) (.cons _ _ _ _ _ (.v _ _ (.refl _)) .nil) (by rfl) (by simp [leE, lk_cons]) (by decide) (by decide) rfl (by simp only [go_sem, ne_eq, not_false_eq_true, Nat.reduceBEq, Nat.reduceAdd, Nat.reduceSub, Nat.reduceMul, Nat.reduceLT, Nat.reduceLeDiff, Int.reduceLE, Int.reduceLT, Int.reduceToNat, Int.reduceBEq, Int.reduceBNe, Int.le_refl, Nat.le_refl, decide_true, decide_false, Int.cast_ofNat_Int, ↓reduceIte, resQ_tmp, resQ_cell, resQ_nil, retD_one, retD_two, retD_three, retD_none]; try simp [R.val, retD_one, retD_two, retD_three, retD_none])

/-! breeze/breezeref12.covers -/
def m70_L0 (N : Nat) (x1497 : Int) (x1498 : Int) (x1499 : Int) (n1501 : Nat) (c1502 : List PV) (p1507 : PV) (p1508 : PV) (p1513 : PV) (p1514 : PV) (p1519 : PV) (p1520 : PV) (n1524 : Nat) (c1525 : List PV) : Nat → Int → Option ((PV ⊕ Unit))
  | 0, _ => none
  | n + 1, x1526 =>
    brn (decide (x1526 < ((n1524 : Nat) : Int))) (
      grd (0 ≤ x1526 ∧ x1526 < ((n1524 : Nat) : Int)) <|
      grd (2 ≤ List.length (List.drop ((Int.toNat x1526) * 2) c1525)) <|
      getA2 (.agg (List.take 2 (List.drop ((Int.toNat x1526) * 2) c1525))) fun p1532 p1533 =>
      bnd' (m62 N (.agg [p1513, p1514]) (.agg [p1532, p1533])) fun p1534 =>
      getI .i64 p1534 fun x1537 =>
      bnd' (m62 N (.agg [p1519, p1520]) (.agg [p1532, p1533])) fun p1538 =>
      getI .i64 p1538 fun x1541 =>
      bnd' (m62 N (.agg [p1507, p1508]) (.agg [p1532, p1533])) fun p1542 =>
      getI .i64 p1542 fun x1545 =>
      brn (decide ((maxI x1537 x1541) < x1545)) (
        some (.inl (.bool false))) (
        m70_L0 N x1497 x1498 x1499 n1501 c1502 p1507 p1508 p1513 p1514 p1519 p1520 n1524 c1525 n (IntKind.i64.wrap (x1526 + 1)))) (
      some (.inr ()))
def m70 (N : Nat) (p1496 : PV) (x1497 : Int) (x1498 : Int) (x1499 : Int) : Option (PV) :=
  getL p1496 fun n1501 c1502 =>
  grd (0 ≤ x1497 ∧ x1497 < ((n1501 : Nat) : Int)) <|
  grd (2 ≤ List.length (List.drop ((Int.toNat x1497) * 2) c1502)) <|
  getA2 (.agg (List.take 2 (List.drop ((Int.toNat x1497) * 2) c1502))) fun p1507 p1508 =>
  grd (0 ≤ x1498 ∧ x1498 < ((n1501 : Nat) : Int)) <|
  grd (2 ≤ List.length (List.drop ((Int.toNat x1498) * 2) c1502)) <|
  getA2 (.agg (List.take 2 (List.drop ((Int.toNat x1498) * 2) c1502))) fun p1513 p1514 =>
  grd (0 ≤ x1499 ∧ x1499 < ((n1501 : Nat) : Int)) <|
  grd (2 ≤ List.length (List.drop ((Int.toNat x1499) * 2) c1502)) <|
  getA2 (.agg (List.take 2 (List.drop ((Int.toNat x1499) * 2) c1502))) fun p1519 p1520 =>
  bnd' (m71 N (.lst false 3 [p1507, p1508, p1513, p1514, p1519, p1520])) fun p1521 =>
  getL p1521 fun n1524 c1525 =>
  bnd' (m70_L0 N x1497 x1498 x1499 n1501 c1502 p1507 p1508 p1513 p1514 p1519 p1520 n1524 c1525 N 0) fun o =>
  match o with
  | .inl p1547 =>
    some p1547
  | .inr () =>
    some (.bool true)
theorem c70 (N : Nat) (p1496 : PV) (x1497 : Int) (x1498 : Int) (x1499 : Int) (r : PV)  (h : m70 N p1496 x1497 x1498 x1499 = some r) : FnP Try.prog 70 [p1496, (.int .i64 x1497), (.int .i64 x1498), (.int .i64 x1499)] r := by
  unfold m70 at h
  refine Fn_of (sz := 60) tab_ok [0, 1, 2, 3, 8, 9, 10, 28, 59] [.tmp 8] Try.func70 rfl rfl rfl (by simp) ?_
  simp only [initSt, initEnv, List.map_cons, List.map_nil, List.getD_cons_zero, List.getD_cons_succ, List.getD_nil]
  have hh := getL_some h; clear h; obtain ⟨n1501, c1502, h1500, h⟩ := hh
  have hh := grd_some h; clear h; obtain ⟨⟨g1503, g1504⟩, h⟩ := hh
  have hh := grd_some h; clear h; obtain ⟨g1505, h⟩ := hh
  have hh := getA2_some h; clear h; obtain ⟨p1507, p1508, h1506, h⟩ := hh
  injection h1506 with h1506
  have hh := grd_some h; clear h; obtain ⟨⟨g1509, g1510⟩, h⟩ := hh
  have hh := grd_some h; clear h; obtain ⟨g1511, h⟩ := hh
  have hh := getA2_some h; clear h; obtain ⟨p1513, p1514, h1512, h⟩ := hh
  injection h1512 with h1512
  have hh := grd_some h; clear h; obtain ⟨⟨g1515, g1516⟩, h⟩ := hh
  have hh := grd_some h; clear h; obtain ⟨g1517, h⟩ := hh
  have hh := getA2_some h; clear h; obtain ⟨p1519, p1520, h1518, h⟩ := hh
  injection h1518 with h1518
  have hh := bnd'_some h; clear h; obtain ⟨p1521, h1522, h⟩ := hh
  refine W_sound tab_ok mixed 19 _ _ _ ?_
  simp -implicitDefEqProofs only [go_sem, ne_eq, not_false_eq_true, Nat.reduceBEq, Nat.reduceAdd, Nat.reduceSub, Nat.reduceMul, Nat.reduceLT, Nat.reduceLeDiff, Int.reduceLE, Int.reduceLT, Int.reduceToNat, Int.reduceBEq, Int.reduceBNe, Int.le_refl, Nat.le_refl, decide_true, decide_false, Int.cast_ofNat_Int, ↓reduceIte, h1500, g1503, g1504, g1505, h1506, g1509, g1510, g1511, h1512, g1515, g1516, g1517, h1518]
  repeat with_reducible refine And.intro (by first | kernel_rfl | decide) ?_
  refine Wp_callF [(23, [p1507, p1508, p1513, p1514, p1519, p1520])] (FnP_le (c71 N _ _ h1522) (.cons _ _ _ _ (.lst true false _ _ _ (fun h => by first | exact h | cases h) (PLes.refl _)) .nil) (.refl _)) (by kernel_rfl) rfl rfl rfl (by simp only [go_sem, ne_eq, not_false_eq_true, Nat.reduceBEq, Nat.reduceAdd, Nat.reduceSub, Nat.reduceMul, Nat.reduceLT, Nat.reduceLeDiff, Int.reduceLE, Int.reduceLT, Int.reduceToNat, Int.reduceBEq, Int.reduceBNe, Int.le_refl, Nat.le_refl, decide_true, decide_false, Int.cast_ofNat_Int, ↓reduceIte, h1500, g1503, g1504, g1505, h1506, g1509, g1510, g1511, h1512, g1515, g1516, g1517, h1518] <;> rfl) (by decide) rfl (by simp [roF, obL]) rfl ?_
  have hh := getL_some h; clear h; obtain ⟨n1524, c1525, h1523, h⟩ := hh
  refine W_sound tab_ok mixed 7 _ _ _ ?_
  simp -implicitDefEqProofs only [go_sem, ne_eq, not_false_eq_true, Nat.reduceBEq, Nat.reduceAdd, Nat.reduceSub, Nat.reduceMul, Nat.reduceLT, Nat.reduceLeDiff, Int.reduceLE, Int.reduceLT, Int.reduceToNat, Int.reduceBEq, Int.reduceBNe, Int.le_refl, Nat.le_refl, decide_true, decide_false, Int.cast_ofNat_Int, ↓reduceIte, h1500, g1503, g1504, g1505, h1506, g1509, g1510, g1511, h1512, g1515, g1516, g1517, h1518, h1523]
  repeat with_reducible refine And.intro (by first | kernel_rfl | decide) ?_
  have hh := bnd'_some h; clear h; obtain ⟨o1548, h1549, h1550⟩ := hh
  refine Wp_cut (fun s => (.inr ()) = o1548 ∧ s = ⟨[], [(0, .dead), (1, .dead), (2, .dead), (3, .dead), (8, .dead), (9, .dead), (10, .dead), (28, .dead), (59, .dead)], [], 0, []⟩) ?_ ?_
  · refine Wp_block ?_
    refine Wp_loopG (fun n s => ∃ x1526, m70_L0 N x1497 x1498 x1499 n1501 c1502 p1507 p1508 p1513 p1514 p1519 p1520 n1524 c1525 n x1526 = some o1548 ∧ s = ⟨[], [(0, .v (.lst false n1501 c1502)), (1, .v (.int .i64 x1497)), (2, .v (.int .i64 x1498)), (3, .v (.int .i64 x1499)), (8, .dead), (9, .v (.lst false n1524 c1525)), (10, .v (.int .i64 x1526)), (28, .dead), (59, .dead)], [], 0, []⟩) N _ ((Wk_le (.cons _ _ _ _ _ (.refl _) (.cons _ _ _ _ _ (.refl _) (.cons _ _ _ _ _ (.refl _) (.cons _ _ _ _ _ (.refl _) (.cons _ _ _ _ _ (.dead _) (.cons _ _ _ _ _ (.refl _) (.cons _ _ _ _ _ (.refl _) (.cons _ _ _ _ _ (.refl _) (.cons _ _ _ _ _ (.refl _) .nil))))))))) (OLe.refl _)).trans (cmpS_ok rfl)) ⟨_, h1549, rfl⟩ ?_
    clear h1549
    rintro n _ ⟨x1526, h1549, rfl⟩
    cases n with
    | zero => cases h1549
    | succ n =>
      rw [m70_L0] at h1549
      have hh := brn_some h1549; clear h1549; rcases hh with ⟨h1527, h1549⟩ | ⟨h1527, h1549⟩
      · have hh := grd_some h1549; clear h1549; obtain ⟨⟨g1528, g1529⟩, h1549⟩ := hh
        have hh := grd_some h1549; clear h1549; obtain ⟨g1530, h1549⟩ := hh
        have hh := getA2_some h1549; clear h1549; obtain ⟨p1532, p1533, h1531, h1549⟩ := hh
        injection h1531 with h1531
        have hh := bnd'_some h1549; clear h1549; obtain ⟨p1534, h1535, h1549⟩ := hh
        refine W_sound tab_ok mixed 22 _ _ _ ?_
        simp -implicitDefEqProofs only [go_sem, ne_eq, not_false_eq_true, Nat.reduceBEq, Nat.reduceAdd, Nat.reduceSub, Nat.reduceMul, Nat.reduceLT, Nat.reduceLeDiff, Int.reduceLE, Int.reduceLT, Int.reduceToNat, Int.reduceBEq, Int.reduceBNe, Int.le_refl, Nat.le_refl, decide_true, decide_false, Int.cast_ofNat_Int, ↓reduceIte, h1500, g1503, g1504, g1505, h1506, g1509, g1510, g1511, h1512, g1515, g1516, g1517, h1518, h1523, h1527, g1528, g1529, g1530, h1531]
        repeat with_reducible refine And.intro (by first | kernel_rfl | decide) ?_
        refine Wp_callP (c62 N _ _ _ h1535) (by kernel_rfl) rfl rfl rfl rfl (by decide) ?_
        have hh := getI_some h1549; clear h1549; obtain ⟨x1537, h1536, h1549⟩ := hh
        have hh := bnd'_some h1549; clear h1549; obtain ⟨p1538, h1539, h1549⟩ := hh
        refine W_sound tab_ok mixed 8 _ _ _ ?_
        simp -implicitDefEqProofs only [go_sem, ne_eq, not_false_eq_true, Nat.reduceBEq, Nat.reduceAdd, Nat.reduceSub, Nat.reduceMul, Nat.reduceLT, Nat.reduceLeDiff, Int.reduceLE, Int.reduceLT, Int.reduceToNat, Int.reduceBEq, Int.reduceBNe, Int.le_refl, Nat.le_refl, decide_true, decide_false, Int.cast_ofNat_Int, ↓reduceIte, h1500, g1503, g1504, g1505, h1506, g1509, g1510, g1511, h1512, g1515, g1516, g1517, h1518, h1523, h1527, g1528, g1529, g1530, h1531, h1536]
        repeat with_reducible refine And.intro (by first | kernel_rfl | decide) ?_
        refine Wp_callP (c62 N _ _ _ h1539) (by kernel_rfl) rfl rfl rfl rfl (by decide) ?_
        have hh := getI_some h1549; clear h1549; obtain ⟨x1541, h1540, h1549⟩ := hh
        have hh := bnd'_some h1549; clear h1549; obtain ⟨p1542, h1543, h1549⟩ := hh
        refine W_sound tab_ok mixed 9 _ _ _ ?_
        simp -implicitDefEqProofs only [go_sem, ne_eq, not_false_eq_true, Nat.reduceBEq, Nat.reduceAdd, Nat.reduceSub, Nat.reduceMul, Nat.reduceLT, Nat.reduceLeDiff, Int.reduceLE, Int.reduceLT, Int.reduceToNat, Int.reduceBEq, Int.reduceBNe, Int.le_refl, Nat.le_refl, decide_true, decide_false, Int.cast_ofNat_Int, ↓reduceIte, h1500, g1503, g1504, g1505, h1506, g1509, g1510, g1511, h1512, g1515, g1516, g1517, h1518, h1523, h1527, g1528, g1529, g1530, h1531, h1536, h1540]
        repeat with_reducible refine And.intro (by first | kernel_rfl | decide) ?_
        refine Wp_callP (c62 N _ _ _ h1543) (by kernel_rfl) rfl rfl rfl rfl (by decide) ?_
        have hh := getI_some h1549; clear h1549; obtain ⟨x1545, h1544, h1549⟩ := hh
        have hh := brn_some h1549; clear h1549; rcases hh with ⟨h1546, h1549⟩ | ⟨h1546, h1549⟩
        · refine W_sound tab_ok mixed 8 _ _ _ ?_
          simp -implicitDefEqProofs only [go_sem, ne_eq, not_false_eq_true, Nat.reduceBEq, Nat.reduceAdd, Nat.reduceSub, Nat.reduceMul, Nat.reduceLT, Nat.reduceLeDiff, Int.reduceLE, Int.reduceLT, Int.reduceToNat, Int.reduceBEq, Int.reduceBNe, Int.le_refl, Nat.le_refl, decide_true, decide_false, Int.cast_ofNat_Int, ↓reduceIte, h1500, g1503, g1504, g1505, h1506, g1509, g1510, g1511, h1512, g1515, g1516, g1517, h1518, h1523, h1527, g1528, g1529, g1530, h1531, h1536, h1540, h1544, h1546]
          repeat with_reducible refine And.intro (by first | kernel_rfl | decide) ?_
          obtain rfl := Option.some.inj h1549
          (try dsimp only at h1550)
          obtain rfl := Option.some.inj h1550
          exact finC [(8, .v (.bool false))] [(8, .v (.bool false))] (by simp [leE, lk_cons]) (.cons _ _ _ _ _ (.v _ _ (.refl _)) .nil) (by rfl) (by simp [leE, lk_cons]) (by decide) (by decide) rfl (by simp only [go_sem, ne_eq, not_false_eq_true, Nat.reduceBEq, Nat.reduceAdd, Nat.reduceSub, Nat.reduceMul, Nat.reduceLT, Nat.reduceLeDiff, Int.reduceLE, Int.reduceLT, Int.reduceToNat, Int.reduceBEq, Int.reduceBNe, Int.le_refl, Nat.le_refl, decide_true, decide_false, Int.cast_ofNat_Int, ↓reduceIte, resQ_tmp, resQ_cell, resQ_nil, retD_one, retD_two, retD_three, retD_none]; try simp [R.val, retD_one, retD_two, retD_three, retD_none])
        · refine W_sound tab_ok mixed 10 _ _ _ ?_
          simp -implicitDefEqProofs only [go_sem, ne_eq, not_false_eq_true, Nat.reduceBEq, Nat.reduceAdd, Nat.reduceSub, Nat.reduceMul, Nat.reduceLT, Nat.reduceLeDiff, Int.reduceLE, Int.reduceLT, Int.reduceToNat, Int.reduceBEq, Int.reduceBNe, Int.le_refl, Nat.le_refl, decide_true, decide_false, Int.cast_ofNat_Int, ↓reduceIte, h1500, g1503, g1504, g1505, h1506, g1509, g1510, g1511, h1512, g1515, g1516, g1517, h1518, h1523, h1527, g1528, g1529, g1530, h1531, h1536, h1540, h1544, h1546]
          repeat with_reducible refine And.intro (by first | kernel_rfl | decide) ?_
          exact cutQ _ ((Wk_le (.cons _ _ _ _ _ (.refl _) (.cons _ _ _ _ _ (.refl _) (.cons _ _ _ _ _ (.refl _) (.cons _ _ _ _ _ (.refl _) (.cons _ _ _ _ _ (.refl _) (.cons _ _ _ _ _ (.refl _) (.cons _ _ _ _ _ (.refl _) (.cons _ _ _ _ _ (.dead _) (.cons _ _ _ _ _ (.dead _) .nil))))))))) (OLe.refl _)).trans (cmpS_ok rfl)) ⟨n, Nat.lt_succ_self n, _, h1549, rfl⟩
      · refine W_sound tab_ok mixed 10 _ _ _ ?_
        simp -implicitDefEqProofs only [go_sem, ne_eq, not_false_eq_true, Nat.reduceBEq, Nat.reduceAdd, Nat.reduceSub, Nat.reduceMul, Nat.reduceLT, Nat.reduceLeDiff, Int.reduceLE, Int.reduceLT, Int.reduceToNat, Int.reduceBEq, Int.reduceBNe, Int.le_refl, Nat.le_refl, decide_true, decide_false, Int.cast_ofNat_Int, ↓reduceIte, h1500, g1503, g1504, g1505, h1506, g1509, g1510, g1511, h1512, g1515, g1516, g1517, h1518, h1523, h1527]
        repeat with_reducible refine And.intro (by first | kernel_rfl | decide) ?_
        obtain rfl := Option.some.inj h1549
        exact cutQ _ ((Wk_le (.cons _ _ _ _ _ (.dead _) (.cons _ _ _ _ _ (.dead _) (.cons _ _ _ _ _ (.dead _) (.cons _ _ _ _ _ (.dead _) (.cons _ _ _ _ _ (.refl _) (.cons _ _ _ _ _ (.dead _) (.cons _ _ _ _ _ (.dead _) (.cons _ _ _ _ _ (.dead _) (.cons _ _ _ _ _ (.refl _) .nil))))))))) (OLe.refl _)).trans (cmpS_ok rfl)) ⟨rfl, rfl⟩
  · rintro _ ⟨rfl, rfl⟩
    (try dsimp only at h1550)
    refine W_sound tab_ok mixed 5 _ _ _ ?_
    simp -implicitDefEqProofs only [go_sem, ne_eq, not_false_eq_true, Nat.reduceBEq, Nat.reduceAdd, Nat.reduceSub, Nat.reduceMul, Nat.reduceLT, Nat.reduceLeDiff, Int.reduceLE, Int.reduceLT, Int.reduceToNat, Int.reduceBEq, Int.reduceBNe, Int.le_refl, Nat.le_refl, decide_true, decide_false, Int.cast_ofNat_Int, ↓reduceIte, h1500, g1503, g1504, g1505, h1506, g1509, g1510, g1511, h1512, g1515, g1516, g1517, h1518, h1523]
    repeat with_reducible refine And.intro (by first | kernel_rfl | decide) ?_
    obtain rfl := Option.some.inj h1550
    exact finC [(8, .v (.bool true))] [(8, .v (.bool true))] (by simp [leE, lk_cons]) (.cons _ _ _ _ _ (.v _ _ (.refl _)) .nil) (by rfl) (by simp [leE, lk_cons]) (by decide) (by decide) rfl (by simp only [go_sem, ne_eq, not_false_eq_true, Nat.reduceBEq, Nat.reduceAdd, Nat.reduceSub, Nat.reduceMul, Nat.reduceLT, Nat.reduceLeDiff, Int.reduceLE, Int.reduceLT, Int.reduceToNat, Int.reduceBEq, Int.reduceBNe, Int.le_refl, Nat.le_refl, decide_true, decide_false, Int.cast_ofNat_Int, ↓reduceIte, resQ_tmp, resQ_cell, resQ_nil, retD_one, retD_two, retD_three, retD_none]; try simp [R.val, retD_one, retD_two, retD_three, retD_none])

/-! breeze/breezeref12.Why -/
def m29_L1 (N : Nat) (x1552 : Int) (n1554 : Nat) (c1555 : List PV) (x1567 : Int) : Nat → Int → Option ((PV ⊕ Unit))
  | 0, _ => none
  | n + 1, x1569 =>
    brn (decide (x1569 < ((n1554 : Nat) : Int))) (
      brn (x1567 != x1552) (
        brn (x1569 != x1552) (
          bnd' (m70 N (.lst false n1554 c1555) x1552 x1567 x1569) fun p1573 =>
          getB p1573 fun b1576 =>
          brn b1576 (
            some (.inl (.tup [(.int .i64 x1567), (.int .i64 x1569), (.int .i64 0)]))) (
            m29_L1 N x1552 n1554 c1555 x1567 n (IntKind.i64.wrap (x1569 + 1)))) (
          m29_L1 N x1552 n1554 c1555 x1567 n (IntKind.i64.wrap (x1569 + 1)))) (
        m29_L1 N x1552 n1554 c1555 x1567 n (IntKind.i64.wrap (x1569 + 1)))) (
      some (.inr ()))
def m29_L0 (N : Nat) (x1552 : Int) (n1554 : Nat) (c1555 : List PV) : Nat → Int → Option ((PV ⊕ Unit))
  | 0, _ => none
  | n + 1, x1567 =>
    brn (decide (x1567 < ((n1554 : Nat) : Int))) (
      bnd' (m29_L1 N x1552 n1554 c1555 x1567 N x1567) fun o =>
      match o with
      | .inl p1578 =>
        some (.inl p1578)
      | .inr () =>
        m29_L0 N x1552 n1554 c1555 n (IntKind.i64.wrap (x1567 + 1))) (
      some (.inr ()))
def m29_L3 (N : Nat) (x1552 : Int) (n1554 : Nat) (c1555 : List PV) (x1581 : Int) : Nat → Int → Option ((PV ⊕ Unit))
  | 0, _ => none
  | n + 1, x1583 =>
    brn (decide (x1583 < ((n1554 : Nat) : Int))) (
      brn (x1581 != x1552) (
        brn (x1583 != x1552) (
          bnd' (m70 N (.lst false n1554 c1555) x1552 x1581 x1583) fun p1587 =>
          getB p1587 fun b1590 =>
          brn b1590 (
            some (.inl (.tup [(.int .i64 x1581), (.int .i64 x1583), (.int .i64 0)]))) (
            m29_L3 N x1552 n1554 c1555 x1581 n (IntKind.i64.wrap (x1583 + 1)))) (
          m29_L3 N x1552 n1554 c1555 x1581 n (IntKind.i64.wrap (x1583 + 1)))) (
        m29_L3 N x1552 n1554 c1555 x1581 n (IntKind.i64.wrap (x1583 + 1)))) (
      some (.inr ()))
def m29_L2 (N : Nat) (x1552 : Int) (n1554 : Nat) (c1555 : List PV) : Nat → Int → Option ((PV ⊕ Unit))
  | 0, _ => none
  | n + 1, x1581 =>
    brn (decide (x1581 < ((n1554 : Nat) : Int))) (
      bnd' (m29_L3 N x1552 n1554 c1555 x1581 N x1581) fun o =>
      match o with
      | .inl p1592 =>
        some (.inl p1592)
      | .inr () =>
        m29_L2 N x1552 n1554 c1555 n (IntKind.i64.wrap (x1581 + 1))) (
      some (.inr ()))
def m29 (N : Nat) (p1551 : PV) (x1552 : Int) : Option (PV) :=
  getL p1551 fun n1554 c1555 =>
  bnd' (m23 N (.lst false n1554 c1555)) fun p1556 =>
  getI .i64 p1556 fun x1559 =>
  brn (x1559 == 0) (
    bnd' (m64 N x1552 0 (IntKind.i64.wrap (((n1554 : Nat) : Int) - 1))) fun p1561 =>
    getB p1561 fun b1564 =>
    brn b1564 (
      brn (x1559 != 0) (
        some (.tup [(.int .i64 0), (.int .i64 0), (.int .i64 x1559)])) (
        bnd' (m29_L0 N x1552 n1554 c1555 N 0) fun o =>
        match o with
        | .inl p1579 =>
          some p1579
        | .inr () =>
          some (.tup [(.int .i64 0), (.int .i64 0), (.int .i64 13)]))) (
      some (.tup [(.int .i64 0), (.int .i64 0), (.int .i64 2)]))) (
    brn (x1559 != 0) (
      some (.tup [(.int .i64 0), (.int .i64 0), (.int .i64 x1559)])) (
      bnd' (m29_L2 N x1552 n1554 c1555 N 0) fun o =>
      match o with
      | .inl p1593 =>
        some p1593
      | .inr () =>
        some (.tup [(.int .i64 0), (.int .i64 0), (.int .i64 13)])))
theorem c29 (N : Nat) (p1551 : PV) (x1552 : Int) (r : PV)  (h : m29 N p1551 x1552 = some r) : FnP Try.prog 29 [p1551, (.int .i64 x1552)] r := by
  unfold m29 at h
  refine Fn_of (sz := 55) tab_ok [0, 1, 4, 5, 6, 7, 8, 9, 21, 23, 28, 35, 52] [.tmp 4, .tmp 5, .tmp 6] Try.func29 rfl rfl rfl (by simp) ?_
  simp only [initSt, initEnv, List.map_cons, List.map_nil, List.getD_cons_zero, List.getD_cons_succ, List.getD_nil]
  have hh := getL_some h; clear h; obtain ⟨n1554, c1555, h1553, h⟩ := hh
  have hh := bnd'_some h; clear h; obtain ⟨p1556, h1557, h⟩ := hh
  refine W_sound tab_ok mixed 9 _ _ _ ?_
  simp -implicitDefEqProofs only [go_sem, ne_eq, not_false_eq_true, Nat.reduceBEq, Nat.reduceAdd, Nat.reduceSub, Nat.reduceMul, Nat.reduceLT, Nat.reduceLeDiff, Int.reduceLE, Int.reduceLT, Int.reduceToNat, Int.reduceBEq, Int.reduceBNe, Int.le_refl, Nat.le_refl, decide_true, decide_false, Int.cast_ofNat_Int, ↓reduceIte, h1553]
  repeat with_reducible refine And.intro (by first | kernel_rfl | decide) ?_
  refine Wp_callP (c23 N _ _ h1557) (by kernel_rfl) rfl rfl rfl rfl (by decide) ?_
  have hh := getI_some h; clear h; obtain ⟨x1559, h1558, h⟩ := hh
  have hh := brn_some h; clear h; rcases hh with ⟨h1560, h⟩ | ⟨h1560, h⟩
  · have hh := bnd'_some h; clear h; obtain ⟨p1561, h1562, h⟩ := hh
    refine W_sound tab_ok mixed 12 _ _ _ ?_
    simp -implicitDefEqProofs only [go_sem, ne_eq, not_false_eq_true, Nat.reduceBEq, Nat.reduceAdd, Nat.reduceSub, Nat.reduceMul, Nat.reduceLT, Nat.reduceLeDiff, Int.reduceLE, Int.reduceLT, Int.reduceToNat, Int.reduceBEq, Int.reduceBNe, Int.le_refl, Nat.le_refl, decide_true, decide_false, Int.cast_ofNat_Int, ↓reduceIte, h1553, h1558, h1560]
    repeat with_reducible refine And.intro (by first | kernel_rfl | decide) ?_
    refine Wp_callP (c64 N _ _ _ _ h1562) (by kernel_rfl) rfl rfl rfl rfl (by decide) ?_
    have hh := getB_some h; clear h; obtain ⟨b1564, h1563, h⟩ := hh
    have hh := brn_some h; clear h; rcases hh with ⟨h1565, h⟩ | ⟨h1565, h⟩
    · have hh := brn_some h; clear h; rcases hh with ⟨h1566, h⟩ | ⟨h1566, h⟩
      · refine W_sound tab_ok mixed 20 _ _ _ ?_
        simp -implicitDefEqProofs only [go_sem, ne_eq, not_false_eq_true, Nat.reduceBEq, Nat.reduceAdd, Nat.reduceSub, Nat.reduceMul, Nat.reduceLT, Nat.reduceLeDiff, Int.reduceLE, Int.reduceLT, Int.reduceToNat, Int.reduceBEq, Int.reduceBNe, Int.le_refl, Nat.le_refl, decide_true, decide_false, Int.cast_ofNat_Int, ↓reduceIte, h1553, h1558, h1560, h1563, h1565, h1566]
        repeat with_reducible refine And.intro (by first | kernel_rfl | decide) ?_
        obtain rfl := Option.some.inj h
        exact finC [(4, .v (.int .i64 0)), (5, .v (.int .i64 0)), (6, .v (.int .i64 x1559))] [(4, .v (.int .i64 0)), (5, .v (.int .i64 0)), (6, .v (.int .i64 x1559))] (by simp [leE, lk_cons]) (.cons _ _ _ _ _ (.v _ _ (.refl _)) (.cons _ _ _ _ _ (.v _ _ (.refl _)) (.cons _ _ _ _ _ (.v _ _ (.refl _)) .nil))) (by rfl) (by simp [leE, lk_cons]) (by decide) (by decide) rfl (by simp only [go_sem, ne_eq, not_false_eq_true, Nat.reduceBEq, Nat.reduceAdd, Nat.reduceSub, Nat.reduceMul, Nat.reduceLT, Nat.reduceLeDiff, Int.reduceLE, Int.reduceLT, Int.reduceToNat, Int.reduceBEq, Int.reduceBNe, Int.le_refl, Nat.le_refl, decide_true, decide_false, Int.cast_ofNat_Int, ↓reduceIte, resQ_tmp, resQ_cell, resQ_nil, retD_one, retD_two, retD_three, retD_none]; try simp [R.val, retD_one, retD_two, retD_three, retD_none])
      · refine W_sound tab_ok mixed 18 _ _ _ ?_
        simp -implicitDefEqProofs only [go_sem, ne_eq, not_false_eq_true, Nat.reduceBEq, Nat.reduceAdd, Nat.reduceSub, Nat.reduceMul, Nat.reduceLT, Nat.reduceLeDiff, Int.reduceLE, Int.reduceLT, Int.reduceToNat, Int.reduceBEq, Int.reduceBNe, Int.le_refl, Nat.le_refl, decide_true, decide_false, Int.cast_ofNat_Int, ↓reduceIte, h1553, h1558, h1560, h1563, h1565, h1566]
        repeat with_reducible refine And.intro (by first | kernel_rfl | decide) ?_
        have hh := bnd'_some h; clear h; obtain ⟨o1594, h1595, h1596⟩ := hh
        refine Wp_cut (fun s => (.inr ()) = o1594 ∧ s = ⟨[], [(0, .dead), (1, .dead), (4, .dead), (5, .dead), (6, .dead), (7, .dead), (8, .dead), (9, .dead), (21, .dead), (23, .dead), (28, .dead), (35, .dead), (52, .dead)], [], 0, []⟩) ?_ ?_
        · refine Wp_block ?_
          refine Wp_loopG (fun n s => ∃ x1567, m29_L0 N x1552 n1554 c1555 n x1567 = some o1594 ∧ s = ⟨[], [(0, .v (.lst false n1554 c1555)), (1, .v (.int .i64 x1552)), (4, .dead), (5, .dead), (6, .dead), (7, .dead), (8, .v (.int .i64 x1567)), (9, .dead), (21, .dead), (23, .dead), (28, .dead), (35, .dead), (52, .dead)], [], 0, []⟩) N _ ((Wk_le (.cons _ _ _ _ _ (.refl _) (.cons _ _ _ _ _ (.refl _) (.cons _ _ _ _ _ (.dead _) (.cons _ _ _ _ _ (.dead _) (.cons _ _ _ _ _ (.dead _) (.cons _ _ _ _ _ (.dead _) (.cons _ _ _ _ _ (.refl _) (.cons _ _ _ _ _ (.refl _) (.cons _ _ _ _ _ (.dead _) (.cons _ _ _ _ _ (.dead _) (.cons _ _ _ _ _ (.refl _) (.cons _ _ _ _ _ (.refl _) (.cons _ _ _ _ _ (.refl _) .nil))))))))))))) (OLe.refl _)).trans (cmpS_ok rfl)) ⟨_, h1595, rfl⟩ ?_
          clear h1595
          rintro n _ ⟨x1567, h1595, rfl⟩
          cases n with
          | zero => cases h1595
          | succ n =>
            rw [m29_L0] at h1595
            have hh := brn_some h1595; clear h1595; rcases hh with ⟨h1568, h1595⟩ | ⟨h1568, h1595⟩
            · refine W_sound tab_ok mixed 17 _ _ _ ?_
              simp -implicitDefEqProofs only [go_sem, ne_eq, not_false_eq_true, Nat.reduceBEq, Nat.reduceAdd, Nat.reduceSub, Nat.reduceMul, Nat.reduceLT, Nat.reduceLeDiff, Int.reduceLE, Int.reduceLT, Int.reduceToNat, Int.reduceBEq, Int.reduceBNe, Int.le_refl, Nat.le_refl, decide_true, decide_false, Int.cast_ofNat_Int, ↓reduceIte, h1553, h1558, h1560, h1563, h1565, h1566, h1568]
              repeat with_reducible refine And.intro (by first | kernel_rfl | decide) ?_
              have hh := bnd'_some h1595; clear h1595; obtain ⟨o1597, h1598, h1599⟩ := hh
              refine Wp_cut (fun s => (.inr ()) = o1597 ∧ s = ⟨[], [(0, .v (.lst false n1554 c1555)), (1, .v (.int .i64 x1552)), (4, .dead), (5, .dead), (6, .dead), (7, .dead), (8, .v (.int .i64 x1567)), (9, .dead), (21, .dead), (23, .dead), (28, .dead), (35, .dead), (52, .dead)], [], 0, []⟩) ?_ ?_
              · refine Wp_block ?_
                refine Wp_loopG (fun n s => ∃ x1569, m29_L1 N x1552 n1554 c1555 x1567 n x1569 = some o1597 ∧ s = ⟨[], [(0, .v (.lst false n1554 c1555)), (1, .v (.int .i64 x1552)), (4, .dead), (5, .dead), (6, .dead), (7, .dead), (8, .v (.int .i64 x1567)), (9, .v (.int .i64 x1569)), (21, .dead), (23, .dead), (28, .dead), (35, .dead), (52, .dead)], [], 0, []⟩) N _ ((Wk_le (.cons _ _ _ _ _ (.refl _) (.cons _ _ _ _ _ (.refl _) (.cons _ _ _ _ _ (.refl _) (.cons _ _ _ _ _ (.refl _) (.cons _ _ _ _ _ (.refl _) (.cons _ _ _ _ _ (.refl _) (.cons _ _ _ _ _ (.refl _) (.cons _ _ _ _ _ (.refl _) (.cons _ _ _ _ _ (.refl _) (.cons _ _ _ _ _ (.refl _) (.cons _ _ _ _ _ (.dead _) (.cons _ _ _ _ _ (.refl _) (.cons _ _ _ _ _ (.refl _) .nil))))))))))))) (OLe.refl _)).trans (cmpS_ok rfl)) ⟨_, h1598, rfl⟩ ?_
                clear h1598
                rintro n _ ⟨x1569, h1598, rfl⟩
                cases n with
                | zero => cases h1598
                | succ n =>
                  rw [m29_L1] at h1598
                  have hh := brn_some h1598; clear h1598; rcases hh with ⟨h1570, h1598⟩ | ⟨h1570, h1598⟩
                  · have hh := brn_some h1598; clear h1598; rcases hh with ⟨h1571, h1598⟩ | ⟨h1571, h1598⟩
                    · have hh := brn_some h1598; clear h1598; rcases hh with ⟨h1572, h1598⟩ | ⟨h1572, h1598⟩
                      · have hh := bnd'_some h1598; clear h1598; obtain ⟨p1573, h1574, h1598⟩ := hh
                        refine W_sound tab_ok mixed 27 _ _ _ ?_
                        simp -implicitDefEqProofs only [go_sem, ne_eq, not_false_eq_true, Nat.reduceBEq, Nat.reduceAdd, Nat.reduceSub, Nat.reduceMul, Nat.reduceLT, Nat.reduceLeDiff, Int.reduceLE, Int.reduceLT, Int.reduceToNat, Int.reduceBEq, Int.reduceBNe, Int.le_refl, Nat.le_refl, decide_true, decide_false, Int.cast_ofNat_Int, ↓reduceIte, h1553, h1558, h1560, h1563, h1565, h1566, h1568, h1570, h1571, h1572]
                        repeat with_reducible refine And.intro (by first | kernel_rfl | decide) ?_
                        refine Wp_callP (c70 N _ _ _ _ _ h1574) (by kernel_rfl) rfl rfl rfl rfl (by decide) ?_
                        have hh := getB_some h1598; clear h1598; obtain ⟨b1576, h1575, h1598⟩ := hh
                        have hh := brn_some h1598; clear h1598; rcases hh with ⟨h1577, h1598⟩ | ⟨h1577, h1598⟩
                        · refine W_sound tab_ok mixed 12 _ _ _ ?_
                          simp -implicitDefEqProofs only [go_sem, ne_eq, not_false_eq_true, Nat.reduceBEq, Nat.reduceAdd, Nat.reduceSub, Nat.reduceMul, Nat.reduceLT, Nat.reduceLeDiff, Int.reduceLE, Int.reduceLT, Int.reduceToNat, Int.reduceBEq, Int.reduceBNe, Int.le_refl, Nat.le_refl, decide_true, decide_false, Int.cast_ofNat_Int, ↓reduceIte, h1553, h1558, h1560, h1563, h1565, h1566, h1568, h1570, h1571, h1572, h1575, h1577]
                          repeat with_reducible refine And.intro (by first | kernel_rfl | decide) ?_
                          obtain rfl := Option.some.inj h1598
                          (try dsimp only at h1599)
                          obtain rfl := Option.some.inj h1599
                          (try dsimp only at h1596)
                          obtain rfl := Option.some.inj h1596
                          exact finC [(4, .v (.int .i64 x1567)), (5, .v (.int .i64 x1569)), (6, .v (.int .i64 0))] [(4, .v (.int .i64 x1567)), (5, .v (.int .i64 x1569)), (6, .v (.int .i64 0))] (by simp [leE, lk_cons]) (.cons _ _ _ _ _ (.v _ _ (.refl _)) (.cons _ _ _ _ _ (.v _ _ (.refl _)) (.cons _ _ _ _ _ (.v _ _ (.refl _)) .nil))) (by rfl) (by simp [leE, lk_cons]) (by decide) (by decide) rfl (by simp only [go_sem, ne_eq, not_false_eq_true, Nat.reduceBEq, Nat.reduceAdd, Nat.reduceSub, Nat.reduceMul, Nat.reduceLT, Nat.reduceLeDiff, Int.reduceLE, Int.reduceLT, Int.reduceToNat, Int.reduceBEq, Int.reduceBNe, Int.le_refl, Nat.le_refl, decide_true, decide_false, Int.cast_ofNat_Int, ↓reduceIte, resQ_tmp, resQ_cell, resQ_nil, retD_one, retD_two, retD_three, retD_none]; try simp [R.val, retD_one, retD_two, retD_three, retD_none])
                        · refine W_sound tab_ok mixed 10 _ _ _ ?_
                          simp -implicitDefEqProofs only [go_sem, ne_eq, not_false_eq_true, Nat.reduceBEq, Nat.reduceAdd, Nat.reduceSub, Nat.reduceMul, Nat.reduceLT, Nat.reduceLeDiff, Int.reduceLE, Int.reduceLT, Int.reduceToNat, Int.reduceBEq, Int.reduceBNe, Int.le_refl, Nat.le_refl, decide_true, decide_false, Int.cast_ofNat_Int, ↓reduceIte, h1553, h1558, h1560, h1563, h1565, h1566, h1568, h1570, h1571, h1572, h1575, h1577]
                          repeat with_reducible refine And.intro (by first | kernel_rfl | decide) ?_
                          exact cutQ _ ((Wk_le (.cons _ _ _ _ _ (.refl _) (.cons _ _ _ _ _ (.refl _) (.cons _ _ _ _ _ (.refl _) (.cons _ _ _ _ _ (.refl _) (.cons _ _ _ _ _ (.refl _) (.cons _ _ _ _ _ (.refl _) (.cons _ _ _ _ _ (.refl _) (.cons _ _ _ _ _ (.refl _) (.cons _ _ _ _ _ (.refl _) (.cons _ _ _ _ _ (.refl _) (.cons _ _ _ _ _ (.refl _) (.cons _ _ _ _ _ (.dead _) (.cons _ _ _ _ _ (.dead _) .nil))))))))))))) (OLe.refl _)).trans (cmpS_ok rfl)) ⟨n, Nat.lt_succ_self n, _, h1598, rfl⟩
                      · refine W_sound tab_ok mixed 38 _ _ _ ?_
                        simp -implicitDefEqProofs only [go_sem, ne_eq, not_false_eq_true, Nat.reduceBEq, Nat.reduceAdd, Nat.reduceSub, Nat.reduceMul, Nat.reduceLT, Nat.reduceLeDiff, Int.reduceLE, Int.reduceLT, Int.reduceToNat, Int.reduceBEq, Int.reduceBNe, Int.le_refl, Nat.le_refl, decide_true, decide_false, Int.cast_ofNat_Int, ↓reduceIte, h1553, h1558, h1560, h1563, h1565, h1566, h1568, h1570, h1571, h1572]
                        repeat with_reducible refine And.intro (by first | kernel_rfl | decide) ?_
                        exact cutQ _ ((Wk_le (.cons _ _ _ _ _ (.refl _) (.cons _ _ _ _ _ (.refl _) (.cons _ _ _ _ _ (.refl _) (.cons _ _ _ _ _ (.refl _) (.cons _ _ _ _ _ (.refl _) (.cons _ _ _ _ _ (.refl _) (.cons _ _ _ _ _ (.refl _) (.cons _ _ _ _ _ (.refl _) (.cons _ _ _ _ _ (.refl _) (.cons _ _ _ _ _ (.refl _) (.cons _ _ _ _ _ (.refl _) (.cons _ _ _ _ _ (.dead _) (.cons _ _ _ _ _ (.dead _) .nil))))))))))))) (OLe.refl _)).trans (cmpS_ok rfl)) ⟨n, Nat.lt_succ_self n, _, h1598, rfl⟩
                    · refine W_sound tab_ok mixed 38 _ _ _ ?_
                      simp -implicitDefEqProofs only [go_sem, ne_eq, not_false_eq_true, Nat.reduceBEq, Nat.reduceAdd, Nat.reduceSub, Nat.reduceMul, Nat.reduceLT, Nat.reduceLeDiff, Int.reduceLE, Int.reduceLT, Int.reduceToNat, Int.reduceBEq, Int.reduceBNe, Int.le_refl, Nat.le_refl, decide_true, decide_false, Int.cast_ofNat_Int, ↓reduceIte, h1553, h1558, h1560, h1563, h1565, h1566, h1568, h1570, h1571]
                      repeat with_reducible refine And.intro (by first | kernel_rfl | decide) ?_
                      exact cutQ _ ((Wk_le (.cons _ _ _ _ _ (.refl _) (.cons _ _ _ _ _ (.refl _) (.cons _ _ _ _ _ (.refl _) (.cons _ _ _ _ _ (.refl _) (.cons _ _ _ _ _ (.refl _) (.cons _ _ _ _ _ (.refl _) (.cons _ _ _ _ _ (.refl _) (.cons _ _ _ _ _ (.refl _) (.cons _ _ _ _ _ (.refl _) (.cons _ _ _ _ _ (.refl _) (.cons _ _ _ _ _ (.refl _) (.cons _ _ _ _ _ (.dead _) (.cons _ _ _ _ _ (.dead _) .nil))))))))))))) (OLe.refl _)).trans (cmpS_ok rfl)) ⟨n, Nat.lt_succ_self n, _, h1598, rfl⟩
                  · refine W_sound tab_ok mixed 10 _ _ _ ?_
                    simp -implicitDefEqProofs only [go_sem, ne_eq, not_false_eq_true, Nat.reduceBEq, Nat.reduceAdd, Nat.reduceSub, Nat.reduceMul, Nat.reduceLT, Nat.reduceLeDiff, Int.reduceLE, Int.reduceLT, Int.reduceToNat, Int.reduceBEq, Int.reduceBNe, Int.le_refl, Nat.le_refl, decide_true, decide_false, Int.cast_ofNat_Int, ↓reduceIte, h1553, h1558, h1560, h1563, h1565, h1566, h1568, h1570]
                    repeat with_reducible refine And.intro (by first | kernel_rfl | decide) ?_
                    obtain rfl := Option.some.inj h1598
                    exact cutQ _ ((Wk_le (.cons _ _ _ _ _ (.refl _) (.cons _ _ _ _ _ (.refl _) (.cons _ _ _ _ _ (.refl _) (.cons _ _ _ _ _ (.refl _) (.cons _ _ _ _ _ (.refl _) (.cons _ _ _ _ _ (.refl _) (.cons _ _ _ _ _ (.refl _) (.cons _ _ _ _ _ (.dead _) (.cons _ _ _ _ _ (.refl _) (.cons _ _ _ _ _ (.refl _) (.cons _ _ _ _ _ (.refl _) (.cons _ _ _ _ _ (.dead _) (.cons _ _ _ _ _ (.refl _) .nil))))))))))))) (OLe.refl _)).trans (cmpS_ok rfl)) ⟨rfl, rfl⟩
              · rintro _ ⟨rfl, rfl⟩
                (try dsimp only at h1599)
                refine W_sound tab_ok mixed 6 _ _ _ ?_
                simp -implicitDefEqProofs only [go_sem, ne_eq, not_false_eq_true, Nat.reduceBEq, Nat.reduceAdd, Nat.reduceSub, Nat.reduceMul, Nat.reduceLT, Nat.reduceLeDiff, Int.reduceLE, Int.reduceLT, Int.reduceToNat, Int.reduceBEq, Int.reduceBNe, Int.le_refl, Nat.le_refl, decide_true, decide_false, Int.cast_ofNat_Int, ↓reduceIte, h1553, h1558, h1560, h1563, h1565, h1566, h1568]
                repeat with_reducible refine And.intro (by first | kernel_rfl | decide) ?_
                exact cutQ _ ((Wk_le (.cons _ _ _ _ _ (.refl _) (.cons _ _ _ _ _ (.refl _) (.cons _ _ _ _ _ (.refl _) (.cons _ _ _ _ _ (.refl _) (.cons _ _ _ _ _ (.refl _) (.cons _ _ _ _ _ (.refl _) (.cons _ _ _ _ _ (.refl _) (.cons _ _ _ _ _ (.refl _) (.cons _ _ _ _ _ (.refl _) (.cons _ _ _ _ _ (.refl _) (.cons _ _ _ _ _ (.refl _) (.cons _ _ _ _ _ (.refl _) (.cons _ _ _ _ _ (.refl _) .nil))))))))))))) (OLe.refl _)).trans (cmpS_ok rfl)) ⟨n, Nat.lt_succ_self n, _, h1599, rfl⟩
            · refine W_sound tab_ok mixed 10 _ _ _ ?_
              simp -implicitDefEqProofs only [go_sem, ne_eq, not_false_eq_true, Nat.reduceBEq, Nat.reduceAdd, Nat.reduceSub, Nat.reduceMul, Nat.reduceLT, Nat.reduceLeDiff, Int.reduceLE, Int.reduceLT, Int.reduceToNat, Int.reduceBEq, Int.reduceBNe, Int.le_refl, Nat.le_refl, decide_true, decide_false, Int.cast_ofNat_Int, ↓reduceIte, h1553, h1558, h1560, h1563, h1565, h1566, h1568]
              repeat with_reducible refine And.intro (by first | kernel_rfl | decide) ?_
              obtain rfl := Option.some.inj h1595
              exact cutQ _ ((Wk_le (.cons _ _ _ _ _ (.dead _) (.cons _ _ _ _ _ (.dead _) (.cons _ _ _ _ _ (.refl _) (.cons _ _ _ _ _ (.refl _) (.cons _ _ _ _ _ (.refl _) (.cons _ _ _ _ _ (.refl _) (.cons _ _ _ _ _ (.dead _) (.cons _ _ _ _ _ (.refl _) (.cons _ _ _ _ _ (.refl _) (.cons _ _ _ _ _ (.refl _) (.cons _ _ _ _ _ (.dead _) (.cons _ _ _ _ _ (.refl _) (.cons _ _ _ _ _ (.refl _) .nil))))))))))))) (OLe.refl _)).trans (cmpS_ok rfl)) ⟨rfl, rfl⟩
        · rintro _ ⟨rfl, rfl⟩
          (try dsimp only at h1596)
          refine W_sound tab_ok mixed 7 _ _ _ ?_
          simp -implicitDefEqProofs only [go_sem, ne_eq, not_false_eq_true, Nat.reduceBEq, Nat.reduceAdd, Nat.reduceSub, Nat.reduceMul, Nat.reduceLT, Nat.reduceLeDiff, Int.reduceLE, Int.reduceLT, Int.reduceToNat, Int.reduceBEq, Int.reduceBNe, Int.le_refl, Nat.le_refl, decide_true, decide_false, Int.cast_ofNat_Int, ↓reduceIte, h1553, h1558, h1560, h1563, h1565, h1566]
          repeat with_reducible refine And.intro (by first | kernel_rfl | decide) ?_
          obtain rfl := Option.some.inj h1596
          exact finC [(4, .v (.int .i64 0)), (5, .v (.int .i64 0)), (6, .v (.int .i64 13))] [(4, .v (.int .i64 0)), (5, .v (.int .i64 0)), (6, .v (.int .i64 13))] (by simp [leE, lk_cons]) (.cons _ _ _ _ _ (.v _ _ (.refl _)) (.cons _ _ _ _ _ (.v _ _ (.refl _)) (.cons _ _ _ _ _ (.v _ _ (.refl _)) .nil))) (by rfl) (by simp [leE, lk_cons]) (by decide) (by decide) rfl (by simp only [go_sem, ne_eq, not_false_eq_true, Nat.reduceBEq, Nat.reduceAdd, Nat.reduceSub, Nat.reduceMul, Nat.reduceLT, Nat.reduceLeDiff, Int.reduceLE, Int.reduceLT, Int.reduceToNat, Int.reduceBEq, Int.reduceBNe, Int.le_refl, Nat.le_refl, decide_true, decide_false, Int.cast_ofNat_Int, ↓reduceIte, resQ_tmp, resQ_cell, resQ_nil, retD_one, retD_two, retD_three, retD_none]; try simp [R.val, retD_one, retD_two, retD_three, retD_none])
    · refine W_sound tab_ok mixed 22 _ _ _ ?_
      simp -implicitDefEqProofs only [go_sem, ne_eq, not_false_eq_true, Nat.reduceBEq, Nat.reduceAdd, Nat.reduceSub, Nat.reduceMul, Nat.reduceLT, Nat.reduceLeDiff, Int.reduceLE, Int.reduceLT, Int.reduceToNat, Int.reduceBEq, Int.reduceBNe, Int.le_refl, Nat.le_refl, decide_true, decide_false, Int.cast_ofNat_Int, ↓reduceIte, h1553, h1558, h1560, h1563, h1565]
      repeat with_reducible refine And.intro (by first | kernel_rfl | decide) ?_
      obtain rfl := Option.some.inj h
      exact finC [(4, .v (.int .i64 0)), (5, .v (.int .i64 0)), (6, .v (.int .i64 2))] [(4, .v (.int .i64 0)), (5, .v (.int .i64 0)), (6, .v (.int .i64 2))] (by simp [leE, lk_cons]) (.cons _ _ _ _ _ (.v _ _ (.refl _)) (.cons _ _ _ _ _ (.v _ _ (.refl _)) (.cons _ _ _ _ _ (.v _ _ (.refl _)) .nil))) (by rfl) (by simp [leE, lk_cons]) (by decide) (by decide) rfl (by simp only [go_sem, ne_eq, not_false_eq_true, Nat.reduceBEq, Nat.reduceAdd, Nat.reduceSub, Nat.reduceMul, Nat.reduceLT, Nat.reduceLeDiff, Int.reduceLE, Int.reduceLT, Int.reduceToNat, Int.reduceBEq, Int.reduceBNe, Int.le_refl, Nat.le_refl, decide_true, decide_false, Int.cast_ofNat_Int, ↓reduceIte, resQ_tmp, resQ_cell, resQ_nil, retD_one, retD_two, retD_three, retD_none]; try simp [R.val, retD_one, retD_two, retD_three, retD_none])
  · have hh := brn_some h; clear h; rcases hh with ⟨h1580, h⟩ | ⟨h1580, h⟩
    · refine W_sound tab_ok mixed 33 _ _ _ ?_
      simp -implicitDefEqProofs only [go_sem, ne_eq, not_false_eq_true, Nat.reduceBEq, Nat.reduceAdd, Nat.reduceSub, Nat.reduceMul, Nat.reduceLT, Nat.reduceLeDiff, Int.reduceLE, Int.reduceLT, Int.reduceToNat, Int.reduceBEq, Int.reduceBNe, Int.le_refl, Nat.le_refl, decide_true, decide_false, Int.cast_ofNat_Int, ↓reduceIte, h1553, h1558, h1560, h1580]
      repeat with_reducible refine And.intro (by first | kernel_rfl | decide) ?_
      obtain rfl := Option.some.inj h
      exact finC [(4, .v (.int .i64 0)), (5, .v (.int .i64 0)), (6, .v (.int .i64 x1559))] [(4, .v (.int .i64 0)), (5, .v (.int .i64 0)), (6, .v (.int .i64 x1559))] (by simp [leE, lk_cons]) (.cons _ _ _ _ _ (.v _ _ (.refl _)) (.cons _ _ _ _ _ (.v _ _ (.refl _)) (.cons _ _ _ _ _ (.v _ _ (.refl _)) .nil))) (by rfl) (by simp [leE, lk_cons]) (by decide) (by decide) rfl (by simp only [go_sem, ne_eq, not_false_eq_true, Nat.reduceBEq, Nat.reduceAdd, Nat.reduceSub, Nat.reduceMul, Nat.reduceLT, Nat.reduceLeDiff, Int.reduceLE, Int.reduceLT, Int.reduceToNat, Int.reduceBEq, Int.reduceBNe, Int.le_refl, Nat.le_refl, decide_true, decide_false, Int.cast_ofNat_Int, ↓reduceIte, resQ_tmp, resQ_cell, resQ_nil, retD_one, retD_two, retD_three, retD_none]; try simp [R.val, retD_one, retD_two, retD_three, retD_none])
    · refine W_sound tab_ok mixed 31 _ _ _ ?_
      simp -implicitDefEqProofs only [go_sem, ne_eq, not_false_eq_true, Nat.reduceBEq, Nat.reduceAdd, Nat.reduceSub, Nat.reduceMul, Nat.reduceLT, Nat.reduceLeDiff, Int.reduceLE, Int.reduceLT, Int.reduceToNat, Int.reduceBEq, Int.reduceBNe, Int.le_refl, Nat.le_refl, decide_true, decide_false, Int.cast_ofNat_Int, ↓reduceIte, h1553, h1558, h1560, h1580]
      repeat with_reducible refine And.intro (by first | kernel_rfl | decide) ?_
      have hh := bnd'_some h; clear h; obtain ⟨o1600, h1601, h1602⟩ := hh
      refine Wp_cut (fun s => (.inr ()) = o1600 ∧ s = ⟨[], [(0, .dead), (1, .dead), (4, .dead), (5, .dead), (6, .dead), (7, .dead), (8, .dead), (9, .dead), (21, .dead), (23, .dead), (28, .dead), (35, .dead), (52, .dead)], [], 0, []⟩) ?_ ?_
      · refine Wp_block ?_
        refine Wp_loopG (fun n s => ∃ x1581, m29_L2 N x1552 n1554 c1555 n x1581 = some o1600 ∧ s = ⟨[], [(0, .v (.lst false n1554 c1555)), (1, .v (.int .i64 x1552)), (4, .dead), (5, .dead), (6, .dead), (7, .dead), (8, .v (.int .i64 x1581)), (9, .dead), (21, .dead), (23, .dead), (28, .dead), (35, .dead), (52, .dead)], [], 0, []⟩) N _ ((Wk_le (.cons _ _ _ _ _ (.refl _) (.cons _ _ _ _ _ (.refl _) (.cons _ _ _ _ _ (.dead _) (.cons _ _ _ _ _ (.dead _) (.cons _ _ _ _ _ (.dead _) (.cons _ _ _ _ _ (.dead _) (.cons _ _ _ _ _ (.refl _) (.cons _ _ _ _ _ (.refl _) (.cons _ _ _ _ _ (.dead _) (.cons _ _ _ _ _ (.dead _) (.cons _ _ _ _ _ (.refl _) (.cons _ _ _ _ _ (.refl _) (.cons _ _ _ _ _ (.refl _) .nil))))))))))))) (OLe.refl _)).trans (cmpS_ok rfl)) ⟨_, h1601, rfl⟩ ?_
        clear h1601
        rintro n _ ⟨x1581, h1601, rfl⟩
        cases n with
        | zero => cases h1601
        | succ n =>
          rw [m29_L2] at h1601
          have hh := brn_some h1601; clear h1601; rcases hh with ⟨h1582, h1601⟩ | ⟨h1582, h1601⟩
          · refine W_sound tab_ok mixed 17 _ _ _ ?_
            simp -implicitDefEqProofs only [go_sem, ne_eq, not_false_eq_true, Nat.reduceBEq, Nat.reduceAdd, Nat.reduceSub, Nat.reduceMul, Nat.reduceLT, Nat.reduceLeDiff, Int.reduceLE, Int.reduceLT, Int.reduceToNat, Int.reduceBEq, Int.reduceBNe, Int.le_refl, Nat.le_refl, decide_true, decide_false, Int.cast_ofNat_Int, ↓reduceIte, h1553, h1558, h1560, h1580, h1582]
            repeat with_reducible refine And.intro (by first | kernel_rfl | decide) ?_
            have hh := bnd'_some h1601; clear h1601; obtain ⟨o1603, h1604, h1605⟩ := hh
            refine Wp_cut (fun s => (.inr ()) = o1603 ∧ s = ⟨[], [(0, .v (.lst false n1554 c1555)), (1, .v (.int .i64 x1552)), (4, .dead), (5, .dead), (6, .dead), (7, .dead), (8, .v (.int .i64 x1581)), (9, .dead), (21, .dead), (23, .dead), (28, .dead), (35, .dead), (52, .dead)], [], 0, []⟩) ?_ ?_
            · refine Wp_block ?_
              refine Wp_loopG (fun n s => ∃ x1583, m29_L3 N x1552 n1554 c1555 x1581 n x1583 = some o1603 ∧ s = ⟨[], [(0, .v (.lst false n1554 c1555)), (1, .v (.int .i64 x1552)), (4, .dead), (5, .dead), (6, .dead), (7, .dead), (8, .v (.int .i64 x1581)), (9, .v (.int .i64 x1583)), (21, .dead), (23, .dead), (28, .dead), (35, .dead), (52, .dead)], [], 0, []⟩) N _ ((Wk_le (.cons _ _ _ _ _ (.refl _) (.cons _ _ _ _ _ (.refl _) (.cons _ _ _ _ _ (.refl _) (.cons _ _ _ _ _ (.refl _) (.cons _ _ _ _ _ (.refl _) (.cons _ _ _ _ _ (.refl _) (.cons _ _ _ _ _ (.refl _) (.cons _ _ _ _ _ (.refl _) (.cons _ _ _ _ _ (.refl _) (.cons _ _ _ _ _ (.refl _) (.cons _ _ _ _ _ (.dead _) (.cons _ _ _ _ _ (.refl _) (.cons _ _ _ _ _ (.refl _) .nil))))))))))))) (OLe.refl _)).trans (cmpS_ok rfl)) ⟨_, h1604, rfl⟩ ?_
              clear h1604
              rintro n _ ⟨x1583, h1604, rfl⟩
              cases n with
              | zero => cases h1604
              | succ n =>
                rw [m29_L3] at h1604
                have hh := brn_some h1604; clear h1604; rcases hh with ⟨h1584, h1604⟩ | ⟨h1584, h1604⟩
                · have hh := brn_some h1604; clear h1604; rcases hh with ⟨h1585, h1604⟩ | ⟨h1585, h1604⟩
                  · have hh := brn_some h1604; clear h1604; rcases hh with ⟨h1586, h1604⟩ | ⟨h1586, h1604⟩
                    · have hh := bnd'_some h1604; clear h1604; obtain ⟨p1587, h1588, h1604⟩ := hh
                      refine W_sound tab_ok mixed 27 _ _ _ ?_
                      simp -implicitDefEqProofs only [go_sem, ne_eq, not_false_eq_true, Nat.reduceBEq, Nat.reduceAdd, Nat.reduceSub, Nat.reduceMul, Nat.reduceLT, Nat.reduceLeDiff, Int.reduceLE, Int.reduceLT, Int.reduceToNat, Int.reduceBEq, Int.reduceBNe, Int.le_refl, Nat.le_refl, decide_true, decide_false, Int.cast_ofNat_Int, ↓reduceIte, h1553, h1558, h1560, h1580, h1582, h1584, h1585, h1586]
                      repeat with_reducible refine And.intro (by first | kernel_rfl | decide) ?_
                      refine Wp_callP (c70 N _ _ _ _ _ h1588) (by kernel_rfl) rfl rfl rfl rfl (by decide) ?_
                      have hh := getB_some h1604; clear h1604; obtain ⟨b1590, h1589, h1604⟩ := hh
                      have hh := brn_some h1604; clear h1604; rcases hh with ⟨h1591, h1604⟩ | ⟨h1591, h1604⟩
                      · refine W_sound tab_ok mixed 12 _ _ _ ?_
                        simp -implicitDefEqProofs only [go_sem, ne_eq, not_false_eq_true, Nat.reduceBEq, Nat.reduceAdd, Nat.reduceSub, Nat.reduceMul, Nat.reduceLT, Nat.reduceLeDiff, Int.reduceLE, Int.reduceLT, Int.reduceToNat, Int.reduceBEq, Int.reduceBNe, Int.le_refl, Nat.le_refl, decide_true, decide_false, Int.cast_ofNat_Int, ↓reduceIte, h1553, h1558, h1560, h1580, h1582, h1584, h1585, h1586, h1589, h1591]
                        repeat with_reducible refine And.intro (by first | kernel_rfl | decide) ?_
                        obtain rfl := Option.some.inj h1604
                        (try dsimp only at h1605)
                        obtain rfl := Option.some.inj h1605
                        (try dsimp only at h1602)
                        obtain rfl := Option.some.inj h1602
                        exact finC [(4, .v (.int .i64 x1581)), (5, .v (.int .i64 x1583)), (6, .v (.int .i64 0))] [(4, .v (.int .i64 x1581)), (5, .v (.int .i64 x1583)), (6, .v (.int .i64 0))] (by simp [leE, lk_cons]) (.cons _ _ _ _ _ (.v _ _ (.refl _)) (.cons _ _ _ _ _ (.v _ _ (.refl _)) (.cons _ _ _ _ _ (.v _ _ (.refl _)) .nil))) (by rfl) (by simp [leE, lk_cons]) (by decide) (by decide) rfl (by simp only [go_sem, ne_eq, not_false_eq_true, Nat.reduceBEq, Nat.reduceAdd, Nat.reduceSub, Nat.reduceMul, Nat.reduceLT, Nat.reduceLeDiff, Int.reduceLE, Int.reduceLT, Int.reduceToNat, Int.reduceBEq, Int.reduceBNe, Int.le_refl, Nat.le_refl, decide_true, decide_false, Int.cast_ofNat_Int, ↓reduceIte, resQ_tmp, resQ_cell, resQ_nil, retD_one, retD_two, retD_three, retD_none]; try simp [R.val, retD_one, retD_two, retD_three, retD_none])
                      · refine W_sound tab_ok mixed 10 _ _ _ ?_
                        simp -implicitDefEqProofs only [go_sem, ne_eq, not_false_eq_true, Nat.reduceBEq, Nat.reduceAdd, Nat.reduceSub, Nat.reduceMul, Nat.reduceLT, Nat.reduceLeDiff, Int.reduceLE, Int.reduceLT, Int.reduceToNat, Int.reduceBEq, Int.reduceBNe, Int.le_refl, Nat.le_refl, decide_true, decide_false, Int.cast_ofNat_Int, ↓reduceIte, h1553, h1558, h1560, h1580, h1582, h1584, h1585, h1586, h1589, h1591]
                        repeat with_reducible refine And.intro (by first | kernel_rfl | decide) ?_
                        exact cutQ _ ((Wk_le (.cons _ _ _ _ _ (.refl _) (.cons _ _ _ _ _ (.refl _) (.cons _ _ _ _ _ (.refl _) (.cons _ _ _ _ _ (.refl _) (.cons _ _ _ _ _ (.refl _) (.cons _ _ _ _ _ (.refl _) (.cons _ _ _ _ _ (.refl _) (.cons _ _ _ _ _ (.refl _) (.cons _ _ _ _ _ (.refl _) (.cons _ _ _ _ _ (.refl _) (.cons _ _ _ _ _ (.refl _) (.cons _ _ _ _ _ (.dead _) (.cons _ _ _ _ _ (.dead _) .nil))))))))))))) (OLe.refl _)).trans (cmpS_ok rfl)) ⟨n, Nat.lt_succ_self n, _, h1604, rfl⟩
                    · refine W_sound tab_ok mixed 38 _ _ _ ?_
                      simp -implicitDefEqProofs only [go_sem, ne_eq, not_false_eq_true, Nat.reduceBEq, Nat.reduceAdd, Nat.reduceSub, Nat.reduceMul, Nat.reduceLT, Nat.reduceLeDiff, Int.reduceLE, Int.reduceLT, Int.reduceToNat, Int.reduceBEq, Int.reduceBNe, Int.le_refl, Nat.le_refl, decide_true, decide_false, Int.cast_ofNat_Int, ↓reduceIte, h1553, h1558, h1560, h1580, h1582, h1584, h1585, h1586]
                      repeat with_reducible refine And.intro (by first | kernel_rfl | decide) ?_
                      exact cutQ _ ((Wk_le (.cons _ _ _ _ _ (.refl _) (.cons _ _ _ _ _ (.refl _) (.cons _ _ _ _ _ (.refl _) (.cons _ _ _ _ _ (.refl _) (.cons _ _ _ _ _ (.refl _) (.cons _ _ _ _ _ (.refl _) (.cons _ _ _ _ _ (.refl _) (.cons _ _ _ _ _ (.refl _) (.cons _ _ _ _ _ (.refl _) (.cons _ _ _ _ _ (.refl _) (.cons _ _ _ _ _ (.refl _) (.cons _ _ _ _ _ (.dead _) (.cons _ _ _ _ _ (.dead _) .nil))))))))))))) (OLe.refl _)).trans (cmpS_ok rfl)) ⟨n, Nat.lt_succ_self n, _, h1604, rfl⟩
                  · refine W_sound tab_ok mixed 38 _ _ _ ?_
                    simp -implicitDefEqProofs only [go_sem, ne_eq, not_false_eq_true, Nat.reduceBEq, Nat.reduceAdd, Nat.reduceSub, Nat.reduceMul, Nat.reduceLT, Nat.reduceLeDiff, Int.reduceLE, Int.reduceLT, Int.reduceToNat, Int.reduceBEq, Int.reduceBNe, Int.le_refl, Nat.le_refl, decide_true, decide_false, Int.cast_ofNat_Int, ↓reduceIte, h1553, h1558, h1560, h1580, h1582, h1584, h1585]
                    repeat with_reducible refine And.intro (by first | kernel_rfl | decide) ?_
                    exact cutQ _ ((Wk_le (.cons _ _ _ _ _ (.refl _) (.cons _ _ _ _ _ (.refl _) (.cons _ _ _ _ _ (.refl _) (.cons _ _ _ _ _ (.refl _) (.cons _ _ _ _ _ (.refl _) (.cons _ _ _ _ _ (.refl _) (.cons _ _ _ _ _ (.refl _) (.cons _ _ _ _ _ (.refl _) (.cons _ _ _ _ _ (.refl _) (.cons _ _ _ _ _ (.refl _) (.cons _ _ _ _ _ (.refl _) (.cons _ _ _ _ _ (.dead _) (.cons _ _ _ _ _ (.dead _) .nil))))))))))))) (OLe.refl _)).trans (cmpS_ok rfl)) ⟨n, Nat.lt_succ_self n, _, h1604, rfl⟩
                · refine W_sound tab_ok mixed 10 _ _ _ ?_
                  simp -implicitDefEqProofs only [go_sem, ne_eq, not_false_eq_true, Nat.reduceBEq, Nat.reduceAdd, Nat.reduceSub, Nat.reduceMul, Nat.reduceLT, Nat.reduceLeDiff, Int.reduceLE, Int.reduceLT, Int.reduceToNat, Int.reduceBEq, Int.reduceBNe, Int.le_refl, Nat.le_refl, decide_true, decide_false, Int.cast_ofNat_Int, ↓reduceIte, h1553, h1558, h1560, h1580, h1582, h1584]
                  repeat with_reducible refine And.intro (by first | kernel_rfl | decide) ?_
                  obtain rfl := Option.some.inj h1604
                  exact cutQ _ ((Wk_le (.cons _ _ _ _ _ (.refl _) (.cons _ _ _ _ _ (.refl _) (.cons _ _ _ _ _ (.refl _) (.cons _ _ _ _ _ (.refl _) (.cons _ _ _ _ _ (.refl _) (.cons _ _ _ _ _ (.refl _) (.cons _ _ _ _ _ (.refl _) (.cons _ _ _ _ _ (.dead _) (.cons _ _ _ _ _ (.refl _) (.cons _ _ _ _ _ (.refl _) (.cons _ _ _ _ _ (.refl _) (.cons _ _ _ _ _ (.dead _) (.cons _ _ _ _ _ (.refl _) .nil))))))))))))) (OLe.refl _)).trans (cmpS_ok rfl)) ⟨rfl, rfl⟩
            · rintro _ ⟨rfl, rfl⟩
              (try dsimp only at h1605)
              refine W_sound tab_ok mixed 6 _ _ _ ?_
              simp -implicitDefEqProofs only [go_sem, ne_eq, not_false_eq_true, Nat.reduceBEq, Nat.reduceAdd, Nat.reduceSub, Nat.reduceMul, Nat.reduceLT, Nat.reduceLeDiff, Int.reduceLE, Int.reduceLT, Int.reduceToNat, Int.reduceBEq, Int.reduceBNe, Int.le_refl, Nat.le_refl, decide_true, decide_false, Int.cast_ofNat_Int, ↓reduceIte, h1553, h1558, h1560, h1580, h1582]
              repeat with_reducible refine And.intro (by first | kernel_rfl | decide) ?_
              exact cutQ _ ((Wk_le (.cons _ _ _ _ _ (.refl _) (.cons _ _ _ _ _ (.refl _) (.cons _ _ _ _ _ (.refl _) (.cons _ _ _ _ _ (.refl _) (.cons _ _ _ _ _ (.refl _) (.cons _ _ _ _ _ (.refl _) (.cons _ _ _ _ _ (.refl _) (.cons _ _ _ _ _ (.refl _) (.cons _ _ _ _ _ (.refl _) (.cons _ _ _ _ _ (.refl _) (.cons _ _ _ _ _ (.refl _) (.cons _ _ _ _ _ (.refl _) (.cons _ _ _ _ _ (.refl _) .nil))))))))))))) (OLe.refl _)).trans (cmpS_ok rfl)) ⟨n, Nat.lt_succ_self n, _, h1605, rfl⟩
          · refine W_sound tab_ok mixed 10 _ _ _ ?_
            simp -implicitDefEqProofs only [go_sem, ne_eq, not_false_eq_true, Nat.reduceBEq, Nat.reduceAdd, Nat.reduceSub, Nat.reduceMul, Nat.reduceLT, Nat.reduceLeDiff, Int.reduceLE, Int.reduceLT, Int.reduceToNat, Int.reduceBEq, Int.reduceBNe, Int.le_refl, Nat.le_refl, decide_true, decide_false, Int.cast_ofNat_Int, ↓reduceIte, h1553, h1558, h1560, h1580, h1582]
            repeat with_reducible refine And.intro (by first | kernel_rfl | decide) ?_
            obtain rfl := Option.some.inj h1601
            exact cutQ _ ((Wk_le (.cons _ _ _ _ _ (.dead _) (.cons _ _ _ _ _ (.dead _) (.cons _ _ _ _ _ (.refl _) (.cons _ _ _ _ _ (.refl _) (.cons _ _ _ _ _ (.refl _) (.cons _ _ _ _ _ (.refl _) (.cons _ _ _ _ _ (.dead _) (.cons _ _ _ _ _ (.refl _) (.cons _ _ _ _ _ (.refl _) (.cons _ _ _ _ _ (.refl _) (.cons _ _ _ _ _ (.dead _) (.cons _ _ _ _ _ (.refl _) (.cons _ _ _ _ _ (.refl _) .nil))))))))))))) (OLe.refl _)).trans (cmpS_ok rfl)) ⟨rfl, rfl⟩
      · rintro _ ⟨rfl, rfl⟩
        (try dsimp only at h1602)
        refine W_sound tab_ok mixed 7 _ _ _ ?_
        simp -implicitDefEqProofs only [go_sem, ne_eq, not_false_eq_true, Nat.reduceBEq, Nat.reduceAdd, Nat.reduceSub, Nat.reduceMul, Nat.reduceLT, Nat.reduceLeDiff, Int.reduceLE, Int.reduceLT, Int.reduceToNat, Int.reduceBEq, Int.reduceBNe, Int.le_refl, Nat.le_refl, decide_true, decide_false, Int.cast_ofNat_Int, ↓reduceIte, h1553, h1558, h1560, h1580]
        repeat with_reducible refine And.intro (by first | kernel_rfl | decide) ?_
        obtain rfl := Option.some.inj h1602
        exact finC [(4, .v (.int .i64 0)), (5, .v (.int .i64 0)), (6, .v (.int .i64 13))] [(4, .v (.int .i64 0)), (5, .v (.int .i64 0)), (6, .v (.int .i64 13))] (by simp [leE, lk_cons]) (.cons _ _ _ _ _ (.v _ _ (.refl _)) (.cons _ _ _ _ _ (.v _ _ (.refl _)) (.cons _ _ _ _ _ (.v _ _ (.refl _)) .nil))) (by rfl) (by simp [leE, lk_cons]) (by decide) (by decide) rfl (by simp only [go_sem, ne_eq, not_false_eq_true, Nat.reduceBEq, Nat.reduceAdd, Nat.reduceSub, Nat.reduceMul, Nat.reduceLT, Nat.reduceLeDiff, Int.reduceLE, Int.reduceLT, Int.reduceToNat, Int.reduceBEq, Int.reduceBNe, Int.le_refl, Nat.le_refl, decide_true, decide_false, Int.cast_ofNat_Int, ↓reduceIte, resQ_tmp, resQ_cell, resQ_nil, retD_one, retD_two, retD_three, retD_none]; try simp [R.val, retD_one, retD_two, retD_three, retD_none])

/-! breeze/breezeref12.Proves -/
def m31 (N : Nat) (p1606 : PV) (x1607 : Int) (x1608 : Int) (x1609 : Int) : Option (PV) :=
  getL p1606 fun n1611 c1612 =>
  bnd' (m23 N (.lst false n1611 c1612)) fun p1613 =>
  getI .i64 p1613 fun x1616 =>
  brn (x1616 == 0) (
    bnd' (m64 N x1607 0 (IntKind.i64.wrap (((n1611 : Nat) : Int) - 1))) fun p1618 =>
    getB p1618 fun b1621 =>
    brn b1621 (
      bnd' (m64 N x1608 0 (IntKind.i64.wrap (((n1611 : Nat) : Int) - 1))) fun p1623 =>
      getB p1623 fun b1626 =>
      brn b1626 (
        bnd' (m64 N x1609 0 (IntKind.i64.wrap (((n1611 : Nat) : Int) - 1))) fun p1628 =>
        getB p1628 fun b1631 =>
        brn b1631 (
          brn (x1608 == x1607) (
            some (.int .i64 6)) (
            brn (x1609 == x1607) (
              some (.int .i64 6)) (
              bnd' (m70 N (.lst false n1611 c1612) x1607 x1608 x1609) fun p1635 =>
              getB p1635 fun b1638 =>
              brn b1638 (
                some (.int .i64 x1616)) (
                some (.int .i64 14))))) (
          some (.int .i64 2))) (
        some (.int .i64 2))) (
      some (.int .i64 2))) (
    some (.int .i64 x1616))
theorem c31 (N : Nat) (p1606 : PV) (x1607 : Int) (x1608 : Int) (x1609 : Int) (r : PV)  (h : m31 N p1606 x1607 x1608 x1609 = some r) : FnP Try.prog 31 [p1606, (.int .i64 x1607), (.int .i64 x1608), (.int .i64 x1609)] r := by
  unfold m31 at h
  refine Fn_of (sz := 59) tab_ok [0, 1, 2, 3, 8, 9, 10, 35, 47, 57] [.tmp 8] Try.func31 rfl rfl rfl (by simp) ?_
  simp only [initSt, initEnv, List.map_cons, List.map_nil, List.getD_cons_zero, List.getD_cons_succ, List.getD_nil]
  have hh := getL_some h; clear h; obtain ⟨n1611, c1612, h1610, h⟩ := hh
  have hh := bnd'_some h; clear h; obtain ⟨p1613, h1614, h⟩ := hh
  refine W_sound tab_ok mixed 7 _ _ _ ?_
  simp -implicitDefEqProofs only [go_sem, ne_eq, not_false_eq_true, Nat.reduceBEq, Nat.reduceAdd, Nat.reduceSub, Nat.reduceMul, Nat.reduceLT, Nat.reduceLeDiff, Int.reduceLE, Int.reduceLT, Int.reduceToNat, Int.reduceBEq, Int.reduceBNe, Int.le_refl, Nat.le_refl, decide_true, decide_false, Int.cast_ofNat_Int, ↓reduceIte, h1610]
  repeat with_reducible refine And.intro (by first | kernel_rfl | decide) ?_
  refine Wp_callP (c23 N _ _ h1614) (by kernel_rfl) rfl rfl rfl rfl (by decide) ?_
  have hh := getI_some h; clear h; obtain ⟨x1616, h1615, h⟩ := hh
  have hh := brn_some h; clear h; rcases hh with ⟨h1617, h⟩ | ⟨h1617, h⟩
  · have hh := bnd'_some h; clear h; obtain ⟨p1618, h1619, h⟩ := hh
    refine W_sound tab_ok mixed 17 _ _ _ ?_
    simp -implicitDefEqProofs only [go_sem, ne_eq, not_false_eq_true, Nat.reduceBEq, Nat.reduceAdd, Nat.reduceSub, Nat.reduceMul, Nat.reduceLT, Nat.reduceLeDiff, Int.reduceLE, Int.reduceLT, Int.reduceToNat, Int.reduceBEq, Int.reduceBNe, Int.le_refl, Nat.le_refl, decide_true, decide_false, Int.cast_ofNat_Int, ↓reduceIte, h1610, h1615, h1617]
    repeat with_reducible refine And.intro (by first | kernel_rfl | decide) ?_
    refine Wp_callP (c64 N _ _ _ _ h1619) (by kernel_rfl) rfl rfl rfl rfl (by decide) ?_
    have hh := getB_some h; clear h; obtain ⟨b1621, h1620, h⟩ := hh
    have hh := brn_some h; clear h; rcases hh with ⟨h1622, h⟩ | ⟨h1622, h⟩
    · have hh := bnd'_some h; clear h; obtain ⟨p1623, h1624, h⟩ := hh
      refine W_sound tab_ok mixed 4 _ _ _ ?_
      simp -implicitDefEqProofs only [go_sem, ne_eq, not_false_eq_true, Nat.reduceBEq, Nat.reduceAdd, Nat.reduceSub, Nat.reduceMul, Nat.reduceLT, Nat.reduceLeDiff, Int.reduceLE, Int.reduceLT, Int.reduceToNat, Int.reduceBEq, Int.reduceBNe, Int.le_refl, Nat.le_refl, decide_true, decide_false, Int.cast_ofNat_Int, ↓reduceIte, h1610, h1615, h1617, h1620, h1622]
      repeat with_reducible refine And.intro (by first | kernel_rfl | decide) ?_
      refine Wp_callP (c64 N _ _ _ _ h1624) (by kernel_rfl) rfl rfl rfl rfl (by decide) ?_
      have hh := getB_some h; clear h; obtain ⟨b1626, h1625, h⟩ := hh
      have hh := brn_some h; clear h; rcases hh with ⟨h1627, h⟩ | ⟨h1627, h⟩
      · have hh := bnd'_some h; clear h; obtain ⟨p1628, h1629, h⟩ := hh
        refine W_sound tab_ok mixed 5 _ _ _ ?_
        simp -implicitDefEqProofs only [go_sem, ne_eq, not_false_eq_true, Nat.reduceBEq, Nat.reduceAdd, Nat.reduceSub, Nat.reduceMul, Nat.reduceLT, Nat.reduceLeDiff, Int.reduceLE, Int.reduceLT, Int.reduceToNat, Int.reduceBEq, Int.reduceBNe, Int.le_refl, Nat.le_refl, decide_true, decide_false, Int.cast_ofNat_Int, ↓reduceIte, h1610, h1615, h1617, h1620, h1622, h1625, h1627]
        repeat with_reducible refine And.intro (by first | kernel_rfl | decide) ?_
        refine Wp_callP (c64 N _ _ _ _ h1629) (by kernel_rfl) rfl rfl rfl rfl (by decide) ?_
        have hh := getB_some h; clear h; obtain ⟨b1631, h1630, h⟩ := hh
        have hh := brn_some h; clear h; rcases hh with ⟨h1632, h⟩ | ⟨h1632, h⟩
        · have hh := brn_some h; clear h; rcases hh with ⟨h1633, h⟩ | ⟨h1633, h⟩
          · refine W_sound tab_ok mixed 48 _ _ _ ?_
            simp -implicitDefEqProofs only [go_sem, ne_eq, not_false_eq_true, Nat.reduceBEq, Nat.reduceAdd, Nat.reduceSub, Nat.reduceMul, Nat.reduceLT, Nat.reduceLeDiff, Int.reduceLE, Int.reduceLT, Int.reduceToNat, Int.reduceBEq, Int.reduceBNe, Int.le_refl, Nat.le_refl, decide_true, decide_false, Int.cast_ofNat_Int, ↓reduceIte, h1610, h1615, h1617, h1620, h1622, h1625, h1627, h1630, h1632, h1633]
            repeat with_reducible refine And.intro (by first | kernel_rfl | decide) ?_
            obtain rfl := Option.some.inj h
            exact finC [(8, .v (.int .i64 6))] [(8, .v (.int .i64 6))] (by simp [leE, lk_cons]) (.cons _ _ _ _ _ (.v _ _ (.refl _)) .nil) (by rfl) (by simp [leE, lk_cons]) (by decide) (by decide) rfl (by simp only [go_sem, ne_eq, not_false_eq_true, Nat.reduceBEq, Nat.reduceAdd, Nat.reduceSub, Nat.reduceMul, Nat.reduceLT, Nat.reduceLeDiff, Int.reduceLE, Int.reduceLT, Int.reduceToNat, Int.reduceBEq, Int.reduceBNe, Int.le_refl, Nat.le_refl, decide_true, decide_false, Int.cast_ofNat_Int, ↓reduceIte, resQ_tmp, resQ_cell, resQ_nil, retD_one, retD_two, retD_three, retD_none]; try simp [R.val, retD_one, retD_two, retD_three, retD_none])
          · have hh := brn_some h; clear h; rcases hh with ⟨h1634, h⟩ | ⟨h1634, h⟩
            · refine W_sound tab_ok mixed 48 _ _ _ ?_
              simp -implicitDefEqProofs only [go_sem, ne_eq, not_false_eq_true, Nat.reduceBEq, Nat.reduceAdd, Nat.reduceSub, Nat.reduceMul, Nat.reduceLT, Nat.reduceLeDiff, Int.reduceLE, Int.reduceLT, Int.reduceToNat, Int.reduceBEq, Int.reduceBNe, Int.le_refl, Nat.le_refl, decide_true, decide_false, Int.cast_ofNat_Int, ↓reduceIte, h1610, h1615, h1617, h1620, h1622, h1625, h1627, h1630, h1632, h1633, h1634]
              repeat with_reducible refine And.intro (by first | kernel_rfl | decide) ?_
              obtain rfl := Option.some.inj h
              exact finC [(8, .v (.int .i64 6))] [(8, .v (.int .i64 6))] (by simp [leE, lk_cons]) (.cons _ _ _ _ _ (.v _ _ (.refl _)) .nil) (by rfl) (by simp [leE, lk_cons]) (by decide) (by decide) rfl (by simp only [go_sem, ne_eq, not_false_eq_true, Nat.reduceBEq, Nat.reduceAdd, Nat.reduceSub, Nat.reduceMul, Nat.reduceLT, Nat.reduceLeDiff, Int.reduceLE, Int.reduceLT, Int.reduceToNat, Int.reduceBEq, Int.reduceBNe, Int.le_refl, Nat.le_refl, decide_true, decide_false, Int.cast_ofNat_Int, ↓reduceIte, resQ_tmp, resQ_cell, resQ_nil, retD_one, retD_two, retD_three, retD_none]; try simp [R.val, retD_one, retD_two, retD_three, retD_none])
            · have hh := bnd'_some h; clear h; obtain ⟨p1635, h1636, h⟩ := hh
              refine W_sound tab_ok mixed 34 _ _ _ ?_
              simp -implicitDefEqProofs only [go_sem, ne_eq, not_false_eq_true, Nat.reduceBEq, Nat.reduceAdd, Nat.reduceSub, Nat.reduceMul, Nat.reduceLT, Nat.reduceLeDiff, Int.reduceLE, Int.reduceLT, Int.reduceToNat, Int.reduceBEq, Int.reduceBNe, Int.le_refl, Nat.le_refl, decide_true, decide_false, Int.cast_ofNat_Int, ↓reduceIte, h1610, h1615, h1617, h1620, h1622, h1625, h1627, h1630, h1632, h1633, h1634]
              repeat with_reducible refine And.intro (by first | kernel_rfl | decide) ?_
              refine Wp_callP (c70 N _ _ _ _ _ h1636) (by kernel_rfl) rfl rfl rfl rfl (by decide) ?_
              have hh := getB_some h; clear h; obtain ⟨b1638, h1637, h⟩ := hh
              have hh := brn_some h; clear h; rcases hh with ⟨h1639, h⟩ | ⟨h1639, h⟩
              · refine W_sound tab_ok mixed 11 _ _ _ ?_
                simp -implicitDefEqProofs only [go_sem, ne_eq, not_false_eq_true, Nat.reduceBEq, Nat.reduceAdd, Nat.reduceSub, Nat.reduceMul, Nat.reduceLT, Nat.reduceLeDiff, Int.reduceLE, Int.reduceLT, Int.reduceToNat, Int.reduceBEq, Int.reduceBNe, Int.le_refl, Nat.le_refl, decide_true, decide_false, Int.cast_ofNat_Int, ↓reduceIte, h1610, h1615, h1617, h1620, h1622, h1625, h1627, h1630, h1632, h1633, h1634, h1637, h1639]
                repeat with_reducible refine And.intro (by first | kernel_rfl | decide) ?_
                obtain rfl := Option.some.inj h
                exact finC [(8, .v (.int .i64 x1616))] [(8, .v (.int .i64 x1616))] (by simp [leE, lk_cons]) (.cons _ _ _ _ _ (.v _ _ (.refl _)) .nil) (by rfl) (by simp [leE, lk_cons]) (by decide) (by decide) rfl (by simp only [go_sem, ne_eq, not_false_eq_true, Nat.reduceBEq, Nat.reduceAdd, Nat.reduceSub, Nat.reduceMul, Nat.reduceLT, Nat.reduceLeDiff, Int.reduceLE, Int.reduceLT, Int.reduceToNat, Int.reduceBEq, Int.reduceBNe, Int.le_refl, Nat.le_refl, decide_true, decide_false, Int.cast_ofNat_Int, ↓reduceIte, resQ_tmp, resQ_cell, resQ_nil, retD_one, retD_two, retD_three, retD_none]; try simp [R.val, retD_one, retD_two, retD_three, retD_none])
              · refine W_sound tab_ok mixed 13 _ _ _ ?_
                simp -implicitDefEqProofs only [go_sem, ne_eq, not_false_eq_true, Nat.reduceBEq, Nat.reduceAdd, Nat.reduceSub, Nat.reduceMul, Nat.reduceLT, Nat.reduceLeDiff, Int.reduceLE, Int.reduceLT, Int.reduceToNat, Int.reduceBEq, Int.reduceBNe, Int.le_refl, Nat.le_refl, decide_true, decide_false, Int.cast_ofNat_Int, ↓reduceIte, h1610, h1615, h1617, h1620, h1622, h1625, h1627, h1630, h1632, h1633, h1634, h1637, h1639]
                repeat with_reducible refine And.intro (by first | kernel_rfl | decide) ?_
                obtain rfl := Option.some.inj h
                exact finC [(8, .v (.int .i64 14))] [(8, .v (.int .i64 14))] (by simp [leE, lk_cons]) (.cons _ _ _ _ _ (.v _ _ (.refl _)) .nil) (by rfl) (by simp [leE, lk_cons]) (by decide) (by decide) rfl (by simp only [go_sem, ne_eq, not_false_eq_true, Nat.reduceBEq, Nat.reduceAdd, Nat.reduceSub, Nat.reduceMul, Nat.reduceLT, Nat.reduceLeDiff, Int.reduceLE, Int.reduceLT, Int.reduceToNat, Int.reduceBEq, Int.reduceBNe, Int.le_refl, Nat.le_refl, decide_true, decide_false, Int.cast_ofNat_Int, ↓reduceIte, resQ_tmp, resQ_cell, resQ_nil, retD_one, retD_two, retD_three, retD_none]; try simp [R.val, retD_one, retD_two, retD_three, retD_none])
        · refine W_sound tab_ok mixed 48 _ _ _ ?_
          simp -implicitDefEqProofs only [go_sem, ne_eq, not_false_eq_true, Nat.reduceBEq, Nat.reduceAdd, Nat.reduceSub, Nat.reduceMul, Nat.reduceLT, Nat.reduceLeDiff, Int.reduceLE, Int.reduceLT, Int.reduceToNat, Int.reduceBEq, Int.reduceBNe, Int.le_refl, Nat.le_refl, decide_true, decide_false, Int.cast_ofNat_Int, ↓reduceIte, h1610, h1615, h1617, h1620, h1622, h1625, h1627, h1630, h1632]
          repeat with_reducible refine And.intro (by first | kernel_rfl | decide) ?_
          obtain rfl := Option.some.inj h
          exact finC [(8, .v (.int .i64 2))] [(8, .v (.int .i64 2))] (by simp [leE, lk_cons]) (.cons _ _ _ _ _ (.v _ _ (.refl _)) .nil) (by rfl) (by simp [leE, lk_cons]) (by decide) (by decide) rfl (by simp only [go_sem, ne_eq, not_false_eq_true, Nat.reduceBEq, Nat.reduceAdd, Nat.reduceSub, Nat.reduceMul, Nat.reduceLT, Nat.reduceLeDiff, Int.reduceLE, Int.reduceLT, Int.reduceToNat, Int.reduceBEq, Int.reduceBNe, Int.le_refl, Nat.le_refl, decide_true, decide_false, Int.cast_ofNat_Int, ↓reduceIte, resQ_tmp, resQ_cell, resQ_nil, retD_one, retD_two, retD_three, retD_none]; try simp [R.val, retD_one, retD_two, retD_three, retD_none])
      · refine W_sound tab_ok mixed 54 _ _ _ ?_
        simp -implicitDefEqProofs only [go_sem, ne_eq, not_false_eq_true, Nat.reduceBEq, Nat.reduceAdd, Nat.reduceSub, Nat.reduceMul, Nat.reduceLT, Nat.reduceLeDiff, Int.reduceLE, Int.reduceLT, Int.reduceToNat, Int.reduceBEq, Int.reduceBNe, Int.le_refl, Nat.le_refl, decide_true, decide_false, Int.cast_ofNat_Int, ↓reduceIte, h1610, h1615, h1617, h1620, h1622, h1625, h1627]
        repeat with_reducible refine And.intro (by first | kernel_rfl | decide) ?_
        obtain rfl := Option.some.inj h
        exact finC [(8, .v (.int .i64 2))] [(8, .v (.int .i64 2))] (by simp [leE, lk_cons]) (.cons _ _ _ _ _ (.v _ _ (.refl _)) .nil) (by rfl) (by simp [leE, lk_cons]) (by decide) (by decide) rfl (by simp only [go_sem, ne_eq, not_false_eq_true, Nat.reduceBEq, Nat.reduceAdd, Nat.reduceSub, Nat.reduceMul, Nat.reduceLT, Nat.reduceLeDiff, Int.reduceLE, Int.reduceLT, Int.reduceToNat, Int.reduceBEq, Int.reduceBNe, Int.le_refl, Nat.le_refl, decide_true, decide_false, Int.cast_ofNat_Int, ↓reduceIte, resQ_tmp, resQ_cell, resQ_nil, retD_one, retD_two, retD_three, retD_none]; try simp [R.val, retD_one, retD_two, retD_three, retD_none])
    · refine W_sound tab_ok mixed 59 _ _ _ ?_
      simp -implicitDefEqProofs only [go_sem, ne_eq, not_false_eq_true, Nat.reduceBEq, Nat.reduceAdd, Nat.reduceSub, Nat.reduceMul, Nat.reduceLT, Nat.reduceLeDiff, Int.reduceLE, Int.reduceLT, Int.reduceToNat, Int.reduceBEq, Int.reduceBNe, Int.le_refl, Nat.le_refl, decide_true, decide_false, Int.cast_ofNat_Int, ↓reduceIte, h1610, h1615, h1617, h1620, h1622]
      repeat with_reducible refine And.intro (by first | kernel_rfl | decide) ?_
      obtain rfl := Option.some.inj h
      exact finC [(8, .v (.int .i64 2))] [(8, .v (.int .i64 2))] (by simp [leE, lk_cons]) (.cons _ _ _ _ _ (.v _ _ (.refl _)) .nil) (by rfl) (by simp [leE, lk_cons]) (by decide) (by decide) rfl (by simp only [go_sem, ne_eq, not_false_eq_true, Nat.reduceBEq, Nat.reduceAdd, Nat.reduceSub, Nat.reduceMul, Nat.reduceLT, Nat.reduceLeDiff, Int.reduceLE, Int.reduceLT, Int.reduceToNat, Int.reduceBEq, Int.reduceBNe, Int.le_refl, Nat.le_refl, decide_true, decide_false, Int.cast_ofNat_Int, ↓reduceIte, resQ_tmp, resQ_cell, resQ_nil, retD_one, retD_two, retD_three, retD_none]; try simp [R.val, retD_one, retD_two, retD_three, retD_none])
  · refine W_sound tab_ok mixed 75 _ _ _ ?_
    simp -implicitDefEqProofs only [go_sem, ne_eq, not_false_eq_true, Nat.reduceBEq, Nat.reduceAdd, Nat.reduceSub, Nat.reduceMul, Nat.reduceLT, Nat.reduceLeDiff, Int.reduceLE, Int.reduceLT, Int.reduceToNat, Int.reduceBEq, Int.reduceBNe, Int.le_refl, Nat.le_refl, decide_true, decide_false, Int.cast_ofNat_Int, ↓reduceIte, h1610, h1615, h1617]
    repeat with_reducible refine And.intro (by first | kernel_rfl | decide) ?_
    obtain rfl := Option.some.inj h
    exact finC [(8, .v (.int .i64 x1616))] [(8, .v (.int .i64 x1616))] (by simp [leE, lk_cons]) (.cons _ _ _ _ _ (.v _ _ (.refl _)) .nil) (by rfl) (by simp [leE, lk_cons]) (by decide) (by decide) rfl (by simp only [go_sem, ne_eq, not_false_eq_true, Nat.reduceBEq, Nat.reduceAdd, Nat.reduceSub, Nat.reduceMul, Nat.reduceLT, Nat.reduceLeDiff, Int.reduceLE, Int.reduceLT, Int.reduceToNat, Int.reduceBEq, Int.reduceBNe, Int.le_refl, Nat.le_refl, decide_true, decide_false, Int.cast_ofNat_Int, ↓reduceIte, resQ_tmp, resQ_cell, resQ_nil, retD_one, retD_two, retD_three, retD_none]; try simp [R.val, retD_one, retD_two, retD_three, retD_none])

/-! breeze/breezelaw12.TurnCovers -/
def m5 (N : Nat) (p1640 : PV) (x1641 : Int) (x1642 : Int) (x1643 : Int) : Option (PV) :=
  getL p1640 fun n1645 c1646 =>
  brn (decide (((n1645 : Nat) : Int) > 40)) (
    bnd' (m15 N ) fun p1648 =>
    getB p1648 fun b1651 =>
    some (.bool b1651)) (
    bnd' (m16 N (.lst false n1645 c1646)) fun p1652 =>
    getL p1652 fun n1655 c1656 =>
    bnd' (m28 N (.lst false n1645 c1646) x1641) fun p1657 =>
    getT3 p1657 fun p1660 p1661 p1662 =>
    getI .i64 p1660 fun x1664 =>
    getI .i64 p1661 fun x1666 =>
    getI .i64 p1662 fun x1668 =>
    bnd' (m29 N (.lst false n1655 c1656) x1641) fun p1669 =>
    getT3 p1669 fun p1672 p1673 p1674 =>
    getI .i64 p1672 fun x1676 =>
    getI .i64 p1673 fun x1678 =>
    getI .i64 p1674 fun x1680 =>
    brn (x1664 == x1676) (
      brn (x1666 == x1678) (
        brn (x1668 == x1680) (
          bnd' (m30 N (.lst false n1645 c1646) x1641 x1642 x1643) fun p1684 =>
          getI .i64 p1684 fun x1687 =>
          bnd' (m31 N (.lst false n1655 c1656) x1641 x1642 x1643) fun p1688 =>
          getI .i64 p1688 fun x1691 =>
          brn (x1687 == x1691) (
            bnd' (m15 N ) fun p1693 =>
            getB p1693 fun b1696 =>
            some (.bool b1696)) (
            some (.bool false))) (
          some (.bool false))) (
        some (.bool false))) (
      some (.bool false)))
theorem c5 (N : Nat) (p1640 : PV) (x1641 : Int) (x1642 : Int) (x1643 : Int) (r : PV)  (h : m5 N p1640 x1641 x1642 x1643 = some r) : FnP Try.prog 5 [p1640, (.int .i64 x1641), (.int .i64 x1642), (.int .i64 x1643)] r := by
  unfold m5 at h
  refine Fn_of (sz := 65) tab_ok [0, 1, 2, 3, 8, 9, 10, 11, 12, 13, 14, 15, 18] [.tmp 8] Try.func5 rfl rfl rfl (by simp) ?_
  simp only [initSt, initEnv, List.map_cons, List.map_nil, List.getD_cons_zero, List.getD_cons_succ, List.getD_nil]
  have hh := getL_some h; clear h; obtain ⟨n1645, c1646, h1644, h⟩ := hh
  have hh := brn_some h; clear h; rcases hh with ⟨h1647, h⟩ | ⟨h1647, h⟩
  · have hh := bnd'_some h; clear h; obtain ⟨p1648, h1649, h⟩ := hh
    refine W_sound tab_ok mixed 14 _ _ _ ?_
    simp -implicitDefEqProofs only [go_sem, ne_eq, not_false_eq_true, Nat.reduceBEq, Nat.reduceAdd, Nat.reduceSub, Nat.reduceMul, Nat.reduceLT, Nat.reduceLeDiff, Int.reduceLE, Int.reduceLT, Int.reduceToNat, Int.reduceBEq, Int.reduceBNe, Int.le_refl, Nat.le_refl, decide_true, decide_false, Int.cast_ofNat_Int, ↓reduceIte, h1644, h1647]
    repeat with_reducible refine And.intro (by first | kernel_rfl | decide) ?_
    refine Wp_callP (c15 N  _ h1649) (by kernel_rfl) rfl rfl rfl rfl (by decide) ?_
    have hh := getB_some h; clear h; obtain ⟨b1651, h1650, h⟩ := hh
    refine W_sound tab_ok mixed 3 _ _ _ ?_
    simp -implicitDefEqProofs only [go_sem, ne_eq, not_false_eq_true, Nat.reduceBEq, Nat.reduceAdd, Nat.reduceSub, Nat.reduceMul, Nat.reduceLT, Nat.reduceLeDiff, Int.reduceLE, Int.reduceLT, Int.reduceToNat, Int.reduceBEq, Int.reduceBNe, Int.le_refl, Nat.le_refl, decide_true, decide_false, Int.cast_ofNat_Int, ↓reduceIte, h1644, h1647, h1650]
    repeat with_reducible refine And.intro (by first | kernel_rfl | decide) ?_
    obtain rfl := Option.some.inj h
    exact finC [(8, .v (.bool b1651))] [(8, .v (.bool b1651))] (by simp [leE, lk_cons]) (.cons _ _ _ _ _ (.v _ _ (.refl _)) .nil) (by rfl) (by simp [leE, lk_cons]) (by decide) (by decide) rfl (by simp only [go_sem, ne_eq, not_false_eq_true, Nat.reduceBEq, Nat.reduceAdd, Nat.reduceSub, Nat.reduceMul, Nat.reduceLT, Nat.reduceLeDiff, Int.reduceLE, Int.reduceLT, Int.reduceToNat, Int.reduceBEq, Int.reduceBNe, Int.le_refl, Nat.le_refl, decide_true, decide_false, Int.cast_ofNat_Int, ↓reduceIte, resQ_tmp, resQ_cell, resQ_nil, retD_one, retD_two, retD_three, retD_none]; try simp [R.val, retD_one, retD_two, retD_three, retD_none])
  · have hh := bnd'_some h; clear h; obtain ⟨p1652, h1653, h⟩ := hh
    refine W_sound tab_ok mixed 16 _ _ _ ?_
    simp -implicitDefEqProofs only [go_sem, ne_eq, not_false_eq_true, Nat.reduceBEq, Nat.reduceAdd, Nat.reduceSub, Nat.reduceMul, Nat.reduceLT, Nat.reduceLeDiff, Int.reduceLE, Int.reduceLT, Int.reduceToNat, Int.reduceBEq, Int.reduceBNe, Int.le_refl, Nat.le_refl, decide_true, decide_false, Int.cast_ofNat_Int, ↓reduceIte, h1644, h1647]
    repeat with_reducible refine And.intro (by first | kernel_rfl | decide) ?_
    refine Wp_callP (c16 N _ _ h1653) (by kernel_rfl) rfl rfl rfl rfl (by decide) ?_
    have hh := getL_some h; clear h; obtain ⟨n1655, c1656, h1654, h⟩ := hh
    have hh := bnd'_some h; clear h; obtain ⟨p1657, h1658, h⟩ := hh
    refine W_sound tab_ok mixed 6 _ _ _ ?_
    simp -implicitDefEqProofs only [go_sem, ne_eq, not_false_eq_true, Nat.reduceBEq, Nat.reduceAdd, Nat.reduceSub, Nat.reduceMul, Nat.reduceLT, Nat.reduceLeDiff, Int.reduceLE, Int.reduceLT, Int.reduceToNat, Int.reduceBEq, Int.reduceBNe, Int.le_refl, Nat.le_refl, decide_true, decide_false, Int.cast_ofNat_Int, ↓reduceIte, h1644, h1647, h1654]
    repeat with_reducible refine And.intro (by first | kernel_rfl | decide) ?_
    refine Wp_callP (c28 N _ _ _ h1658) (by kernel_rfl) rfl rfl rfl rfl (by decide) ?_
    have hh := getT3_some h; clear h; obtain ⟨p1660, p1661, p1662, h1659, h⟩ := hh
    have hh := getI_some h; clear h; obtain ⟨x1664, h1663, h⟩ := hh
    have hh := getI_some h; clear h; obtain ⟨x1666, h1665, h⟩ := hh
    have hh := getI_some h; clear h; obtain ⟨x1668, h1667, h⟩ := hh
    have hh := bnd'_some h; clear h; obtain ⟨p1669, h1670, h⟩ := hh
    refine W_sound tab_ok mixed 12 _ _ _ ?_
    simp -implicitDefEqProofs only [go_sem, ne_eq, not_false_eq_true, Nat.reduceBEq, Nat.reduceAdd, Nat.reduceSub, Nat.reduceMul, Nat.reduceLT, Nat.reduceLeDiff, Int.reduceLE, Int.reduceLT, Int.reduceToNat, Int.reduceBEq, Int.reduceBNe, Int.le_refl, Nat.le_refl, decide_true, decide_false, Int.cast_ofNat_Int, ↓reduceIte, h1644, h1647, h1654, h1659, h1663, h1665, h1667]
    repeat with_reducible refine And.intro (by first | kernel_rfl | decide) ?_
    refine Wp_callP (c29 N _ _ _ h1670) (by kernel_rfl) rfl rfl rfl rfl (by decide) ?_
    have hh := getT3_some h; clear h; obtain ⟨p1672, p1673, p1674, h1671, h⟩ := hh
    have hh := getI_some h; clear h; obtain ⟨x1676, h1675, h⟩ := hh
    have hh := getI_some h; clear h; obtain ⟨x1678, h1677, h⟩ := hh
    have hh := getI_some h; clear h; obtain ⟨x1680, h1679, h⟩ := hh
    have hh := brn_some h; clear h; rcases hh with ⟨h1681, h⟩ | ⟨h1681, h⟩
    · have hh := brn_some h; clear h; rcases hh with ⟨h1682, h⟩ | ⟨h1682, h⟩
      · have hh := brn_some h; clear h; rcases hh with ⟨h1683, h⟩ | ⟨h1683, h⟩
        · have hh := bnd'_some h; clear h; obtain ⟨p1684, h1685, h⟩ := hh
          refine W_sound tab_ok mixed 28 _ _ _ ?_
          simp -implicitDefEqProofs only [go_sem, ne_eq, not_false_eq_true, Nat.reduceBEq, Nat.reduceAdd, Nat.reduceSub, Nat.reduceMul, Nat.reduceLT, Nat.reduceLeDiff, Int.reduceLE, Int.reduceLT, Int.reduceToNat, Int.reduceBEq, Int.reduceBNe, Int.le_refl, Nat.le_refl, decide_true, decide_false, Int.cast_ofNat_Int, ↓reduceIte, h1644, h1647, h1654, h1659, h1663, h1665, h1667, h1671, h1675, h1677, h1679, h1681, h1682, h1683]
          repeat with_reducible refine And.intro (by first | kernel_rfl | decide) ?_
          refine Wp_callP (c30 N _ _ _ _ _ h1685) (by kernel_rfl) rfl rfl rfl rfl (by decide) ?_
          have hh := getI_some h; clear h; obtain ⟨x1687, h1686, h⟩ := hh
          have hh := bnd'_some h; clear h; obtain ⟨p1688, h1689, h⟩ := hh
          refine W_sound tab_ok mixed 4 _ _ _ ?_
          simp -implicitDefEqProofs only [go_sem, ne_eq, not_false_eq_true, Nat.reduceBEq, Nat.reduceAdd, Nat.reduceSub, Nat.reduceMul, Nat.reduceLT, Nat.reduceLeDiff, Int.reduceLE, Int.reduceLT, Int.reduceToNat, Int.reduceBEq, Int.reduceBNe, Int.le_refl, Nat.le_refl, decide_true, decide_false, Int.cast_ofNat_Int, ↓reduceIte, h1644, h1647, h1654, h1659, h1663, h1665, h1667, h1671, h1675, h1677, h1679, h1681, h1682, h1683, h1686]
          repeat with_reducible refine And.intro (by first | kernel_rfl | decide) ?_
          refine Wp_callP (c31 N _ _ _ _ _ h1689) (by kernel_rfl) rfl rfl rfl rfl (by decide) ?_
          have hh := getI_some h; clear h; obtain ⟨x1691, h1690, h⟩ := hh
          have hh := brn_some h; clear h; rcases hh with ⟨h1692, h⟩ | ⟨h1692, h⟩
          · have hh := bnd'_some h; clear h; obtain ⟨p1693, h1694, h⟩ := hh
            refine W_sound tab_ok mixed 3 _ _ _ ?_
            simp -implicitDefEqProofs only [go_sem, ne_eq, not_false_eq_true, Nat.reduceBEq, Nat.reduceAdd, Nat.reduceSub, Nat.reduceMul, Nat.reduceLT, Nat.reduceLeDiff, Int.reduceLE, Int.reduceLT, Int.reduceToNat, Int.reduceBEq, Int.reduceBNe, Int.le_refl, Nat.le_refl, decide_true, decide_false, Int.cast_ofNat_Int, ↓reduceIte, h1644, h1647, h1654, h1659, h1663, h1665, h1667, h1671, h1675, h1677, h1679, h1681, h1682, h1683, h1686, h1690, h1692]
            repeat with_reducible refine And.intro (by first | kernel_rfl | decide) ?_
            refine Wp_callP (c15 N  _ h1694) (by kernel_rfl) rfl rfl rfl rfl (by decide) ?_
            have hh := getB_some h; clear h; obtain ⟨b1696, h1695, h⟩ := hh
            refine W_sound tab_ok mixed 4 _ _ _ ?_
            simp -implicitDefEqProofs only [go_sem, ne_eq, not_false_eq_true, Nat.reduceBEq, Nat.reduceAdd, Nat.reduceSub, Nat.reduceMul, Nat.reduceLT, Nat.reduceLeDiff, Int.reduceLE, Int.reduceLT, Int.reduceToNat, Int.reduceBEq, Int.reduceBNe, Int.le_refl, Nat.le_refl, decide_true, decide_false, Int.cast_ofNat_Int, ↓reduceIte, h1644, h1647, h1654, h1659, h1663, h1665, h1667, h1671, h1675, h1677, h1679, h1681, h1682, h1683, h1686, h1690, h1692, h1695]
            repeat with_reducible refine And.intro (by first | kernel_rfl | decide) ?_
            obtain rfl := Option.some.inj h
            exact finC [(8, .v (.bool b1696))] [(8, .v (.bool b1696))] (by simp [leE, lk_cons]) (.cons _ _ _ _ _ (.v _ _ (.refl _)) .nil) (by rfl) (by simp [leE, lk_cons]) (by decide) (by decide) rfl (by simp only [go_sem, ne_eq, not_false_eq_true, Nat.reduceBEq, Nat.reduceAdd, Nat.reduceSub, Nat.reduceMul, Nat.reduceLT, Nat.reduceLeDiff, Int.reduceLE, Int.reduceLT, Int.reduceToNat, Int.reduceBEq, Int.reduceBNe, Int.le_refl, Nat.le_refl, decide_true, decide_false, Int.cast_ofNat_Int, ↓reduceIte, resQ_tmp, resQ_cell, resQ_nil, retD_one, retD_two, retD_three, retD_none]; try simp [R.val, retD_one, retD_two, retD_three, retD_none])
          · refine W_sound tab_ok mixed 8 _ _ _ ?_
            simp -implicitDefEqProofs only [go_sem, ne_eq, not_false_eq_true, Nat.reduceBEq, Nat.reduceAdd, Nat.reduceSub, Nat.reduceMul, Nat.reduceLT, Nat.reduceLeDiff, Int.reduceLE, Int.reduceLT, Int.reduceToNat, Int.reduceBEq, Int.reduceBNe, Int.le_refl, Nat.le_refl, decide_true, decide_false, Int.cast_ofNat_Int, ↓reduceIte, h1644, h1647, h1654, h1659, h1663, h1665, h1667, h1671, h1675, h1677, h1679, h1681, h1682, h1683, h1686, h1690, h1692]
            repeat with_reducible refine And.intro (by first | kernel_rfl | decide) ?_
            obtain rfl := Option.some.inj h
            exact finC [(8, .v (.bool false))] [(8, .v (.bool false))] (by simp [leE, lk_cons]) (.cons _ _ _ _ _ (.v _ _ (.refl _)) .nil) (by rfl) (by simp [leE, lk_cons]) (by decide) (by decide) rfl (by simp only [go_sem, ne_eq, not_false_eq_true, Nat.reduceBEq, Nat.reduceAdd, Nat.reduceSub, Nat.reduceMul, Nat.reduceLT, Nat.reduceLeDiff, Int.reduceLE, Int.reduceLT, Int.reduceToNat, Int.reduceBEq, Int.reduceBNe, Int.le_refl, Nat.le_refl, decide_true, decide_false, Int.cast_ofNat_Int, ↓reduceIte, resQ_tmp, resQ_cell, resQ_nil, retD_one, retD_two, retD_three, retD_none]; try simp [R.val, retD_one, retD_two, retD_three, retD_none])
        · refine W_sound tab_ok mixed 42 _ _ _ ?_
          simp -implicitDefEqProofs only [go_sem, ne_eq, not_false_eq_true, Nat.reduceBEq, Nat.reduceAdd, Nat.reduceSub, Nat.reduceMul, Nat.reduceLT, Nat.reduceLeDiff, Int.reduceLE, Int.reduceLT, Int.reduceToNat, Int.reduceBEq, Int.reduceBNe, Int.le_refl, Nat.le_refl, decide_true, decide_false, Int.cast_ofNat_Int, ↓reduceIte, h1644, h1647, h1654, h1659, h1663, h1665, h1667, h1671, h1675, h1677, h1679, h1681, h1682, h1683]
          repeat with_reducible refine And.intro (by first | kernel_rfl | decide) ?_
          obtain rfl := Option.some.inj h
          exact finC [(8, .v (.bool false))] [(8, .v (.bool false))] (by simp [leE, lk_cons]) (.cons _ _ _ _ _ (.v _ _ (.refl _)) .nil) (by rfl) (by simp [leE, lk_cons]) (by decide) (by decide) rfl (by simp only [go_sem, ne_eq, not_false_eq_true, Nat.reduceBEq, Nat.reduceAdd, Nat.reduceSub, Nat.reduceMul, Nat.reduceLT, Nat.reduceLeDiff, Int.reduceLE, Int.reduceLT, Int.reduceToNat, Int.reduceBEq, Int.reduceBNe, Int.le_refl, Nat.le_refl, decide_true, decide_false, Int.cast_ofNat_Int, ↓reduceIte, resQ_tmp, resQ_cell, resQ_nil, retD_one, retD_two, retD_three, retD_none]; try simp [R.val, retD_one, retD_two, retD_three, retD_none])
      · refine W_sound tab_ok mixed 42 _ _ _ ?_
        simp -implicitDefEqProofs only [go_sem, ne_eq, not_false_eq_true, Nat.reduceBEq, Nat.reduceAdd, Nat.reduceSub, Nat.reduceMul, Nat.reduceLT, Nat.reduceLeDiff, Int.reduceLE, Int.reduceLT, Int.reduceToNat, Int.reduceBEq, Int.reduceBNe, Int.le_refl, Nat.le_refl, decide_true, decide_false, Int.cast_ofNat_Int, ↓reduceIte, h1644, h1647, h1654, h1659, h1663, h1665, h1667, h1671, h1675, h1677, h1679, h1681, h1682]
        repeat with_reducible refine And.intro (by first | kernel_rfl | decide) ?_
        obtain rfl := Option.some.inj h
        exact finC [(8, .v (.bool false))] [(8, .v (.bool false))] (by simp [leE, lk_cons]) (.cons _ _ _ _ _ (.v _ _ (.refl _)) .nil) (by rfl) (by simp [leE, lk_cons]) (by decide) (by decide) rfl (by simp only [go_sem, ne_eq, not_false_eq_true, Nat.reduceBEq, Nat.reduceAdd, Nat.reduceSub, Nat.reduceMul, Nat.reduceLT, Nat.reduceLeDiff, Int.reduceLE, Int.reduceLT, Int.reduceToNat, Int.reduceBEq, Int.reduceBNe, Int.le_refl, Nat.le_refl, decide_true, decide_false, Int.cast_ofNat_Int, ↓reduceIte, resQ_tmp, resQ_cell, resQ_nil, retD_one, retD_two, retD_three, retD_none]; try simp [R.val, retD_one, retD_two, retD_three, retD_none])
    · refine W_sound tab_ok mixed 42 _ _ _ ?_
      simp -implicitDefEqProofs only [go_sem, ne_eq, not_false_eq_true, Nat.reduceBEq, Nat.reduceAdd, Nat.reduceSub, Nat.reduceMul, Nat.reduceLT, Nat.reduceLeDiff, Int.reduceLE, Int.reduceLT, Int.reduceToNat, Int.reduceBEq, Int.reduceBNe, Int.le_refl, Nat.le_refl, decide_true, decide_false, Int.cast_ofNat_Int, ↓reduceIte, h1644, h1647, h1654, h1659, h1663, h1665, h1667, h1671, h1675, h1677, h1679, h1681]
      repeat with_reducible refine And.intro (by first | kernel_rfl | decide) ?_
      obtain rfl := Option.some.inj h
      exact finC [(8, .v (.bool false))] [(8, .v (.bool false))] (by simp [leE, lk_cons]) (.cons _ _ _ _ _ (.v _ _ (.refl _)) .nil) (by rfl) (by simp [leE, lk_cons]) (by decide) (by decide) rfl (by simp only [go_sem, ne_eq, not_false_eq_true, Nat.reduceBEq, Nat.reduceAdd, Nat.reduceSub, Nat.reduceMul, Nat.reduceLT, Nat.reduceLeDiff, Int.reduceLE, Int.reduceLT, Int.reduceToNat, Int.reduceBEq, Int.reduceBNe, Int.le_refl, Nat.le_refl, decide_true, decide_false, Int.cast_ofNat_Int, ↓reduceIte, resQ_tmp, resQ_cell, resQ_nil, retD_one, retD_two, retD_three, retD_none]; try simp [R.val, retD_one, retD_two, retD_three, retD_none])
end Go.Proofs.Ytgnphlpoofaojaa
