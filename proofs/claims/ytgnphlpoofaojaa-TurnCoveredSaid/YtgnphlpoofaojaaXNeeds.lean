import Derived.Test.YtgnphlpoofaojaaXCovs
import Derived.Test.YtgnphlpoofaojaaXHulls
import Derived.Test.YtgnphlpoofaojaaB
import Derived.Test.YtgnphlpoofaojaaV33
namespace Go.Proofs.Ytgnphlpoofaojaa
open Go.V
set_option maxRecDepth 100000
set_option maxHeartbeats 4000000
set_option linter.unusedSimpArgs false
set_option linter.unusedVariables false
attribute [local go_sem] tl1 tl2 tl3 tl4 tl5 tl9 tl17 tl21 tl22 tl23 tl24 tl25 tl26 tl27 tl28 tl29 tl31 tl33 tl34 tl36 tl37 tl38 tl39 tl40 tl41 tl42 tl43 tl44 tl46 tl47 tl49 tl50 tl52 tl53 tl54 tl55 tl56 tl57 tl58 tl60 tl62 tl63 tl64 tl65 tl66 tl67 tl68 tl69 tl70 tl71 tl72 tl74 tl75 tl76 tl77 tl78 tl79 tl80 tl81 tl82 tl83 tl84 tl85 tl86 tl87 tl88 tl89 tl90 tl91 tl92 tl93 tl94 tl95 tl96 tl97 tl98 tl99 tl100 tl102 tl103 tl104 tl105 tl106 tl107 tl108 tl109 tl110 tl111 tl112 tl113 tl114 tl115 tl116 tl117 tl118 tl119 tl120 tl121 tl122 tl123 tl124 tl125 tl126 tl127 tl128 tl129 tl130 tl131 tl132 tl133 tl134 tl140 tl141 tl145

def m24 (N : Nat) (p2264 : PV) : Option (PV) :=
  getL p2264 fun n2266 c2267 =>
  bnd' (m22 N (.lst false n2266 c2267)) fun p2268 =>
  getI .i64 p2268 fun x2271 =>
  brn (x2271 != 0) (
    some (.tup [(.lst false 0 []), (.int .i64 x2271)])) (
    bnd' (m65 N (.lst false n2266 c2267)) fun p2273 =>
    getL p2273 fun n2276 c2277 =>
    some (.tup [(.lst false n2276 c2277), (.int .i64 0)]))
theorem c24 (N : Nat) (p2264 : PV) (r : PV)  (h : m24 N p2264 = some r) : FnP Try.prog 24 [p2264] r := by
  unfold m24 at h
  refine Fn_of (sz := 12) tab_ok [0, 2, 3, 4, 8] [.tmp 2, .tmp 3] Try.func24 rfl rfl rfl (by simp) ?_
  simp only [initSt, initEnv, List.map_cons, List.map_nil, List.getD_cons_zero, List.getD_cons_succ, List.getD_nil]
  have hh := getL_some h; clear h; obtain ⟨n2266, c2267, h2265, h⟩ := hh
  have hh := bnd'_some h; clear h; obtain ⟨p2268, h2269, h⟩ := hh
  refine W_sound tab_ok mixed 9 _ _ _ ?_
  simp -implicitDefEqProofs only [go_sem, ne_eq, not_false_eq_true, Nat.reduceBEq, Nat.reduceAdd, Nat.reduceSub, Nat.reduceMul, Nat.reduceLT, Nat.reduceLeDiff, Int.reduceLE, Int.reduceLT, Int.reduceToNat, Int.reduceBEq, Int.reduceBNe, Int.le_refl, Nat.le_refl, decide_true, decide_false, Int.cast_ofNat_Int, ↓reduceIte, h2265]
  repeat with_reducible refine And.intro (by first | kernel_rfl | decide) ?_
  refine Wp_callP (c22 N _ _ h2269) (by kernel_rfl) rfl rfl rfl rfl (by decide) ?_
  have hh := getI_some h; clear h; obtain ⟨x2271, h2270, h⟩ := hh
  have hh := brn_some h; clear h; rcases hh with ⟨h2272, h⟩ | ⟨h2272, h⟩
  · refine W_sound tab_ok mixed 16 _ _ _ ?_
    simp -implicitDefEqProofs only [go_sem, ne_eq, not_false_eq_true, Nat.reduceBEq, Nat.reduceAdd, Nat.reduceSub, Nat.reduceMul, Nat.reduceLT, Nat.reduceLeDiff, Int.reduceLE, Int.reduceLT, Int.reduceToNat, Int.reduceBEq, Int.reduceBNe, Int.le_refl, Nat.le_refl, decide_true, decide_false, Int.cast_ofNat_Int, ↓reduceIte, h2265, h2270, h2272]
    repeat with_reducible refine And.intro (by first | kernel_rfl | decide) ?_
    obtain rfl := Option.some.inj h
    exact finC [(2, .v .nl), (3, .v (.int .i64 x2271))] [(2, .v (.lst false 0 [])), (3, .v (.int .i64 x2271))] (by simp [leE, lk_cons]) (.cons _ _ _ _ _ (.v _ _ (.nl false)) (.cons _ _ _ _ _ (.v _ _ (.refl _)) .nil)) (by rfl) (by simp [leE, lk_cons]) (by decide) (by decide) rfl (by simp only [go_sem, ne_eq, not_false_eq_true, Nat.reduceBEq, Nat.reduceAdd, Nat.reduceSub, Nat.reduceMul, Nat.reduceLT, Nat.reduceLeDiff, Int.reduceLE, Int.reduceLT, Int.reduceToNat, Int.reduceBEq, Int.reduceBNe, Int.le_refl, Nat.le_refl, decide_true, decide_false, Int.cast_ofNat_Int, ↓reduceIte, resQ_tmp, resQ_cell, resQ_nil, retD_one, retD_two, retD_three, retD_none]; try simp [R.val, retD_one, retD_two, retD_three, retD_none])
  · have hh := bnd'_some h; clear h; obtain ⟨p2273, h2274, h⟩ := hh
    refine W_sound tab_ok mixed 12 _ _ _ ?_
    simp -implicitDefEqProofs only [go_sem, ne_eq, not_false_eq_true, Nat.reduceBEq, Nat.reduceAdd, Nat.reduceSub, Nat.reduceMul, Nat.reduceLT, Nat.reduceLeDiff, Int.reduceLE, Int.reduceLT, Int.reduceToNat, Int.reduceBEq, Int.reduceBNe, Int.le_refl, Nat.le_refl, decide_true, decide_false, Int.cast_ofNat_Int, ↓reduceIte, h2265, h2270, h2272]
    repeat with_reducible refine And.intro (by first | kernel_rfl | decide) ?_
    refine Wp_callP (c65 N _ _ h2274) (by kernel_rfl) rfl rfl rfl rfl (by decide) ?_
    have hh := getL_some h; clear h; obtain ⟨n2276, c2277, h2275, h⟩ := hh
    refine W_sound tab_ok mixed 5 _ _ _ ?_
    simp -implicitDefEqProofs only [go_sem, ne_eq, not_false_eq_true, Nat.reduceBEq, Nat.reduceAdd, Nat.reduceSub, Nat.reduceMul, Nat.reduceLT, Nat.reduceLeDiff, Int.reduceLE, Int.reduceLT, Int.reduceToNat, Int.reduceBEq, Int.reduceBNe, Int.le_refl, Nat.le_refl, decide_true, decide_false, Int.cast_ofNat_Int, ↓reduceIte, h2265, h2270, h2272, h2275]
    repeat with_reducible refine And.intro (by first | kernel_rfl | decide) ?_
    obtain rfl := Option.some.inj h
    exact finC [(2, .v (.lst false n2276 c2277)), (3, .v (.int .i64 0))] [(2, .v (.lst false n2276 c2277)), (3, .v (.int .i64 0))] (by simp [leE, lk_cons]) (.cons _ _ _ _ _ (.v _ _ (.refl _)) (.cons _ _ _ _ _ (.v _ _ (.refl _)) .nil)) (by rfl) (by simp [leE, lk_cons]) (by decide) (by decide) rfl (by simp only [go_sem, ne_eq, not_false_eq_true, Nat.reduceBEq, Nat.reduceAdd, Nat.reduceSub, Nat.reduceMul, Nat.reduceLT, Nat.reduceLeDiff, Int.reduceLE, Int.reduceLT, Int.reduceToNat, Int.reduceBEq, Int.reduceBNe, Int.le_refl, Nat.le_refl, decide_true, decide_false, Int.cast_ofNat_Int, ↓reduceIte, resQ_tmp, resQ_cell, resQ_nil, retD_one, retD_two, retD_three, retD_none]; try simp [R.val, retD_one, retD_two, retD_three, retD_none])

end Go.Proofs.Ytgnphlpoofaojaa
