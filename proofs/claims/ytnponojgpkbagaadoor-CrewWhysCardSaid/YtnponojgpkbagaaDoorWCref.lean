/-
  Who is joined with whom: ranks of lists of pairs.
  Groups by breadth search are the groups by joining.
  The least list that has a property: looked for among all of them in any order, or in order.
  Crews as the functions of the chapter see them: pairs joined one after the other; ranks; checks.
  Crews are checked; lists of kinds; Rank.
  Groups, as the reference counts them.
  The reference: Check, listed, Rank.
-/
import Derived.Test.YtnponojgpkbagaaDoorWChkA
import Derived.Test.YtnponojgpkbagaaDoorWChkC
import Derived.Test.YtnponojgpkbagaaDoorB
import Derived.Test.YtnponojgpkbagaaDoorV35
namespace Go.Proofs.YtnponojgpkbagaaDoor
open Go.V
set_option maxRecDepth 100000
set_option maxHeartbeats 4000000
set_option linter.unusedSimpArgs false
set_option linter.unusedVariables false
attribute [local go_sem] tl1 tl2 tl3 tl4 tl5 tl9 tl17 tl21 tl22 tl23 tl24 tl25 tl26 tl27 tl28 tl29 tl31 tl32 tl34 tl35 tl36 tl37 tl38 tl39 tl40 tl41 tl42 tl43 tl44 tl45 tl47 tl48 tl49 tl50 tl51 tl52 tl53 tl54 tl55 tl56 tl57 tl58 tl59 tl60 tl61 tl62 tl63 tl64 tl65 tl66 tl67 tl68 tl69 tl70 tl71 tl72 tl73 tl74 tl75 tl76 tl77 tl78 tl79 tl80 tl81 tl82 tl83 tl84 tl85 tl86 tl87 tl88 tl89 tl90 tl92 tl94 tl95 tl96 tl97 tl98 tl99 tl100 tl101 tl102 tl103 tl104 tl105 tl106 tl107 tl108 tl109 tl110 tl111 tl112 tl113 tl114 tl115 tl116 tl118 tl119 tl121 tl122 tl123 tl124 tl125 tl126 tl127 tl128 tl129 tl131 tl133 tl134 tl135 tl136 tl142 tl146

def m86 (N : Nat) (p2424 : PV) (p2425 : PV) : Option (PV) :=
  getA2 p2424 fun p2427 p2428 =>
  getL p2425 fun n2430 c2431 =>
  bnd' (m64 N (.agg [p2427, p2428]) (.lst false n2430 c2431)) fun p2432 =>
  getI .i64 p2432 fun x2435 =>
  some (.bool (decide (x2435 < ((n2430 : Nat) : Int))))
theorem c86 (N : Nat) (p2424 : PV) (p2425 : PV) (r : PV)  (h : m86 N p2424 p2425 = some r) : FnP Tryd.prog 86 [p2424, p2425] r := by
  unfold m86 at h
  refine Fn_of (sz := 11) tab_ok [0, 1, 2, 4] [.tmp 4] Tryd.func86 rfl rfl rfl (by simp) ?_
  simp only [initSt, initEnv, List.map_cons, List.map_nil, List.getD_cons_zero, List.getD_cons_succ, List.getD_nil]
  have hh := getA2_some h; clear h; obtain ⟨p2427, p2428, h2426, h⟩ := hh
  have hh := getL_some h; clear h; obtain ⟨n2430, c2431, h2429, h⟩ := hh
  have hh := bnd'_some h; clear h; obtain ⟨p2432, h2433, h⟩ := hh
  refine W_sound tab_ok mixed 9 _ _ _ ?_
  simp -implicitDefEqProofs only [go_sem, ne_eq, not_false_eq_true, Nat.reduceBEq, Nat.reduceAdd, Nat.reduceSub, Nat.reduceMul, Nat.reduceLT, Nat.reduceLeDiff, Int.reduceLE, Int.reduceLT, Int.reduceToNat, Int.reduceBEq, Int.reduceBNe, Int.le_refl, Nat.le_refl, decide_true, decide_false, Int.cast_ofNat_Int, ↓reduceIte, h2426, h2429]
  repeat with_reducible refine And.intro (by first | kernel_rfl | decide) ?_
  refine Wp_callP (c64 N _ _ _ h2433) (by kernel_rfl) rfl rfl rfl rfl (by decide) ?_
  have hh := getI_some h; clear h; obtain ⟨x2435, h2434, h⟩ := hh
  refine W_sound tab_ok mixed 7 _ _ _ ?_
  simp -implicitDefEqProofs only [go_sem, ne_eq, not_false_eq_true, Nat.reduceBEq, Nat.reduceAdd, Nat.reduceSub, Nat.reduceMul, Nat.reduceLT, Nat.reduceLeDiff, Int.reduceLE, Int.reduceLT, Int.reduceToNat, Int.reduceBEq, Int.reduceBNe, Int.le_refl, Nat.le_refl, decide_true, decide_false, Int.cast_ofNat_Int, ↓reduceIte, h2426, h2429, h2434]
  repeat with_reducible refine And.intro (by first | kernel_rfl | decide) ?_
  obtain rfl := Option.some.inj h
  exact finC [(4, .v (.bool (decide (x2435 < ((n2430 : Nat) : Int)))))] [(4, .v (.bool (decide (x2435 < ((n2430 : Nat) : Int)))))] (by simp [leE, lk_cons]) (.cons _ _ _ _ _ (.v _ _ (.refl _)) .nil) (by rfl) (by simp [leE, lk_cons]) (by decide) (by decide) rfl (by simp only [go_sem, ne_eq, not_false_eq_true, Nat.reduceBEq, Nat.reduceAdd, Nat.reduceSub, Nat.reduceMul, Nat.reduceLT, Nat.reduceLeDiff, Int.reduceLE, Int.reduceLT, Int.reduceToNat, Int.reduceBEq, Int.reduceBNe, Int.le_refl, Nat.le_refl, decide_true, decide_false, Int.cast_ofNat_Int, ↓reduceIte, resQ_tmp, resQ_cell, resQ_nil, retD_one, retD_two, retD_three, retD_none]; try simp [R.val, retD_one, retD_two, retD_three, retD_none])

def m68_2_L0 (N : Nat) (x2413 : Int) (b2414 : Bool) (p2415 : PV) : Nat → PV → Int → Option (PV)
  | 0, _, _ => none
  | n + 1, p2441, x2442 =>
    brn (decide (x2442 < (IntKind.u64.wrap (1 * 2 ^ (min (Int.toNat x2413) 64))))) (
      bnd' (m77 N x2442) fun p2444 =>
      getL p2444 fun n2447 c2448 =>
      bnd' (m86 N p2415 (.lst false n2447 c2448)) fun p2449 =>
      getB p2449 fun b2452 =>
      brn b2452 (
        getIf 1000025 p2441 (
          m68_2_L0 N x2413 b2414 p2415 n (.fn 1000025 [(.lst false n2447 c2448)]) (IntKind.u64.wrap (x2442 + 1))) fun p2455 =>
        getL p2455 fun n2457 c2458 =>
        brn (((n2447 : Nat) : Int) == ((n2457 : Nat) : Int)) (
          bnd' (m47 N (.lst false n2447 c2448) (.lst false n2457 c2458)) fun p2460 =>
          getI .i64 p2460 fun x2463 =>
          brn (decide (x2463 < 0)) (
            m68_2_L0 N x2413 b2414 p2415 n (.fn 1000025 [(.lst false n2447 c2448)]) (IntKind.u64.wrap (x2442 + 1))) (
            brn (((n2447 : Nat) : Int) != ((n2457 : Nat) : Int)) (
              brn ((decide (((n2447 : Nat) : Int) > ((n2457 : Nat) : Int))) == b2414) (
                m68_2_L0 N x2413 b2414 p2415 n (.fn 1000025 [(.lst false n2447 c2448)]) (IntKind.u64.wrap (x2442 + 1))) (
                m68_2_L0 N x2413 b2414 p2415 n (.fn 1000025 [(.lst false n2457 c2458)]) (IntKind.u64.wrap (x2442 + 1)))) (
              m68_2_L0 N x2413 b2414 p2415 n (.fn 1000025 [(.lst false n2457 c2458)]) (IntKind.u64.wrap (x2442 + 1))))) (
          brn (((n2447 : Nat) : Int) != ((n2457 : Nat) : Int)) (
            brn ((decide (((n2447 : Nat) : Int) > ((n2457 : Nat) : Int))) == b2414) (
              m68_2_L0 N x2413 b2414 p2415 n (.fn 1000025 [(.lst false n2447 c2448)]) (IntKind.u64.wrap (x2442 + 1))) (
              m68_2_L0 N x2413 b2414 p2415 n (.fn 1000025 [(.lst false n2457 c2458)]) (IntKind.u64.wrap (x2442 + 1)))) (
            m68_2_L0 N x2413 b2414 p2415 n (.fn 1000025 [(.lst false n2457 c2458)]) (IntKind.u64.wrap (x2442 + 1))))) (
        m68_2_L0 N x2413 b2414 p2415 n p2441 (IntKind.u64.wrap (x2442 + 1)))) (
      some p2441)
def m68_2 (N : Nat) (x2413 : Int) (b2414 : Bool) (p2415 : PV) : Option (PV) :=
  grd (0 ≤ x2413) <|
  bnd' (m68_2_L0 N x2413 b2414 p2415 N (.fn 999999 []) 0) fun p2469 =>
  getIf 1000025 p2469 (
    some (.tup [(.lst false 0 []), (.bool false)])) fun p2471 =>
  getL p2471 fun n2473 c2474 =>
  some (.tup [(.lst false n2473 c2474), (.bool true)])
theorem c68_2 (N : Nat) (x2413 : Int) (b2414 : Bool) (p2415 : PV) (r : PV)  (h : m68_2 N x2413 b2414 p2415 = some r) : FnP Tryd.prog 68 [(.int .i64 x2413), (.bool b2414), (.fn 999999 [(.fn 86 []), p2415])] r := by
  unfold m68_2 at h
  refine Fn_of (sz := 74) tab_ok [0, 1, 2, 6, 7, 8, 9, 10, 11, 12, 13, 14, 15, 17, 18, 19, 26, 63] [.tmp 6, .tmp 7] Tryd.func68 rfl rfl rfl (by simp) ?_
  simp only [initSt, initEnv, List.map_cons, List.map_nil, List.getD_cons_zero, List.getD_cons_succ, List.getD_nil]
  have hh := grd_some h; clear h; obtain ⟨g2416, h⟩ := hh
  refine W_sound tab_ok mixed 16 _ _ _ ?_
  simp -implicitDefEqProofs only [go_sem, ne_eq, not_false_eq_true, Nat.reduceBEq, Nat.reduceAdd, Nat.reduceSub, Nat.reduceMul, Nat.reduceLT, Nat.reduceLeDiff, Int.reduceLE, Int.reduceLT, Int.reduceToNat, Int.reduceBEq, Int.reduceBNe, Int.le_refl, Nat.le_refl, decide_true, decide_false, Int.cast_ofNat_Int, ↓reduceIte, g2416]
  repeat with_reducible refine And.intro (by first | kernel_rfl | decide) ?_
  have hh := bnd'_some h; clear h; obtain ⟨o2475, h2476, h2477⟩ := hh
  refine Wp_cut (fun s => ∃ p2469, p2469 = o2475 ∧ s = ⟨[], [(0, .dead), (1, .dead), (2, .dead), (6, .dead), (7, .dead), (8, .v p2469), (9, .dead), (10, .dead), (11, .dead), (12, .dead), (13, .dead), (14, .dead), (15, .dead), (17, .dead), (18, .dead), (19, .dead), (26, .dead), (63, .dead)], [], 0, []⟩) ?_ ?_
  · refine Wp_block ?_
    refine Wp_loopG (fun n s => ∃ p2441, ∃ x2442, m68_2_L0 N x2413 b2414 p2415 n p2441 x2442 = some o2475 ∧ s = ⟨[], [(0, .dead), (1, .v (.bool b2414)), (2, .v (.fn 999999 [(.fn 86 []), p2415])), (6, .dead), (7, .dead), (8, .v p2441), (9, .dead), (10, .dead), (11, .dead), (12, .dead), (13, .dead), (14, .dead), (15, .dead), (17, .v (.int .u64 (IntKind.u64.wrap (1 * 2 ^ (min (Int.toNat x2413) 64))))), (18, .v (.int .u64 x2442)), (19, .dead), (26, .dead), (63, .dead)], [], 0, []⟩) N _ ((Wk_le (.cons _ _ _ _ _ (.dead _) (.cons _ _ _ _ _ (.refl _) (.cons _ _ _ _ _ (.refl _) (.cons _ _ _ _ _ (.dead _) (.cons _ _ _ _ _ (.dead _) (.cons _ _ _ _ _ (.refl _) (.cons _ _ _ _ _ (.refl _) (.cons _ _ _ _ _ (.refl _) (.cons _ _ _ _ _ (.refl _) (.cons _ _ _ _ _ (.refl _) (.cons _ _ _ _ _ (.refl _) (.cons _ _ _ _ _ (.refl _) (.cons _ _ _ _ _ (.refl _) (.cons _ _ _ _ _ (.refl _) (.cons _ _ _ _ _ (.refl _) (.cons _ _ _ _ _ (.refl _) (.cons _ _ _ _ _ (.refl _) (.cons _ _ _ _ _ (.refl _) .nil)))))))))))))))))) (OLe.refl _)).trans (cmpS_ok (st' := ⟨[], [(0, .dead), (1, .v (.bool b2414)), (2, .v (.fn 999999 [(.fn 86 []), p2415])), (6, .dead), (7, .dead), (8, .v (.fn 999999 [])), (9, .dead), (10, .dead), (11, .dead), (12, .dead), (13, .dead), (14, .dead), (15, .dead), (17, .v (.int .u64 (IntKind.u64.wrap (1 * 2 ^ (min (Int.toNat x2413) 64))))), (18, .v (.int .u64 0)), (19, .dead), (26, .dead), (63, .dead)], [], 0, []⟩) (by kernel_rfl))) ⟨_, _, h2476, rfl⟩ ?_
    clear h2476
    rintro n _ ⟨p2441, x2442, h2476, rfl⟩
    cases n with
    | zero => cases h2476
    | succ n =>
      rw [m68_2_L0] at h2476
      have hh := brn_some h2476; clear h2476; rcases hh with ⟨h2443, h2476⟩ | ⟨h2443, h2476⟩
      · have hh := bnd'_some h2476; clear h2476; obtain ⟨p2444, h2445, h2476⟩ := hh
        refine W_sound tab_ok mixed 17 _ _ _ ?_
        simp -implicitDefEqProofs only [go_sem, ne_eq, not_false_eq_true, Nat.reduceBEq, Nat.reduceAdd, Nat.reduceSub, Nat.reduceMul, Nat.reduceLT, Nat.reduceLeDiff, Int.reduceLE, Int.reduceLT, Int.reduceToNat, Int.reduceBEq, Int.reduceBNe, Int.le_refl, Nat.le_refl, decide_true, decide_false, Int.cast_ofNat_Int, ↓reduceIte, g2416, h2443]
        repeat with_reducible refine And.intro (by first | kernel_rfl | decide) ?_
        refine Wp_callP (c77 N _ _ h2445) (by kernel_rfl) rfl rfl rfl rfl (by decide) ?_
        have hh := getL_some h2476; clear h2476; obtain ⟨n2447, c2448, h2446, h2476⟩ := hh
        have hh := bnd'_some h2476; clear h2476; obtain ⟨p2449, h2450, h2476⟩ := hh
        refine W_sound tab_ok mixed 7 _ _ _ ?_
        simp -implicitDefEqProofs only [go_sem, ne_eq, not_false_eq_true, Nat.reduceBEq, Nat.reduceAdd, Nat.reduceSub, Nat.reduceMul, Nat.reduceLT, Nat.reduceLeDiff, Int.reduceLE, Int.reduceLT, Int.reduceToNat, Int.reduceBEq, Int.reduceBNe, Int.le_refl, Nat.le_refl, decide_true, decide_false, Int.cast_ofNat_Int, ↓reduceIte, g2416, h2443, h2446]
        repeat with_reducible refine And.intro (by first | kernel_rfl | decide) ?_
        refine Wp_callP (c86 N _ _ _ h2450) (by kernel_rfl) rfl rfl rfl rfl (by decide) ?_
        have hh := getB_some h2476; clear h2476; obtain ⟨b2452, h2451, h2476⟩ := hh
        have hh := brn_some h2476; clear h2476; rcases hh with ⟨h2453, h2476⟩ | ⟨h2453, h2476⟩
        · have hh := getIf_some h2476; clear h2476; rcases hh with ⟨h2454, h2476⟩ | ⟨p2455, h2454, h2476⟩
          · refine W_sound tab_ok mixed 64 _ _ _ ?_
            simp -implicitDefEqProofs only [go_sem, ne_eq, not_false_eq_true, Nat.reduceBEq, Nat.reduceAdd, Nat.reduceSub, Nat.reduceMul, Nat.reduceLT, Nat.reduceLeDiff, Int.reduceLE, Int.reduceLT, Int.reduceToNat, Int.reduceBEq, Int.reduceBNe, Int.le_refl, Nat.le_refl, decide_true, decide_false, Int.cast_ofNat_Int, ↓reduceIte, g2416, h2443, h2446, h2451, h2453, h2454]
            repeat with_reducible refine And.intro (by first | kernel_rfl | decide) ?_
            exact cutQ _ ((Wk_le (.cons _ _ _ _ _ (.refl _) (.cons _ _ _ _ _ (.refl _) (.cons _ _ _ _ _ (.refl _) (.cons _ _ _ _ _ (.refl _) (.cons _ _ _ _ _ (.refl _) (.cons _ _ _ _ _ (.refl _) (.cons _ _ _ _ _ (.dead _) (.cons _ _ _ _ _ (.dead _) (.cons _ _ _ _ _ (.dead _) (.cons _ _ _ _ _ (.dead _) (.cons _ _ _ _ _ (.dead _) (.cons _ _ _ _ _ (.refl _) (.cons _ _ _ _ _ (.refl _) (.cons _ _ _ _ _ (.refl _) (.cons _ _ _ _ _ (.refl _) (.cons _ _ _ _ _ (.dead _) (.cons _ _ _ _ _ (.dead _) (.cons _ _ _ _ _ (.dead _) .nil)))))))))))))))))) (OLe.refl _)).trans (cmpS_ok (st' := ⟨[], [(0, .dead), (1, .v (.bool b2414)), (2, .v (.fn 999999 [(.fn 86 []), p2415])), (6, .dead), (7, .dead), (8, .v (.fn 1000025 [(.lst false n2447 c2448)])), (9, .dead), (10, .dead), (11, .dead), (12, .dead), (13, .dead), (14, .dead), (15, .dead), (17, .v (.int .u64 (IntKind.u64.wrap (1 * 2 ^ (min (Int.toNat x2413) 64))))), (18, .v (.int .u64 (IntKind.u64.wrap (x2442 + 1)))), (19, .dead), (26, .dead), (63, .dead)], [], 0, []⟩) (by kernel_rfl))) ⟨n, Nat.lt_succ_self n, _, _, h2476, rfl⟩
          · have hh := getL_some h2476; clear h2476; obtain ⟨n2457, c2458, h2456, h2476⟩ := hh
            have hh := brn_some h2476; clear h2476; rcases hh with ⟨h2459, h2476⟩ | ⟨h2459, h2476⟩
            · have hh := bnd'_some h2476; clear h2476; obtain ⟨p2460, h2461, h2476⟩ := hh
              refine W_sound tab_ok mixed 27 _ _ _ ?_
              simp -implicitDefEqProofs only [go_sem, ne_eq, not_false_eq_true, Nat.reduceBEq, Nat.reduceAdd, Nat.reduceSub, Nat.reduceMul, Nat.reduceLT, Nat.reduceLeDiff, Int.reduceLE, Int.reduceLT, Int.reduceToNat, Int.reduceBEq, Int.reduceBNe, Int.le_refl, Nat.le_refl, decide_true, decide_false, Int.cast_ofNat_Int, ↓reduceIte, g2416, h2443, h2446, h2451, h2453, h2454, h2456, h2459]
              repeat with_reducible refine And.intro (by first | kernel_rfl | decide) ?_
              refine Wp_callP (c47 N _ _ _ h2461) (by kernel_rfl) rfl rfl rfl rfl (by decide) ?_
              have hh := getI_some h2476; clear h2476; obtain ⟨x2463, h2462, h2476⟩ := hh
              have hh := brn_some h2476; clear h2476; rcases hh with ⟨h2464, h2476⟩ | ⟨h2464, h2476⟩
              · refine W_sound tab_ok mixed 36 _ _ _ ?_
                simp -implicitDefEqProofs only [go_sem, ne_eq, not_false_eq_true, Nat.reduceBEq, Nat.reduceAdd, Nat.reduceSub, Nat.reduceMul, Nat.reduceLT, Nat.reduceLeDiff, Int.reduceLE, Int.reduceLT, Int.reduceToNat, Int.reduceBEq, Int.reduceBNe, Int.le_refl, Nat.le_refl, decide_true, decide_false, Int.cast_ofNat_Int, ↓reduceIte, g2416, h2443, h2446, h2451, h2453, h2454, h2456, h2459, h2462, h2464]
                repeat with_reducible refine And.intro (by first | kernel_rfl | decide) ?_
                exact cutQ _ ((Wk_le (.cons _ _ _ _ _ (.refl _) (.cons _ _ _ _ _ (.refl _) (.cons _ _ _ _ _ (.refl _) (.cons _ _ _ _ _ (.refl _) (.cons _ _ _ _ _ (.refl _) (.cons _ _ _ _ _ (.refl _) (.cons _ _ _ _ _ (.dead _) (.cons _ _ _ _ _ (.dead _) (.cons _ _ _ _ _ (.dead _) (.cons _ _ _ _ _ (.dead _) (.cons _ _ _ _ _ (.dead _) (.cons _ _ _ _ _ (.refl _) (.cons _ _ _ _ _ (.refl _) (.cons _ _ _ _ _ (.refl _) (.cons _ _ _ _ _ (.refl _) (.cons _ _ _ _ _ (.dead _) (.cons _ _ _ _ _ (.dead _) (.cons _ _ _ _ _ (.dead _) .nil)))))))))))))))))) (OLe.refl _)).trans (cmpS_ok (st' := ⟨[], [(0, .dead), (1, .v (.bool b2414)), (2, .v (.fn 999999 [(.fn 86 []), p2415])), (6, .dead), (7, .dead), (8, .v (.fn 1000025 [(.lst false n2447 c2448)])), (9, .dead), (10, .dead), (11, .dead), (12, .dead), (13, .dead), (14, .dead), (15, .dead), (17, .v (.int .u64 (IntKind.u64.wrap (1 * 2 ^ (min (Int.toNat x2413) 64))))), (18, .v (.int .u64 (IntKind.u64.wrap (x2442 + 1)))), (19, .dead), (26, .dead), (63, .dead)], [], 0, []⟩) (by kernel_rfl))) ⟨n, Nat.lt_succ_self n, _, _, h2476, rfl⟩
              · have hh := brn_some h2476; clear h2476; rcases hh with ⟨h2465, h2476⟩ | ⟨h2465, h2476⟩
                · have hh := brn_some h2476; clear h2476; rcases hh with ⟨h2466, h2476⟩ | ⟨h2466, h2476⟩
                  · refine W_sound tab_ok mixed 36 _ _ _ ?_
                    simp -implicitDefEqProofs only [go_sem, ne_eq, not_false_eq_true, Nat.reduceBEq, Nat.reduceAdd, Nat.reduceSub, Nat.reduceMul, Nat.reduceLT, Nat.reduceLeDiff, Int.reduceLE, Int.reduceLT, Int.reduceToNat, Int.reduceBEq, Int.reduceBNe, Int.le_refl, Nat.le_refl, decide_true, decide_false, Int.cast_ofNat_Int, ↓reduceIte, g2416, h2443, h2446, h2451, h2453, h2454, h2456, h2459, h2462, h2464, h2465, h2466]
                    repeat with_reducible refine And.intro (by first | kernel_rfl | decide) ?_
                    exact cutQ _ ((Wk_le (.cons _ _ _ _ _ (.refl _) (.cons _ _ _ _ _ (.refl _) (.cons _ _ _ _ _ (.refl _) (.cons _ _ _ _ _ (.refl _) (.cons _ _ _ _ _ (.refl _) (.cons _ _ _ _ _ (.refl _) (.cons _ _ _ _ _ (.dead _) (.cons _ _ _ _ _ (.dead _) (.cons _ _ _ _ _ (.dead _) (.cons _ _ _ _ _ (.dead _) (.cons _ _ _ _ _ (.dead _) (.cons _ _ _ _ _ (.refl _) (.cons _ _ _ _ _ (.refl _) (.cons _ _ _ _ _ (.refl _) (.cons _ _ _ _ _ (.refl _) (.cons _ _ _ _ _ (.dead _) (.cons _ _ _ _ _ (.dead _) (.cons _ _ _ _ _ (.dead _) .nil)))))))))))))))))) (OLe.refl _)).trans (cmpS_ok (st' := ⟨[], [(0, .dead), (1, .v (.bool b2414)), (2, .v (.fn 999999 [(.fn 86 []), p2415])), (6, .dead), (7, .dead), (8, .v (.fn 1000025 [(.lst false n2447 c2448)])), (9, .dead), (10, .dead), (11, .dead), (12, .dead), (13, .dead), (14, .dead), (15, .dead), (17, .v (.int .u64 (IntKind.u64.wrap (1 * 2 ^ (min (Int.toNat x2413) 64))))), (18, .v (.int .u64 (IntKind.u64.wrap (x2442 + 1)))), (19, .dead), (26, .dead), (63, .dead)], [], 0, []⟩) (by kernel_rfl))) ⟨n, Nat.lt_succ_self n, _, _, h2476, rfl⟩
                  · refine W_sound tab_ok mixed 32 _ _ _ ?_
                    simp -implicitDefEqProofs only [go_sem, ne_eq, not_false_eq_true, Nat.reduceBEq, Nat.reduceAdd, Nat.reduceSub, Nat.reduceMul, Nat.reduceLT, Nat.reduceLeDiff, Int.reduceLE, Int.reduceLT, Int.reduceToNat, Int.reduceBEq, Int.reduceBNe, Int.le_refl, Nat.le_refl, decide_true, decide_false, Int.cast_ofNat_Int, ↓reduceIte, g2416, h2443, h2446, h2451, h2453, h2454, h2456, h2459, h2462, h2464, h2465, h2466]
                    repeat with_reducible refine And.intro (by first | kernel_rfl | decide) ?_
                    exact cutQ _ ((Wk_le (.cons _ _ _ _ _ (.refl _) (.cons _ _ _ _ _ (.refl _) (.cons _ _ _ _ _ (.refl _) (.cons _ _ _ _ _ (.refl _) (.cons _ _ _ _ _ (.refl _) (.cons _ _ _ _ _ (.refl _) (.cons _ _ _ _ _ (.dead _) (.cons _ _ _ _ _ (.dead _) (.cons _ _ _ _ _ (.dead _) (.cons _ _ _ _ _ (.dead _) (.cons _ _ _ _ _ (.dead _) (.cons _ _ _ _ _ (.refl _) (.cons _ _ _ _ _ (.refl _) (.cons _ _ _ _ _ (.refl _) (.cons _ _ _ _ _ (.refl _) (.cons _ _ _ _ _ (.dead _) (.cons _ _ _ _ _ (.dead _) (.cons _ _ _ _ _ (.dead _) .nil)))))))))))))))))) (OLe.refl _)).trans (cmpS_ok (st' := ⟨[], [(0, .dead), (1, .v (.bool b2414)), (2, .v (.fn 999999 [(.fn 86 []), p2415])), (6, .dead), (7, .dead), (8, .v (.fn 1000025 [(.lst false n2457 c2458)])), (9, .dead), (10, .dead), (11, .dead), (12, .dead), (13, .dead), (14, .dead), (15, .dead), (17, .v (.int .u64 (IntKind.u64.wrap (1 * 2 ^ (min (Int.toNat x2413) 64))))), (18, .v (.int .u64 (IntKind.u64.wrap (x2442 + 1)))), (19, .dead), (26, .dead), (63, .dead)], [], 0, []⟩) (by kernel_rfl))) ⟨n, Nat.lt_succ_self n, _, _, h2476, rfl⟩
                · refine W_sound tab_ok mixed 32 _ _ _ ?_
                  simp -implicitDefEqProofs only [go_sem, ne_eq, not_false_eq_true, Nat.reduceBEq, Nat.reduceAdd, Nat.reduceSub, Nat.reduceMul, Nat.reduceLT, Nat.reduceLeDiff, Int.reduceLE, Int.reduceLT, Int.reduceToNat, Int.reduceBEq, Int.reduceBNe, Int.le_refl, Nat.le_refl, decide_true, decide_false, Int.cast_ofNat_Int, ↓reduceIte, g2416, h2443, h2446, h2451, h2453, h2454, h2456, h2459, h2462, h2464, h2465]
                  repeat with_reducible refine And.intro (by first | kernel_rfl | decide) ?_
                  exact cutQ _ ((Wk_le (.cons _ _ _ _ _ (.refl _) (.cons _ _ _ _ _ (.refl _) (.cons _ _ _ _ _ (.refl _) (.cons _ _ _ _ _ (.refl _) (.cons _ _ _ _ _ (.refl _) (.cons _ _ _ _ _ (.refl _) (.cons _ _ _ _ _ (.dead _) (.cons _ _ _ _ _ (.dead _) (.cons _ _ _ _ _ (.dead _) (.cons _ _ _ _ _ (.dead _) (.cons _ _ _ _ _ (.dead _) (.cons _ _ _ _ _ (.refl _) (.cons _ _ _ _ _ (.refl _) (.cons _ _ _ _ _ (.refl _) (.cons _ _ _ _ _ (.refl _) (.cons _ _ _ _ _ (.dead _) (.cons _ _ _ _ _ (.dead _) (.cons _ _ _ _ _ (.dead _) .nil)))))))))))))))))) (OLe.refl _)).trans (cmpS_ok (st' := ⟨[], [(0, .dead), (1, .v (.bool b2414)), (2, .v (.fn 999999 [(.fn 86 []), p2415])), (6, .dead), (7, .dead), (8, .v (.fn 1000025 [(.lst false n2457 c2458)])), (9, .dead), (10, .dead), (11, .dead), (12, .dead), (13, .dead), (14, .dead), (15, .dead), (17, .v (.int .u64 (IntKind.u64.wrap (1 * 2 ^ (min (Int.toNat x2413) 64))))), (18, .v (.int .u64 (IntKind.u64.wrap (x2442 + 1)))), (19, .dead), (26, .dead), (63, .dead)], [], 0, []⟩) (by kernel_rfl))) ⟨n, Nat.lt_succ_self n, _, _, h2476, rfl⟩
            · have hh := brn_some h2476; clear h2476; rcases hh with ⟨h2467, h2476⟩ | ⟨h2467, h2476⟩
              · have hh := brn_some h2476; clear h2476; rcases hh with ⟨h2468, h2476⟩ | ⟨h2468, h2476⟩
                · refine W_sound tab_ok mixed 64 _ _ _ ?_
                  simp -implicitDefEqProofs only [go_sem, ne_eq, not_false_eq_true, Nat.reduceBEq, Nat.reduceAdd, Nat.reduceSub, Nat.reduceMul, Nat.reduceLT, Nat.reduceLeDiff, Int.reduceLE, Int.reduceLT, Int.reduceToNat, Int.reduceBEq, Int.reduceBNe, Int.le_refl, Nat.le_refl, decide_true, decide_false, Int.cast_ofNat_Int, ↓reduceIte, g2416, h2443, h2446, h2451, h2453, h2454, h2456, h2459, h2467, h2468]
                  repeat with_reducible refine And.intro (by first | kernel_rfl | decide) ?_
                  exact cutQ _ ((Wk_le (.cons _ _ _ _ _ (.refl _) (.cons _ _ _ _ _ (.refl _) (.cons _ _ _ _ _ (.refl _) (.cons _ _ _ _ _ (.refl _) (.cons _ _ _ _ _ (.refl _) (.cons _ _ _ _ _ (.refl _) (.cons _ _ _ _ _ (.dead _) (.cons _ _ _ _ _ (.dead _) (.cons _ _ _ _ _ (.dead _) (.cons _ _ _ _ _ (.dead _) (.cons _ _ _ _ _ (.dead _) (.cons _ _ _ _ _ (.refl _) (.cons _ _ _ _ _ (.refl _) (.cons _ _ _ _ _ (.refl _) (.cons _ _ _ _ _ (.refl _) (.cons _ _ _ _ _ (.dead _) (.cons _ _ _ _ _ (.dead _) (.cons _ _ _ _ _ (.dead _) .nil)))))))))))))))))) (OLe.refl _)).trans (cmpS_ok (st' := ⟨[], [(0, .dead), (1, .v (.bool b2414)), (2, .v (.fn 999999 [(.fn 86 []), p2415])), (6, .dead), (7, .dead), (8, .v (.fn 1000025 [(.lst false n2447 c2448)])), (9, .dead), (10, .dead), (11, .dead), (12, .dead), (13, .dead), (14, .dead), (15, .dead), (17, .v (.int .u64 (IntKind.u64.wrap (1 * 2 ^ (min (Int.toNat x2413) 64))))), (18, .v (.int .u64 (IntKind.u64.wrap (x2442 + 1)))), (19, .dead), (26, .dead), (63, .dead)], [], 0, []⟩) (by kernel_rfl))) ⟨n, Nat.lt_succ_self n, _, _, h2476, rfl⟩
                · refine W_sound tab_ok mixed 60 _ _ _ ?_
                  simp -implicitDefEqProofs only [go_sem, ne_eq, not_false_eq_true, Nat.reduceBEq, Nat.reduceAdd, Nat.reduceSub, Nat.reduceMul, Nat.reduceLT, Nat.reduceLeDiff, Int.reduceLE, Int.reduceLT, Int.reduceToNat, Int.reduceBEq, Int.reduceBNe, Int.le_refl, Nat.le_refl, decide_true, decide_false, Int.cast_ofNat_Int, ↓reduceIte, g2416, h2443, h2446, h2451, h2453, h2454, h2456, h2459, h2467, h2468]
                  repeat with_reducible refine And.intro (by first | kernel_rfl | decide) ?_
                  exact cutQ _ ((Wk_le (.cons _ _ _ _ _ (.refl _) (.cons _ _ _ _ _ (.refl _) (.cons _ _ _ _ _ (.refl _) (.cons _ _ _ _ _ (.refl _) (.cons _ _ _ _ _ (.refl _) (.cons _ _ _ _ _ (.refl _) (.cons _ _ _ _ _ (.dead _) (.cons _ _ _ _ _ (.dead _) (.cons _ _ _ _ _ (.dead _) (.cons _ _ _ _ _ (.dead _) (.cons _ _ _ _ _ (.dead _) (.cons _ _ _ _ _ (.refl _) (.cons _ _ _ _ _ (.refl _) (.cons _ _ _ _ _ (.refl _) (.cons _ _ _ _ _ (.refl _) (.cons _ _ _ _ _ (.dead _) (.cons _ _ _ _ _ (.dead _) (.cons _ _ _ _ _ (.dead _) .nil)))))))))))))))))) (OLe.refl _)).trans (cmpS_ok (st' := ⟨[], [(0, .dead), (1, .v (.bool b2414)), (2, .v (.fn 999999 [(.fn 86 []), p2415])), (6, .dead), (7, .dead), (8, .v (.fn 1000025 [(.lst false n2457 c2458)])), (9, .dead), (10, .dead), (11, .dead), (12, .dead), (13, .dead), (14, .dead), (15, .dead), (17, .v (.int .u64 (IntKind.u64.wrap (1 * 2 ^ (min (Int.toNat x2413) 64))))), (18, .v (.int .u64 (IntKind.u64.wrap (x2442 + 1)))), (19, .dead), (26, .dead), (63, .dead)], [], 0, []⟩) (by kernel_rfl))) ⟨n, Nat.lt_succ_self n, _, _, h2476, rfl⟩
              · refine W_sound tab_ok mixed 60 _ _ _ ?_
                simp -implicitDefEqProofs only [go_sem, ne_eq, not_false_eq_true, Nat.reduceBEq, Nat.reduceAdd, Nat.reduceSub, Nat.reduceMul, Nat.reduceLT, Nat.reduceLeDiff, Int.reduceLE, Int.reduceLT, Int.reduceToNat, Int.reduceBEq, Int.reduceBNe, Int.le_refl, Nat.le_refl, decide_true, decide_false, Int.cast_ofNat_Int, ↓reduceIte, g2416, h2443, h2446, h2451, h2453, h2454, h2456, h2459, h2467]
                repeat with_reducible refine And.intro (by first | kernel_rfl | decide) ?_
                exact cutQ _ ((Wk_le (.cons _ _ _ _ _ (.refl _) (.cons _ _ _ _ _ (.refl _) (.cons _ _ _ _ _ (.refl _) (.cons _ _ _ _ _ (.refl _) (.cons _ _ _ _ _ (.refl _) (.cons _ _ _ _ _ (.refl _) (.cons _ _ _ _ _ (.dead _) (.cons _ _ _ _ _ (.dead _) (.cons _ _ _ _ _ (.dead _) (.cons _ _ _ _ _ (.dead _) (.cons _ _ _ _ _ (.dead _) (.cons _ _ _ _ _ (.refl _) (.cons _ _ _ _ _ (.refl _) (.cons _ _ _ _ _ (.refl _) (.cons _ _ _ _ _ (.refl _) (.cons _ _ _ _ _ (.dead _) (.cons _ _ _ _ _ (.dead _) (.cons _ _ _ _ _ (.dead _) .nil)))))))))))))))))) (OLe.refl _)).trans (cmpS_ok (st' := ⟨[], [(0, .dead), (1, .v (.bool b2414)), (2, .v (.fn 999999 [(.fn 86 []), p2415])), (6, .dead), (7, .dead), (8, .v (.fn 1000025 [(.lst false n2457 c2458)])), (9, .dead), (10, .dead), (11, .dead), (12, .dead), (13, .dead), (14, .dead), (15, .dead), (17, .v (.int .u64 (IntKind.u64.wrap (1 * 2 ^ (min (Int.toNat x2413) 64))))), (18, .v (.int .u64 (IntKind.u64.wrap (x2442 + 1)))), (19, .dead), (26, .dead), (63, .dead)], [], 0, []⟩) (by kernel_rfl))) ⟨n, Nat.lt_succ_self n, _, _, h2476, rfl⟩
        · refine W_sound tab_ok mixed 8 _ _ _ ?_
          simp -implicitDefEqProofs only [go_sem, ne_eq, not_false_eq_true, Nat.reduceBEq, Nat.reduceAdd, Nat.reduceSub, Nat.reduceMul, Nat.reduceLT, Nat.reduceLeDiff, Int.reduceLE, Int.reduceLT, Int.reduceToNat, Int.reduceBEq, Int.reduceBNe, Int.le_refl, Nat.le_refl, decide_true, decide_false, Int.cast_ofNat_Int, ↓reduceIte, g2416, h2443, h2446, h2451, h2453]
          repeat with_reducible refine And.intro (by first | kernel_rfl | decide) ?_
          exact cutQ _ ((Wk_le (.cons _ _ _ _ _ (.refl _) (.cons _ _ _ _ _ (.refl _) (.cons _ _ _ _ _ (.refl _) (.cons _ _ _ _ _ (.refl _) (.cons _ _ _ _ _ (.refl _) (.cons _ _ _ _ _ (.refl _) (.cons _ _ _ _ _ (.dead _) (.cons _ _ _ _ _ (.dead _) (.cons _ _ _ _ _ (.refl _) (.cons _ _ _ _ _ (.refl _) (.cons _ _ _ _ _ (.refl _) (.cons _ _ _ _ _ (.refl _) (.cons _ _ _ _ _ (.refl _) (.cons _ _ _ _ _ (.refl _) (.cons _ _ _ _ _ (.refl _) (.cons _ _ _ _ _ (.dead _) (.cons _ _ _ _ _ (.dead _) (.cons _ _ _ _ _ (.refl _) .nil)))))))))))))))))) (OLe.refl _)).trans (cmpS_ok (st' := ⟨[], [(0, .dead), (1, .v (.bool b2414)), (2, .v (.fn 999999 [(.fn 86 []), p2415])), (6, .dead), (7, .dead), (8, .v p2441), (9, .dead), (10, .dead), (11, .dead), (12, .dead), (13, .dead), (14, .dead), (15, .dead), (17, .v (.int .u64 (IntKind.u64.wrap (1 * 2 ^ (min (Int.toNat x2413) 64))))), (18, .v (.int .u64 (IntKind.u64.wrap (x2442 + 1)))), (19, .dead), (26, .dead), (63, .dead)], [], 0, []⟩) (by kernel_rfl))) ⟨n, Nat.lt_succ_self n, _, _, h2476, rfl⟩
      · refine W_sound tab_ok mixed 7 _ _ _ ?_
        simp -implicitDefEqProofs only [go_sem, ne_eq, not_false_eq_true, Nat.reduceBEq, Nat.reduceAdd, Nat.reduceSub, Nat.reduceMul, Nat.reduceLT, Nat.reduceLeDiff, Int.reduceLE, Int.reduceLT, Int.reduceToNat, Int.reduceBEq, Int.reduceBNe, Int.le_refl, Nat.le_refl, decide_true, decide_false, Int.cast_ofNat_Int, ↓reduceIte, g2416, h2443]
        repeat with_reducible refine And.intro (by first | kernel_rfl | decide) ?_
        obtain rfl := Option.some.inj h2476
        exact cutQ _ ((Wk_le (.cons _ _ _ _ _ (.refl _) (.cons _ _ _ _ _ (.dead _) (.cons _ _ _ _ _ (.dead _) (.cons _ _ _ _ _ (.refl _) (.cons _ _ _ _ _ (.refl _) (.cons _ _ _ _ _ (.refl _) (.cons _ _ _ _ _ (.refl _) (.cons _ _ _ _ _ (.refl _) (.cons _ _ _ _ _ (.refl _) (.cons _ _ _ _ _ (.refl _) (.cons _ _ _ _ _ (.refl _) (.cons _ _ _ _ _ (.refl _) (.cons _ _ _ _ _ (.refl _) (.cons _ _ _ _ _ (.dead _) (.cons _ _ _ _ _ (.dead _) (.cons _ _ _ _ _ (.dead _) (.cons _ _ _ _ _ (.refl _) (.cons _ _ _ _ _ (.refl _) .nil)))))))))))))))))) (OLe.refl _)).trans (cmpS_ok (st' := ⟨[], [(0, .dead), (1, .dead), (2, .dead), (6, .dead), (7, .dead), (8, .v p2441), (9, .dead), (10, .dead), (11, .dead), (12, .dead), (13, .dead), (14, .dead), (15, .dead), (17, .dead), (18, .dead), (19, .dead), (26, .dead), (63, .dead)], [], 0, []⟩) (by kernel_rfl))) ⟨_, rfl, rfl⟩
  · rintro _ ⟨p2469, rfl, rfl⟩
    have hh := getIf_some h2477; clear h2477; rcases hh with ⟨h2470, h2477⟩ | ⟨p2471, h2470, h2477⟩
    · refine W_sound tab_ok mixed 19 _ _ _ ?_
      simp -implicitDefEqProofs only [go_sem, ne_eq, not_false_eq_true, Nat.reduceBEq, Nat.reduceAdd, Nat.reduceSub, Nat.reduceMul, Nat.reduceLT, Nat.reduceLeDiff, Int.reduceLE, Int.reduceLT, Int.reduceToNat, Int.reduceBEq, Int.reduceBNe, Int.le_refl, Nat.le_refl, decide_true, decide_false, Int.cast_ofNat_Int, ↓reduceIte, g2416, h2470]
      repeat with_reducible refine And.intro (by first | kernel_rfl | decide) ?_
      obtain rfl := Option.some.inj h2477
      exact finC [(6, .v .nl), (7, .v (.bool false))] [(6, .v (.lst false 0 [])), (7, .v (.bool false))] (by simp [leE, lk_cons]) (.cons _ _ _ _ _ (.v _ _ (.nl false)) (.cons _ _ _ _ _ (.v _ _ (.refl _)) .nil)) (by rfl) (by simp [leE, lk_cons]) (by decide) (by decide) rfl (by simp only [go_sem, ne_eq, not_false_eq_true, Nat.reduceBEq, Nat.reduceAdd, Nat.reduceSub, Nat.reduceMul, Nat.reduceLT, Nat.reduceLeDiff, Int.reduceLE, Int.reduceLT, Int.reduceToNat, Int.reduceBEq, Int.reduceBNe, Int.le_refl, Nat.le_refl, decide_true, decide_false, Int.cast_ofNat_Int, ↓reduceIte, resQ_tmp, resQ_cell, resQ_nil, retD_one, retD_two, retD_three, retD_none]; try simp [R.val, retD_one, retD_two, retD_three, retD_none])
    · have hh := getL_some h2477; clear h2477; obtain ⟨n2473, c2474, h2472, h2477⟩ := hh
      refine W_sound tab_ok mixed 19 _ _ _ ?_
      simp -implicitDefEqProofs only [go_sem, ne_eq, not_false_eq_true, Nat.reduceBEq, Nat.reduceAdd, Nat.reduceSub, Nat.reduceMul, Nat.reduceLT, Nat.reduceLeDiff, Int.reduceLE, Int.reduceLT, Int.reduceToNat, Int.reduceBEq, Int.reduceBNe, Int.le_refl, Nat.le_refl, decide_true, decide_false, Int.cast_ofNat_Int, ↓reduceIte, g2416, h2470, h2472]
      repeat with_reducible refine And.intro (by first | kernel_rfl | decide) ?_
      obtain rfl := Option.some.inj h2477
      exact finC [(6, .v (.lst false n2473 c2474)), (7, .v (.bool true))] [(6, .v (.lst false n2473 c2474)), (7, .v (.bool true))] (by simp [leE, lk_cons]) (.cons _ _ _ _ _ (.v _ _ (.refl _)) (.cons _ _ _ _ _ (.v _ _ (.refl _)) .nil)) (by rfl) (by simp [leE, lk_cons]) (by decide) (by decide) rfl (by simp only [go_sem, ne_eq, not_false_eq_true, Nat.reduceBEq, Nat.reduceAdd, Nat.reduceSub, Nat.reduceMul, Nat.reduceLT, Nat.reduceLeDiff, Int.reduceLE, Int.reduceLT, Int.reduceToNat, Int.reduceBEq, Int.reduceBNe, Int.le_refl, Nat.le_refl, decide_true, decide_false, Int.cast_ofNat_Int, ↓reduceIte, resQ_tmp, resQ_cell, resQ_nil, retD_one, retD_two, retD_three, retD_none]; try simp [R.val, retD_one, retD_two, retD_three, retD_none])

def m36 (N : Nat) (p2401 : PV) : Option (PV) :=
  getA2 p2401 fun p2403 p2404 =>
  bnd' (m22 N (.agg [p2403, p2404])) fun p2405 =>
  getI .i64 p2405 fun x2408 =>
  brn (x2408 != 0) (
    some (.tup [(.lst false 0 []), (.int .i64 x2408)])) (
    getL p2404 fun n2411 c2412 =>
    bnd' (m68_2 N ((n2411 : Nat) : Int) false (.agg [p2403, (.lst false n2411 c2412)])) fun p2478 =>
    getT2 p2478 fun p2481 p2482 =>
    getL p2481 fun n2484 c2485 =>
    getB p2482 fun b2487 =>
    brn b2487 (
      some (.tup [(.lst false n2484 c2485), (.int .i64 0)])) (
      some (.tup [(.lst false 0 []), (.int .i64 13)])))
theorem c36 (N : Nat) (p2401 : PV) (r : PV)  (h : m36 N p2401 = some r) : FnP Tryd.prog 36 [p2401] r := by
  unfold m36 at h
  refine Fn_of (sz := 24) tab_ok [0, 1, 2, 3, 4, 5, 6, 10, 22] [.tmp 2, .tmp 3] Tryd.func36 rfl rfl rfl (by simp) ?_
  simp only [initSt, initEnv, List.map_cons, List.map_nil, List.getD_cons_zero, List.getD_cons_succ, List.getD_nil]
  have hh := getA2_some h; clear h; obtain ⟨p2403, p2404, h2402, h⟩ := hh
  have hh := bnd'_some h; clear h; obtain ⟨p2405, h2406, h⟩ := hh
  refine W_sound tab_ok mixed 10 _ _ _ ?_
  simp -implicitDefEqProofs only [go_sem, ne_eq, not_false_eq_true, Nat.reduceBEq, Nat.reduceAdd, Nat.reduceSub, Nat.reduceMul, Nat.reduceLT, Nat.reduceLeDiff, Int.reduceLE, Int.reduceLT, Int.reduceToNat, Int.reduceBEq, Int.reduceBNe, Int.le_refl, Nat.le_refl, decide_true, decide_false, Int.cast_ofNat_Int, ↓reduceIte, h2402]
  repeat with_reducible refine And.intro (by first | kernel_rfl | decide) ?_
  refine Wp_callP (c22 N _ _ h2406) (by kernel_rfl) rfl rfl rfl rfl (by decide) ?_
  have hh := getI_some h; clear h; obtain ⟨x2408, h2407, h⟩ := hh
  have hh := brn_some h; clear h; rcases hh with ⟨h2409, h⟩ | ⟨h2409, h⟩
  · refine W_sound tab_ok mixed 16 _ _ _ ?_
    simp -implicitDefEqProofs only [go_sem, ne_eq, not_false_eq_true, Nat.reduceBEq, Nat.reduceAdd, Nat.reduceSub, Nat.reduceMul, Nat.reduceLT, Nat.reduceLeDiff, Int.reduceLE, Int.reduceLT, Int.reduceToNat, Int.reduceBEq, Int.reduceBNe, Int.le_refl, Nat.le_refl, decide_true, decide_false, Int.cast_ofNat_Int, ↓reduceIte, h2402, h2407, h2409]
    repeat with_reducible refine And.intro (by first | kernel_rfl | decide) ?_
    obtain rfl := Option.some.inj h
    exact finC [(2, .v .nl), (3, .v (.int .i64 x2408))] [(2, .v (.lst false 0 [])), (3, .v (.int .i64 x2408))] (by simp [leE, lk_cons]) (.cons _ _ _ _ _ (.v _ _ (.nl false)) (.cons _ _ _ _ _ (.v _ _ (.refl _)) .nil)) (by rfl) (by simp [leE, lk_cons]) (by decide) (by decide) rfl (by simp only [go_sem, ne_eq, not_false_eq_true, Nat.reduceBEq, Nat.reduceAdd, Nat.reduceSub, Nat.reduceMul, Nat.reduceLT, Nat.reduceLeDiff, Int.reduceLE, Int.reduceLT, Int.reduceToNat, Int.reduceBEq, Int.reduceBNe, Int.le_refl, Nat.le_refl, decide_true, decide_false, Int.cast_ofNat_Int, ↓reduceIte, resQ_tmp, resQ_cell, resQ_nil, retD_one, retD_two, retD_three, retD_none]; try simp [R.val, retD_one, retD_two, retD_three, retD_none])
  · have hh := getL_some h; clear h; obtain ⟨n2411, c2412, h2410, h⟩ := hh
    have hh := bnd'_some h; clear h; obtain ⟨p2478, h2479, h⟩ := hh
    refine W_sound tab_ok mixed 16 _ _ _ ?_
    simp -implicitDefEqProofs only [go_sem, ne_eq, not_false_eq_true, Nat.reduceBEq, Nat.reduceAdd, Nat.reduceSub, Nat.reduceMul, Nat.reduceLT, Nat.reduceLeDiff, Int.reduceLE, Int.reduceLT, Int.reduceToNat, Int.reduceBEq, Int.reduceBNe, Int.le_refl, Nat.le_refl, decide_true, decide_false, Int.cast_ofNat_Int, ↓reduceIte, h2402, h2407, h2409, h2410]
    repeat with_reducible refine And.intro (by first | kernel_rfl | decide) ?_
    refine Wp_callP (c68_2 N _ _ _ _ h2479) (by kernel_rfl) rfl rfl rfl rfl (by decide) ?_
    have hh := getT2_some h; clear h; obtain ⟨p2481, p2482, h2480, h⟩ := hh
    have hh := getL_some h; clear h; obtain ⟨n2484, c2485, h2483, h⟩ := hh
    have hh := getB_some h; clear h; obtain ⟨b2487, h2486, h⟩ := hh
    have hh := brn_some h; clear h; rcases hh with ⟨h2488, h⟩ | ⟨h2488, h⟩
    · refine W_sound tab_ok mixed 22 _ _ _ ?_
      simp -implicitDefEqProofs only [go_sem, ne_eq, not_false_eq_true, Nat.reduceBEq, Nat.reduceAdd, Nat.reduceSub, Nat.reduceMul, Nat.reduceLT, Nat.reduceLeDiff, Int.reduceLE, Int.reduceLT, Int.reduceToNat, Int.reduceBEq, Int.reduceBNe, Int.le_refl, Nat.le_refl, decide_true, decide_false, Int.cast_ofNat_Int, ↓reduceIte, h2402, h2407, h2409, h2410, h2480, h2483, h2486, h2488]
      repeat with_reducible refine And.intro (by first | kernel_rfl | decide) ?_
      obtain rfl := Option.some.inj h
      exact finC [(2, .v (.lst false n2484 c2485)), (3, .v (.int .i64 0))] [(2, .v (.lst false n2484 c2485)), (3, .v (.int .i64 0))] (by simp [leE, lk_cons]) (.cons _ _ _ _ _ (.v _ _ (.refl _)) (.cons _ _ _ _ _ (.v _ _ (.refl _)) .nil)) (by rfl) (by simp [leE, lk_cons]) (by decide) (by decide) rfl (by simp only [go_sem, ne_eq, not_false_eq_true, Nat.reduceBEq, Nat.reduceAdd, Nat.reduceSub, Nat.reduceMul, Nat.reduceLT, Nat.reduceLeDiff, Int.reduceLE, Int.reduceLT, Int.reduceToNat, Int.reduceBEq, Int.reduceBNe, Int.le_refl, Nat.le_refl, decide_true, decide_false, Int.cast_ofNat_Int, ↓reduceIte, resQ_tmp, resQ_cell, resQ_nil, retD_one, retD_two, retD_three, retD_none]; try simp [R.val, retD_one, retD_two, retD_three, retD_none])
    · refine W_sound tab_ok mixed 20 _ _ _ ?_
      simp -implicitDefEqProofs only [go_sem, ne_eq, not_false_eq_true, Nat.reduceBEq, Nat.reduceAdd, Nat.reduceSub, Nat.reduceMul, Nat.reduceLT, Nat.reduceLeDiff, Int.reduceLE, Int.reduceLT, Int.reduceToNat, Int.reduceBEq, Int.reduceBNe, Int.le_refl, Nat.le_refl, decide_true, decide_false, Int.cast_ofNat_Int, ↓reduceIte, h2402, h2407, h2409, h2410, h2480, h2483, h2486, h2488]
      repeat with_reducible refine And.intro (by first | kernel_rfl | decide) ?_
      obtain rfl := Option.some.inj h
      exact finC [(2, .v .nl), (3, .v (.int .i64 13))] [(2, .v (.lst false 0 [])), (3, .v (.int .i64 13))] (by simp [leE, lk_cons]) (.cons _ _ _ _ _ (.v _ _ (.nl false)) (.cons _ _ _ _ _ (.v _ _ (.refl _)) .nil)) (by rfl) (by simp [leE, lk_cons]) (by decide) (by decide) rfl (by simp only [go_sem, ne_eq, not_false_eq_true, Nat.reduceBEq, Nat.reduceAdd, Nat.reduceSub, Nat.reduceMul, Nat.reduceLT, Nat.reduceLeDiff, Int.reduceLE, Int.reduceLT, Int.reduceToNat, Int.reduceBEq, Int.reduceBNe, Int.le_refl, Nat.le_refl, decide_true, decide_false, Int.cast_ofNat_Int, ↓reduceIte, resQ_tmp, resQ_cell, resQ_nil, retD_one, retD_two, retD_three, retD_none]; try simp [R.val, retD_one, retD_two, retD_three, retD_none])

def m38 (N : Nat) (p2489 : PV) (p2490 : PV) : Option (PV) :=
  getA2 p2489 fun p2492 p2493 =>
  getL p2490 fun n2495 c2496 =>
  bnd' (m63 N (.agg [p2492, p2493]) (.lst false n2495 c2496)) fun p2497 =>
  getI .i64 p2497 fun x2500 =>
  brn (x2500 != 0) (
    some (.int .i64 x2500)) (
    bnd' (m86 N (.agg [p2492, p2493]) (.lst false n2495 c2496)) fun p2502 =>
    getB p2502 fun b2505 =>
    brn b2505 (
      some (.int .i64 0)) (
      some (.int .i64 14)))
theorem c38 (N : Nat) (p2489 : PV) (p2490 : PV) (r : PV)  (h : m38 N p2489 p2490 = some r) : FnP Tryd.prog 38 [p2489, p2490] r := by
  unfold m38 at h
  refine Fn_of (sz := 18) tab_ok [0, 1, 2, 4, 5, 9, 13] [.tmp 4] Tryd.func38 rfl rfl rfl (by simp) ?_
  simp only [initSt, initEnv, List.map_cons, List.map_nil, List.getD_cons_zero, List.getD_cons_succ, List.getD_nil]
  have hh := getA2_some h; clear h; obtain ⟨p2492, p2493, h2491, h⟩ := hh
  have hh := getL_some h; clear h; obtain ⟨n2495, c2496, h2494, h⟩ := hh
  have hh := bnd'_some h; clear h; obtain ⟨p2497, h2498, h⟩ := hh
  refine W_sound tab_ok mixed 9 _ _ _ ?_
  simp -implicitDefEqProofs only [go_sem, ne_eq, not_false_eq_true, Nat.reduceBEq, Nat.reduceAdd, Nat.reduceSub, Nat.reduceMul, Nat.reduceLT, Nat.reduceLeDiff, Int.reduceLE, Int.reduceLT, Int.reduceToNat, Int.reduceBEq, Int.reduceBNe, Int.le_refl, Nat.le_refl, decide_true, decide_false, Int.cast_ofNat_Int, ↓reduceIte, h2491, h2494]
  repeat with_reducible refine And.intro (by first | kernel_rfl | decide) ?_
  refine Wp_callP (c63 N _ _ _ h2498) (by kernel_rfl) rfl rfl rfl rfl (by decide) ?_
  have hh := getI_some h; clear h; obtain ⟨x2500, h2499, h⟩ := hh
  have hh := brn_some h; clear h; rcases hh with ⟨h2501, h⟩ | ⟨h2501, h⟩
  · refine W_sound tab_ok mixed 18 _ _ _ ?_
    simp -implicitDefEqProofs only [go_sem, ne_eq, not_false_eq_true, Nat.reduceBEq, Nat.reduceAdd, Nat.reduceSub, Nat.reduceMul, Nat.reduceLT, Nat.reduceLeDiff, Int.reduceLE, Int.reduceLT, Int.reduceToNat, Int.reduceBEq, Int.reduceBNe, Int.le_refl, Nat.le_refl, decide_true, decide_false, Int.cast_ofNat_Int, ↓reduceIte, h2491, h2494, h2499, h2501]
    repeat with_reducible refine And.intro (by first | kernel_rfl | decide) ?_
    obtain rfl := Option.some.inj h
    exact finC [(4, .v (.int .i64 x2500))] [(4, .v (.int .i64 x2500))] (by simp [leE, lk_cons]) (.cons _ _ _ _ _ (.v _ _ (.refl _)) .nil) (by rfl) (by simp [leE, lk_cons]) (by decide) (by decide) rfl (by simp only [go_sem, ne_eq, not_false_eq_true, Nat.reduceBEq, Nat.reduceAdd, Nat.reduceSub, Nat.reduceMul, Nat.reduceLT, Nat.reduceLeDiff, Int.reduceLE, Int.reduceLT, Int.reduceToNat, Int.reduceBEq, Int.reduceBNe, Int.le_refl, Nat.le_refl, decide_true, decide_false, Int.cast_ofNat_Int, ↓reduceIte, resQ_tmp, resQ_cell, resQ_nil, retD_one, retD_two, retD_three, retD_none]; try simp [R.val, retD_one, retD_two, retD_three, retD_none])
  · have hh := bnd'_some h; clear h; obtain ⟨p2502, h2503, h⟩ := hh
    refine W_sound tab_ok mixed 15 _ _ _ ?_
    simp -implicitDefEqProofs only [go_sem, ne_eq, not_false_eq_true, Nat.reduceBEq, Nat.reduceAdd, Nat.reduceSub, Nat.reduceMul, Nat.reduceLT, Nat.reduceLeDiff, Int.reduceLE, Int.reduceLT, Int.reduceToNat, Int.reduceBEq, Int.reduceBNe, Int.le_refl, Nat.le_refl, decide_true, decide_false, Int.cast_ofNat_Int, ↓reduceIte, h2491, h2494, h2499, h2501]
    repeat with_reducible refine And.intro (by first | kernel_rfl | decide) ?_
    refine Wp_callP (c86 N _ _ _ h2503) (by kernel_rfl) rfl rfl rfl rfl (by decide) ?_
    have hh := getB_some h; clear h; obtain ⟨b2505, h2504, h⟩ := hh
    have hh := brn_some h; clear h; rcases hh with ⟨h2506, h⟩ | ⟨h2506, h⟩
    · refine W_sound tab_ok mixed 12 _ _ _ ?_
      simp -implicitDefEqProofs only [go_sem, ne_eq, not_false_eq_true, Nat.reduceBEq, Nat.reduceAdd, Nat.reduceSub, Nat.reduceMul, Nat.reduceLT, Nat.reduceLeDiff, Int.reduceLE, Int.reduceLT, Int.reduceToNat, Int.reduceBEq, Int.reduceBNe, Int.le_refl, Nat.le_refl, decide_true, decide_false, Int.cast_ofNat_Int, ↓reduceIte, h2491, h2494, h2499, h2501, h2504, h2506]
      repeat with_reducible refine And.intro (by first | kernel_rfl | decide) ?_
      obtain rfl := Option.some.inj h
      exact finC [(4, .v (.int .i64 0))] [(4, .v (.int .i64 0))] (by simp [leE, lk_cons]) (.cons _ _ _ _ _ (.v _ _ (.refl _)) .nil) (by rfl) (by simp [leE, lk_cons]) (by decide) (by decide) rfl (by simp only [go_sem, ne_eq, not_false_eq_true, Nat.reduceBEq, Nat.reduceAdd, Nat.reduceSub, Nat.reduceMul, Nat.reduceLT, Nat.reduceLeDiff, Int.reduceLE, Int.reduceLT, Int.reduceToNat, Int.reduceBEq, Int.reduceBNe, Int.le_refl, Nat.le_refl, decide_true, decide_false, Int.cast_ofNat_Int, ↓reduceIte, resQ_tmp, resQ_cell, resQ_nil, retD_one, retD_two, retD_three, retD_none]; try simp [R.val, retD_one, retD_two, retD_three, retD_none])
    · refine W_sound tab_ok mixed 10 _ _ _ ?_
      simp -implicitDefEqProofs only [go_sem, ne_eq, not_false_eq_true, Nat.reduceBEq, Nat.reduceAdd, Nat.reduceSub, Nat.reduceMul, Nat.reduceLT, Nat.reduceLeDiff, Int.reduceLE, Int.reduceLT, Int.reduceToNat, Int.reduceBEq, Int.reduceBNe, Int.le_refl, Nat.le_refl, decide_true, decide_false, Int.cast_ofNat_Int, ↓reduceIte, h2491, h2494, h2499, h2501, h2504, h2506]
      repeat with_reducible refine And.intro (by first | kernel_rfl | decide) ?_
      obtain rfl := Option.some.inj h
      exact finC [(4, .v (.int .i64 14))] [(4, .v (.int .i64 14))] (by simp [leE, lk_cons]) (.cons _ _ _ _ _ (.v _ _ (.refl _)) .nil) (by rfl) (by simp [leE, lk_cons]) (by decide) (by decide) rfl (by simp only [go_sem, ne_eq, not_false_eq_true, Nat.reduceBEq, Nat.reduceAdd, Nat.reduceSub, Nat.reduceMul, Nat.reduceLT, Nat.reduceLeDiff, Int.reduceLE, Int.reduceLT, Int.reduceToNat, Int.reduceBEq, Int.reduceBNe, Int.le_refl, Nat.le_refl, decide_true, decide_false, Int.cast_ofNat_Int, ↓reduceIte, resQ_tmp, resQ_cell, resQ_nil, retD_one, retD_two, retD_three, retD_none]; try simp [R.val, retD_one, retD_two, retD_three, retD_none])

def m80_L0 (N : Nat) (p2518 : PV) : Nat → Nat → Int → PV → List PV → Option ((Nat × List PV))
  | 0, _, _, _, _ => none
  | n + 1, n2530, x2531, p2532, c2533 =>
    getL p2532 fun n2535 c2536 =>
    brn (decide (x2531 < ((n2535 : Nat) : Int))) (
      grd ((n2530 + 1) ≤ 1099511627776) <|
      grd (List.length c2533 = n2530) <|
      m80_L0 N p2518 n (n2530 + 1) (IntKind.i64.wrap (x2531 + 1)) (.lst false n2535 c2536) (c2533 ++ [(.int .i64 x2531)])) (
      some (n2530, c2533))
def m80 (N : Nat) (p2516 : PV) : Option (PV) :=
  getA2 p2516 fun p2518 p2519 =>
  bnd' (m80_L0 N p2518 N 0 0 p2519 []) fun o =>
  match o with
  | (n2540, c2541) =>
    grd (List.length c2541 = n2540) <|
    some (.lst false n2540 c2541)
theorem c80 (N : Nat) (p2516 : PV) (r : PV)  (h : m80 N p2516 = some r) : FnP Tryd.prog 80 [p2516] r := by
  unfold m80 at h
  refine Fn_of (sz := 17) tab_ok [0, 1, 2, 3, 4, 9] [.tmp 2] Tryd.func80 rfl rfl rfl (by simp) ?_
  simp only [initSt, initEnv, List.map_cons, List.map_nil, List.getD_cons_zero, List.getD_cons_succ, List.getD_nil]
  have hh := getA2_some h; clear h; obtain ⟨p2518, p2519, h2517, h⟩ := hh
  refine W_sound tab_ok mixed 14 _ _ _ ?_
  simp -implicitDefEqProofs only [go_sem, ne_eq, not_false_eq_true, Nat.reduceBEq, Nat.reduceAdd, Nat.reduceSub, Nat.reduceMul, Nat.reduceLT, Nat.reduceLeDiff, Int.reduceLE, Int.reduceLT, Int.reduceToNat, Int.reduceBEq, Int.reduceBNe, Int.le_refl, Nat.le_refl, decide_true, decide_false, Int.cast_ofNat_Int, ↓reduceIte, h2517]
  repeat with_reducible refine And.intro (by first | kernel_rfl | decide) ?_
  refine Wp_weaken (Wk_ownS 3 1 rfl (by decide) (by decide)) ?_
  simp -implicitDefEqProofs only [go_sem, ne_eq, not_false_eq_true, Nat.reduceBEq, Nat.reduceAdd, Nat.reduceSub, Nat.reduceMul, Nat.reduceLT, Nat.reduceLeDiff, Int.reduceLE, Int.reduceLT, Int.reduceToNat, Int.reduceBEq, Int.reduceBNe, Int.le_refl, Nat.le_refl, decide_true, decide_false, Int.cast_ofNat_Int, ↓reduceIte, h2517]
  have hh := bnd'_some h; clear h; obtain ⟨o2543, h2544, h2545⟩ := hh
  refine Wp_cut (fun s => ∃ n2540, ∃ c2541, (n2540, c2541) = o2543 ∧ s = ⟨[], [(0, .dead), (1, .dead), (2, .dead), (3, .sl false 0 0 n2540 1), (4, .dead), (9, .dead)], [(0, .p c2541)], 1, []⟩) ?_ ?_
  · refine Wp_block ?_
    refine Wp_loopG (fun n s => ∃ n2530, ∃ x2531, ∃ p2532, ∃ c2533, m80_L0 N p2518 n n2530 x2531 p2532 c2533 = some o2543 ∧ s = ⟨[], [(0, .dead), (1, .ptr 0 0), (2, .dead), (3, .sl false 1 0 n2530 1), (4, .v (.int .i64 x2531)), (9, .dead)], [(0, .p [p2518, p2532]), (1, .p c2533)], 2, []⟩) N _ ((Wk_le (.cons _ _ _ _ _ (.dead _) (.cons _ _ _ _ _ (.refl _) (.cons _ _ _ _ _ (.dead _) (.cons _ _ _ _ _ (.refl _) (.cons _ _ _ _ _ (.refl _) (.cons _ _ _ _ _ (.refl _) .nil)))))) (OLe.refl _)).trans (cmpS_ok rfl)) ⟨_, _, _, _, h2544, rfl⟩ ?_
    clear h2544
    rintro n _ ⟨n2530, x2531, p2532, c2533, h2544, rfl⟩
    cases n with
    | zero => cases h2544
    | succ n =>
      rw [m80_L0] at h2544
      have hh := getL_some h2544; clear h2544; obtain ⟨n2535, c2536, h2534, h2544⟩ := hh
      have hh := brn_some h2544; clear h2544; rcases hh with ⟨h2537, h2544⟩ | ⟨h2537, h2544⟩
      · have hh := grd_some h2544; clear h2544; obtain ⟨g2538, h2544⟩ := hh
        have hh := grd_some h2544; clear h2544; obtain ⟨g2539, h2544⟩ := hh
        refine W_sound tab_ok mixed 26 _ _ _ ?_
        simp -implicitDefEqProofs only [go_sem, ne_eq, not_false_eq_true, Nat.reduceBEq, Nat.reduceAdd, Nat.reduceSub, Nat.reduceMul, Nat.reduceLT, Nat.reduceLeDiff, Int.reduceLE, Int.reduceLT, Int.reduceToNat, Int.reduceBEq, Int.reduceBNe, Int.le_refl, Nat.le_refl, decide_true, decide_false, Int.cast_ofNat_Int, ↓reduceIte, h2517, h2534, h2537, g2538, g2539]
        repeat with_reducible refine And.intro (by first | kernel_rfl | decide) ?_
        exact cutQ _ ((Wk_le (.cons _ _ _ _ _ (.refl _) (.cons _ _ _ _ _ (.refl _) (.cons _ _ _ _ _ (.refl _) (.cons _ _ _ _ _ (.refl _) (.cons _ _ _ _ _ (.refl _) (.cons _ _ _ _ _ (.dead _) .nil)))))) (OLe.refl _)).trans (cmpS_ok rfl)) ⟨n, Nat.lt_succ_self n, _, _, _, _, h2544, rfl⟩
      · refine W_sound tab_ok mixed 11 _ _ _ ?_
        simp -implicitDefEqProofs only [go_sem, ne_eq, not_false_eq_true, Nat.reduceBEq, Nat.reduceAdd, Nat.reduceSub, Nat.reduceMul, Nat.reduceLT, Nat.reduceLeDiff, Int.reduceLE, Int.reduceLT, Int.reduceToNat, Int.reduceBEq, Int.reduceBNe, Int.le_refl, Nat.le_refl, decide_true, decide_false, Int.cast_ofNat_Int, ↓reduceIte, h2517, h2534, h2537]
        repeat with_reducible refine And.intro (by first | kernel_rfl | decide) ?_
        obtain rfl := Option.some.inj h2544
        exact cutQ _ ((Wk_le (.cons _ _ _ _ _ (.refl _) (.cons _ _ _ _ _ (.dead _) (.cons _ _ _ _ _ (.refl _) (.cons _ _ _ _ _ (.refl _) (.cons _ _ _ _ _ (.dead _) (.cons _ _ _ _ _ (.dead _) .nil)))))) (OLe.refl _)).trans (cmpS_ok rfl)) ⟨_, _, rfl, rfl⟩
  · rintro _ ⟨n2540, c2541, rfl, rfl⟩
    (try dsimp only at h2545)
    refine W_sound tab_ok mixed 7 _ _ _ ?_
    simp -implicitDefEqProofs only [go_sem, ne_eq, not_false_eq_true, Nat.reduceBEq, Nat.reduceAdd, Nat.reduceSub, Nat.reduceMul, Nat.reduceLT, Nat.reduceLeDiff, Int.reduceLE, Int.reduceLT, Int.reduceToNat, Int.reduceBEq, Int.reduceBNe, Int.le_refl, Nat.le_refl, decide_true, decide_false, Int.cast_ofNat_Int, ↓reduceIte, h2517]
    repeat with_reducible refine And.intro (by first | kernel_rfl | decide) ?_
    have hh := grd_some h2545; clear h2545; obtain ⟨g2542, h2545⟩ := hh
    refine FinQ_wk (Wk_freeze 0 c2541 (by rfl) (by decide) (by decide)) ?_
    simp -implicitDefEqProofs only [go_sem, ne_eq, not_false_eq_true, Nat.reduceBEq, Nat.reduceAdd, Nat.reduceSub, Nat.reduceMul, Nat.reduceLT, Nat.reduceLeDiff, Int.reduceLE, Int.reduceLT, Int.reduceToNat, Int.reduceBEq, Int.reduceBNe, Int.le_refl, Nat.le_refl, decide_true, decide_false, Int.cast_ofNat_Int, ↓reduceIte, h2517, g2542]
    obtain rfl := Option.some.inj h2545
    exact finC [(2, .v (.lst false n2540 c2541))] [(2, .v (.lst false n2540 c2541))] (by simp [leE, lk_cons]) (.cons _ _ _ _ _ (.v _ _ (.refl _)) .nil) (by rfl) (by simp [leE, lk_cons]) (by decide) (by decide) rfl (by simp only [go_sem, ne_eq, not_false_eq_true, Nat.reduceBEq, Nat.reduceAdd, Nat.reduceSub, Nat.reduceMul, Nat.reduceLT, Nat.reduceLeDiff, Int.reduceLE, Int.reduceLT, Int.reduceToNat, Int.reduceBEq, Int.reduceBNe, Int.le_refl, Nat.le_refl, decide_true, decide_false, Int.cast_ofNat_Int, ↓reduceIte, resQ_tmp, resQ_cell, resQ_nil, retD_one, retD_two, retD_three, retD_none]; try simp [R.val, retD_one, retD_two, retD_three, retD_none])

def m87_L2 (N : Nat) (n2553 : Nat) (c2554 : List PV) (x2897 : Int) (n2903 : Nat) (c2904 : List PV) (n2970 : Nat) (x2971 : Int) (c2972 : List PV) : Nat → Nat → Int → List PV → Option ((Nat × List PV))
  | 0, _, _, _ => none
  | n + 1, n3010, x3011, c3012 =>
    brn (decide (x3011 < x2897)) (
      grd (0 ≤ x2971 ∧ x2971 < ((n2903 : Nat) : Int)) <|
      grd (0 < List.length (List.drop (Int.toNat x2971) c2904)) <|
      getL (gp c2904 (Int.toNat x2971)) fun n3018 c3019 =>
      grd (0 ≤ x3011 ∧ x3011 < ((n3018 : Nat) : Int)) <|
      grd (0 < List.length (List.drop (Int.toNat x3011) c3019)) <|
      getI .i64 (gp c3019 (Int.toNat x3011)) fun x3024 =>
      grd (0 ≤ x3024 ∧ x3024 < ((n2553 : Nat) : Int)) <|
      grd (0 < List.length (List.drop (Int.toNat x3024) c2554)) <|
      getI .i64 (gp c2554 (Int.toNat x3024)) fun x3029 =>
      grd ((n3010 + 1) ≤ 1099511627776) <|
      grd (List.length c3012 = n3010) <|
      m87_L2 N n2553 c2554 x2897 n2903 c2904 n2970 x2971 c2972 n (n3010 + 1) (IntKind.i64.wrap (x3011 + 1)) (c3012 ++ [(.int .i64 x3029)])) (
      some (n3010, c3012))
def m87_L1 (N : Nat) (n2553 : Nat) (c2554 : List PV) (x2897 : Int) (n2903 : Nat) (c2904 : List PV) : Nat → Nat → Int → List PV → Option ((Nat × List PV))
  | 0, _, _, _ => none
  | n + 1, n2970, x2971, c2972 =>
    brn (decide (x2971 < ((n2903 : Nat) : Int))) (
      bnd' (m87_L2 N n2553 c2554 x2897 n2903 c2904 n2970 x2971 c2972 N 0 0 []) fun o =>
      match o with
      | (n3032, c3033) =>
        grd ((n2970 + 1) ≤ 1099511627776) <|
        grd (List.length c2972 = n2970) <|
        grd (List.length c3033 = n3032) <|
        m87_L1 N n2553 c2554 x2897 n2903 c2904 n (n2970 + 1) (IntKind.i64.wrap (x2971 + 1)) (c2972 ++ [(.lst false n3032 c3033)])) (
      some (n2970, c2972))
def m87_L0 (N : Nat) (n2553 : Nat) (c2554 : List PV) : Nat → Nat → Int → List PV → Option ((Nat × List PV))
  | 0, _, _, _ => none
  | n + 1, n2896, x2897, c2898 =>
    brn (decide (x2897 ≤ ((n2553 : Nat) : Int))) (
      bnd' (m73 N N ((n2553 : Nat) : Int) x2897 (.lst false 0 [])) fun p2900 =>
      getL p2900 fun n2903 c2904 =>
      bnd' (m87_L1 N n2553 c2554 x2897 n2903 c2904 N n2896 0 c2898) fun o =>
      match o with
      | (n3037, c3038) =>
        m87_L0 N n2553 c2554 n n3037 (IntKind.i64.wrap (x2897 + 1)) c3038) (
      some (n2896, c2898))
def m87 (N : Nat) (p2551 : PV) : Option (PV) :=
  getL p2551 fun n2553 c2554 =>
  bnd' (m87_L0 N n2553 c2554 N 0 0 []) fun o =>
  match o with
  | (n3039, c3040) =>
    grd (List.length c3040 = n3039) <|
    some (.lst false n3039 c3040)
theorem c87 (N : Nat) (p2551 : PV) (r : PV)  (h : m87 N p2551 = some r) : FnP Tryd.prog 87 [p2551] r := by
  unfold m87 at h
  refine Fn_of (sz := 48) tab_ok [0, 2, 3, 4, 5, 6, 7, 8, 12, 22, 27] [.tmp 2] Tryd.func87 rfl rfl rfl (by simp) ?_
  simp only [initSt, initEnv, List.map_cons, List.map_nil, List.getD_cons_zero, List.getD_cons_succ, List.getD_nil]
  have hh := getL_some h; clear h; obtain ⟨n2553, c2554, h2552, h⟩ := hh
  refine W_sound tab_ok mixed 13 _ _ _ ?_
  simp -implicitDefEqProofs only [go_sem, ne_eq, not_false_eq_true, Nat.reduceBEq, Nat.reduceAdd, Nat.reduceSub, Nat.reduceMul, Nat.reduceLT, Nat.reduceLeDiff, Int.reduceLE, Int.reduceLT, Int.reduceToNat, Int.reduceBEq, Int.reduceBNe, Int.le_refl, Nat.le_refl, decide_true, decide_false, Int.cast_ofNat_Int, ↓reduceIte, h2552]
  repeat with_reducible refine And.intro (by first | kernel_rfl | decide) ?_
  refine Wp_weaken (Wk_ownS 3 1 rfl (by decide) (by decide)) ?_
  simp -implicitDefEqProofs only [go_sem, ne_eq, not_false_eq_true, Nat.reduceBEq, Nat.reduceAdd, Nat.reduceSub, Nat.reduceMul, Nat.reduceLT, Nat.reduceLeDiff, Int.reduceLE, Int.reduceLT, Int.reduceToNat, Int.reduceBEq, Int.reduceBNe, Int.le_refl, Nat.le_refl, decide_true, decide_false, Int.cast_ofNat_Int, ↓reduceIte, h2552]
  have hh := bnd'_some h; clear h; obtain ⟨o3042, h3043, h3044⟩ := hh
  refine Wp_cut (fun s => ∃ n3039, ∃ c3040, (n3039, c3040) = o3042 ∧ s = ⟨[], [(0, .dead), (2, .dead), (3, .sl false 0 0 n3039 1), (4, .dead), (5, .dead), (6, .dead), (7, .dead), (8, .dead), (12, .dead), (22, .dead), (27, .dead)], [(0, .p c3040)], 1, []⟩) ?_ ?_
  · refine Wp_block ?_
    refine Wp_loopG (fun n s => ∃ n2896, ∃ x2897, ∃ c2898, m87_L0 N n2553 c2554 n n2896 x2897 c2898 = some o3042 ∧ s = ⟨[], [(0, .v (.lst false n2553 c2554)), (2, .dead), (3, .sl false 0 0 n2896 1), (4, .v (.int .i64 x2897)), (5, .dead), (6, .dead), (7, .dead), (8, .dead), (12, .dead), (22, .dead), (27, .dead)], [(0, .p c2898)], 1, []⟩) N _ ((Wk_le (.cons _ _ _ _ _ (.refl _) (.cons _ _ _ _ _ (.dead _) (.cons _ _ _ _ _ (.refl _) (.cons _ _ _ _ _ (.refl _) (.cons _ _ _ _ _ (.refl _) (.cons _ _ _ _ _ (.refl _) (.cons _ _ _ _ _ (.refl _) (.cons _ _ _ _ _ (.refl _) (.cons _ _ _ _ _ (.refl _) (.cons _ _ _ _ _ (.refl _) (.cons _ _ _ _ _ (.refl _) .nil))))))))))) (OLe.refl _)).trans (cmpS_ok (st' := ⟨[], [(0, .v (.lst false n2553 c2554)), (2, .dead), (3, .sl false 0 0 0 1), (4, .v (.int .i64 0)), (5, .dead), (6, .dead), (7, .dead), (8, .dead), (12, .dead), (22, .dead), (27, .dead)], [(0, .p [])], 1, []⟩) (by kernel_rfl))) ⟨_, _, _, h3043, rfl⟩ ?_
    clear h3043
    rintro n _ ⟨n2896, x2897, c2898, h3043, rfl⟩
    cases n with
    | zero => cases h3043
    | succ n =>
      rw [m87_L0] at h3043
      have hh := brn_some h3043; clear h3043; rcases hh with ⟨h2899, h3043⟩ | ⟨h2899, h3043⟩
      · have hh := bnd'_some h3043; clear h3043; obtain ⟨p2900, h2901, h3043⟩ := hh
        refine W_sound tab_ok mixed 17 _ _ _ ?_
        simp -implicitDefEqProofs only [go_sem, ne_eq, not_false_eq_true, Nat.reduceBEq, Nat.reduceAdd, Nat.reduceSub, Nat.reduceMul, Nat.reduceLT, Nat.reduceLeDiff, Int.reduceLE, Int.reduceLT, Int.reduceToNat, Int.reduceBEq, Int.reduceBNe, Int.le_refl, Nat.le_refl, decide_true, decide_false, Int.cast_ofNat_Int, ↓reduceIte, h2552, h2899]
        repeat with_reducible refine And.intro (by first | kernel_rfl | decide) ?_
        refine Wp_callP (FnP_le (c73 N N _ _ _ _ h2901) (.cons _ _ _ _ (.refl _) (.cons _ _ _ _ (.refl _) (.cons _ _ _ _ (.nl false) .nil))) (.refl _)) (by kernel_rfl) rfl rfl rfl rfl (by decide) ?_
        have hh := getL_some h3043; clear h3043; obtain ⟨n2903, c2904, h2902, h3043⟩ := hh
        refine W_sound tab_ok mixed 6 _ _ _ ?_
        simp -implicitDefEqProofs only [go_sem, ne_eq, not_false_eq_true, Nat.reduceBEq, Nat.reduceAdd, Nat.reduceSub, Nat.reduceMul, Nat.reduceLT, Nat.reduceLeDiff, Int.reduceLE, Int.reduceLT, Int.reduceToNat, Int.reduceBEq, Int.reduceBNe, Int.le_refl, Nat.le_refl, decide_true, decide_false, Int.cast_ofNat_Int, ↓reduceIte, h2552, h2899, h2902]
        repeat with_reducible refine And.intro (by first | kernel_rfl | decide) ?_
        have hh := bnd'_some h3043; clear h3043; obtain ⟨o3045, h3046, h3047⟩ := hh
        refine Wp_cut (fun s => ∃ n3037, ∃ c3038, (n3037, c3038) = o3045 ∧ s = ⟨[], [(0, .v (.lst false n2553 c2554)), (2, .dead), (3, .sl false 0 0 n3037 1), (4, .v (.int .i64 x2897)), (5, .dead), (6, .dead), (7, .dead), (8, .dead), (12, .dead), (22, .dead), (27, .dead)], [(0, .p c3038)], 1, []⟩) ?_ ?_
        · refine Wp_block ?_
          refine Wp_loopG (fun n s => ∃ n2970, ∃ x2971, ∃ c2972, m87_L1 N n2553 c2554 x2897 n2903 c2904 n n2970 x2971 c2972 = some o3045 ∧ s = ⟨[], [(0, .v (.lst false n2553 c2554)), (2, .dead), (3, .sl false 0 0 n2970 1), (4, .v (.int .i64 x2897)), (5, .v (.lst false n2903 c2904)), (6, .v (.int .i64 x2971)), (7, .dead), (8, .dead), (12, .dead), (22, .dead), (27, .dead)], [(0, .p c2972)], 1, []⟩) N _ ((Wk_le (.cons _ _ _ _ _ (.refl _) (.cons _ _ _ _ _ (.refl _) (.cons _ _ _ _ _ (.refl _) (.cons _ _ _ _ _ (.refl _) (.cons _ _ _ _ _ (.refl _) (.cons _ _ _ _ _ (.refl _) (.cons _ _ _ _ _ (.refl _) (.cons _ _ _ _ _ (.refl _) (.cons _ _ _ _ _ (.dead _) (.cons _ _ _ _ _ (.refl _) (.cons _ _ _ _ _ (.refl _) .nil))))))))))) (OLe.refl _)).trans (cmpS_ok (st' := ⟨[], [(0, .v (.lst false n2553 c2554)), (2, .dead), (3, .sl false 0 0 n2896 1), (4, .v (.int .i64 x2897)), (5, .v (.lst false n2903 c2904)), (6, .v (.int .i64 0)), (7, .dead), (8, .dead), (12, .dead), (22, .dead), (27, .dead)], [(0, .p c2898)], 1, []⟩) (by kernel_rfl))) ⟨_, _, _, h3046, rfl⟩ ?_
          clear h3046
          rintro n _ ⟨n2970, x2971, c2972, h3046, rfl⟩
          cases n with
          | zero => cases h3046
          | succ n =>
            rw [m87_L1] at h3046
            have hh := brn_some h3046; clear h3046; rcases hh with ⟨h2973, h3046⟩ | ⟨h2973, h3046⟩
            · refine W_sound tab_ok mixed 21 _ _ _ ?_
              simp -implicitDefEqProofs only [go_sem, ne_eq, not_false_eq_true, Nat.reduceBEq, Nat.reduceAdd, Nat.reduceSub, Nat.reduceMul, Nat.reduceLT, Nat.reduceLeDiff, Int.reduceLE, Int.reduceLT, Int.reduceToNat, Int.reduceBEq, Int.reduceBNe, Int.le_refl, Nat.le_refl, decide_true, decide_false, Int.cast_ofNat_Int, ↓reduceIte, h2552, h2899, h2902, h2973]
              repeat with_reducible refine And.intro (by first | kernel_rfl | decide) ?_
              refine Wp_weaken (Wk_ownS 7 1 rfl (by decide) (by decide)) ?_
              simp -implicitDefEqProofs only [go_sem, ne_eq, not_false_eq_true, Nat.reduceBEq, Nat.reduceAdd, Nat.reduceSub, Nat.reduceMul, Nat.reduceLT, Nat.reduceLeDiff, Int.reduceLE, Int.reduceLT, Int.reduceToNat, Int.reduceBEq, Int.reduceBNe, Int.le_refl, Nat.le_refl, decide_true, decide_false, Int.cast_ofNat_Int, ↓reduceIte, h2552, h2899, h2902, h2973]
              have hh := bnd'_some h3046; clear h3046; obtain ⟨o3048, h3049, h3050⟩ := hh
              refine Wp_cut (fun s => ∃ n3032, ∃ c3033, (n3032, c3033) = o3048 ∧ s = ⟨[], [(0, .v (.lst false n2553 c2554)), (2, .dead), (3, .sl false 0 0 n2970 1), (4, .v (.int .i64 x2897)), (5, .v (.lst false n2903 c2904)), (6, .v (.int .i64 x2971)), (7, .sl false 1 0 n3032 1), (8, .dead), (12, .dead), (22, .dead), (27, .dead)], [(0, .p c2972), (1, .p c3033)], 2, []⟩) ?_ ?_
              · refine Wp_block ?_
                refine Wp_loopG (fun n s => ∃ n3010, ∃ x3011, ∃ c3012, m87_L2 N n2553 c2554 x2897 n2903 c2904 n2970 x2971 c2972 n n3010 x3011 c3012 = some o3048 ∧ s = ⟨[], [(0, .v (.lst false n2553 c2554)), (2, .dead), (3, .sl false 0 0 n2970 1), (4, .v (.int .i64 x2897)), (5, .v (.lst false n2903 c2904)), (6, .v (.int .i64 x2971)), (7, .sl false 1 0 n3010 1), (8, .v (.int .i64 x3011)), (12, .dead), (22, .dead), (27, .dead)], [(0, .p c2972), (1, .p c3012)], 2, []⟩) N _ ((Wk_le (.cons _ _ _ _ _ (.refl _) (.cons _ _ _ _ _ (.refl _) (.cons _ _ _ _ _ (.refl _) (.cons _ _ _ _ _ (.refl _) (.cons _ _ _ _ _ (.refl _) (.cons _ _ _ _ _ (.refl _) (.cons _ _ _ _ _ (.refl _) (.cons _ _ _ _ _ (.refl _) (.cons _ _ _ _ _ (.refl _) (.cons _ _ _ _ _ (.dead _) (.cons _ _ _ _ _ (.refl _) .nil))))))))))) (OLe.refl _)).trans (cmpS_ok (st' := ⟨[], [(0, .v (.lst false n2553 c2554)), (2, .dead), (3, .sl false 0 0 n2970 1), (4, .v (.int .i64 x2897)), (5, .v (.lst false n2903 c2904)), (6, .v (.int .i64 x2971)), (7, .sl false 1 0 0 1), (8, .v (.int .i64 0)), (12, .dead), (22, .dead), (27, .dead)], [(0, .p c2972), (1, .p [])], 2, []⟩) (by kernel_rfl))) ⟨_, _, _, h3049, rfl⟩ ?_
                clear h3049
                rintro n _ ⟨n3010, x3011, c3012, h3049, rfl⟩
                cases n with
                | zero => cases h3049
                | succ n =>
                  rw [m87_L2] at h3049
                  have hh := brn_some h3049; clear h3049; rcases hh with ⟨h3013, h3049⟩ | ⟨h3013, h3049⟩
                  · have hh := grd_some h3049; clear h3049; obtain ⟨⟨g3014, g3015⟩, h3049⟩ := hh
                    have hh := grd_some h3049; clear h3049; obtain ⟨g3016, h3049⟩ := hh
                    have hh := getL_some h3049; clear h3049; obtain ⟨n3018, c3019, h3017, h3049⟩ := hh
                    have hh := grd_some h3049; clear h3049; obtain ⟨⟨g3020, g3021⟩, h3049⟩ := hh
                    have hh := grd_some h3049; clear h3049; obtain ⟨g3022, h3049⟩ := hh
                    have hh := getI_some h3049; clear h3049; obtain ⟨x3024, h3023, h3049⟩ := hh
                    have hh := grd_some h3049; clear h3049; obtain ⟨⟨g3025, g3026⟩, h3049⟩ := hh
                    have hh := grd_some h3049; clear h3049; obtain ⟨g3027, h3049⟩ := hh
                    have hh := getI_some h3049; clear h3049; obtain ⟨x3029, h3028, h3049⟩ := hh
                    have hh := grd_some h3049; clear h3049; obtain ⟨g3030, h3049⟩ := hh
                    have hh := grd_some h3049; clear h3049; obtain ⟨g3031, h3049⟩ := hh
                    refine W_sound tab_ok mixed 33 _ _ _ ?_
                    simp -implicitDefEqProofs only [go_sem, ne_eq, not_false_eq_true, Nat.reduceBEq, Nat.reduceAdd, Nat.reduceSub, Nat.reduceMul, Nat.reduceLT, Nat.reduceLeDiff, Int.reduceLE, Int.reduceLT, Int.reduceToNat, Int.reduceBEq, Int.reduceBNe, Int.le_refl, Nat.le_refl, decide_true, decide_false, Int.cast_ofNat_Int, ↓reduceIte, h2552, h2899, h2902, h2973, h3013, g3014, g3015, g3016, h3017, g3020, g3021, g3022, h3023, g3025, g3026, g3027, h3028, g3030, g3031]
                    repeat with_reducible refine And.intro (by first | kernel_rfl | decide) ?_
                    exact cutQ _ ((Wk_le (.cons _ _ _ _ _ (.refl _) (.cons _ _ _ _ _ (.refl _) (.cons _ _ _ _ _ (.refl _) (.cons _ _ _ _ _ (.refl _) (.cons _ _ _ _ _ (.refl _) (.cons _ _ _ _ _ (.refl _) (.cons _ _ _ _ _ (.refl _) (.cons _ _ _ _ _ (.refl _) (.cons _ _ _ _ _ (.refl _) (.cons _ _ _ _ _ (.refl _) (.cons _ _ _ _ _ (.dead _) .nil))))))))))) (OLe.refl _)).trans (cmpS_ok (st' := ⟨[], [(0, .v (.lst false n2553 c2554)), (2, .dead), (3, .sl false 0 0 n2970 1), (4, .v (.int .i64 x2897)), (5, .v (.lst false n2903 c2904)), (6, .v (.int .i64 x2971)), (7, .sl false 1 0 (n3010 + 1) 1), (8, .v (.int .i64 (IntKind.i64.wrap (x3011 + 1)))), (12, .dead), (22, .dead), (27, .dead)], [(0, .p c2972), (1, .p (c3012 ++ [(.int .i64 x3029)]))], 2, []⟩) (by kernel_rfl))) ⟨n, Nat.lt_succ_self n, _, _, _, h3049, rfl⟩
                  · refine W_sound tab_ok mixed 9 _ _ _ ?_
                    simp -implicitDefEqProofs only [go_sem, ne_eq, not_false_eq_true, Nat.reduceBEq, Nat.reduceAdd, Nat.reduceSub, Nat.reduceMul, Nat.reduceLT, Nat.reduceLeDiff, Int.reduceLE, Int.reduceLT, Int.reduceToNat, Int.reduceBEq, Int.reduceBNe, Int.le_refl, Nat.le_refl, decide_true, decide_false, Int.cast_ofNat_Int, ↓reduceIte, h2552, h2899, h2902, h2973, h3013]
                    repeat with_reducible refine And.intro (by first | kernel_rfl | decide) ?_
                    obtain rfl := Option.some.inj h3049
                    exact cutQ _ ((Wk_le (.cons _ _ _ _ _ (.refl _) (.cons _ _ _ _ _ (.refl _) (.cons _ _ _ _ _ (.refl _) (.cons _ _ _ _ _ (.refl _) (.cons _ _ _ _ _ (.refl _) (.cons _ _ _ _ _ (.refl _) (.cons _ _ _ _ _ (.refl _) (.cons _ _ _ _ _ (.dead _) (.cons _ _ _ _ _ (.refl _) (.cons _ _ _ _ _ (.refl _) (.cons _ _ _ _ _ (.dead _) .nil))))))))))) (OLe.refl _)).trans (cmpS_ok (st' := ⟨[], [(0, .v (.lst false n2553 c2554)), (2, .dead), (3, .sl false 0 0 n2970 1), (4, .v (.int .i64 x2897)), (5, .v (.lst false n2903 c2904)), (6, .v (.int .i64 x2971)), (7, .sl false 1 0 n3010 1), (8, .dead), (12, .dead), (22, .dead), (27, .dead)], [(0, .p c2972), (1, .p c3012)], 2, []⟩) (by kernel_rfl))) ⟨_, _, rfl, rfl⟩
              · rintro _ ⟨n3032, c3033, rfl, rfl⟩
                (try dsimp only at h3050)
                have hh := grd_some h3050; clear h3050; obtain ⟨g3034, h3050⟩ := hh
                have hh := grd_some h3050; clear h3050; obtain ⟨g3035, h3050⟩ := hh
                refine W_sound tab_ok mixed 7 _ _ _ ?_
                simp -implicitDefEqProofs only [go_sem, ne_eq, not_false_eq_true, Nat.reduceBEq, Nat.reduceAdd, Nat.reduceSub, Nat.reduceMul, Nat.reduceLT, Nat.reduceLeDiff, Int.reduceLE, Int.reduceLT, Int.reduceToNat, Int.reduceBEq, Int.reduceBNe, Int.le_refl, Nat.le_refl, decide_true, decide_false, Int.cast_ofNat_Int, ↓reduceIte, h2552, h2899, h2902, h2973, g3034, g3035]
                repeat with_reducible refine And.intro (by first | kernel_rfl | decide) ?_
                have hh := grd_some h3050; clear h3050; obtain ⟨g3036, h3050⟩ := hh
                refine Wp_wkK (Wk_freeze 1 c3033 (by rfl) (by decide) (by decide)) rfl ?_
                simp -implicitDefEqProofs only [go_sem, ne_eq, not_false_eq_true, Nat.reduceBEq, Nat.reduceAdd, Nat.reduceSub, Nat.reduceMul, Nat.reduceLT, Nat.reduceLeDiff, Int.reduceLE, Int.reduceLT, Int.reduceToNat, Int.reduceBEq, Int.reduceBNe, Int.le_refl, Nat.le_refl, decide_true, decide_false, Int.cast_ofNat_Int, ↓reduceIte, h2552, h2899, h2902, h2973, g3034, g3035, g3036]
                refine W_sound tab_ok mixed 6 _ _ _ ?_
                simp -implicitDefEqProofs only [go_sem, ne_eq, not_false_eq_true, Nat.reduceBEq, Nat.reduceAdd, Nat.reduceSub, Nat.reduceMul, Nat.reduceLT, Nat.reduceLeDiff, Int.reduceLE, Int.reduceLT, Int.reduceToNat, Int.reduceBEq, Int.reduceBNe, Int.le_refl, Nat.le_refl, decide_true, decide_false, Int.cast_ofNat_Int, ↓reduceIte, h2552, h2899, h2902, h2973, g3034, g3035, g3036]
                repeat with_reducible refine And.intro (by first | kernel_rfl | decide) ?_
                exact cutQ _ ((Wk_le (.cons _ _ _ _ _ (.refl _) (.cons _ _ _ _ _ (.refl _) (.cons _ _ _ _ _ (.refl _) (.cons _ _ _ _ _ (.refl _) (.cons _ _ _ _ _ (.refl _) (.cons _ _ _ _ _ (.refl _) (.cons _ _ _ _ _ (.dead _) (.cons _ _ _ _ _ (.refl _) (.cons _ _ _ _ _ (.refl _) (.cons _ _ _ _ _ (.refl _) (.cons _ _ _ _ _ (.refl _) .nil))))))))))) (OLe.refl _)).trans (cmpS_ok (st' := ⟨[], [(0, .v (.lst false n2553 c2554)), (2, .dead), (3, .sl false 0 0 (n2970 + 1) 1), (4, .v (.int .i64 x2897)), (5, .v (.lst false n2903 c2904)), (6, .v (.int .i64 (IntKind.i64.wrap (x2971 + 1)))), (7, .dead), (8, .dead), (12, .dead), (22, .dead), (27, .dead)], [(0, .p (c2972 ++ [(.lst false n3032 c3033)]))], 1, []⟩) (by kernel_rfl))) ⟨n, Nat.lt_succ_self n, _, _, _, h3050, rfl⟩
            · refine W_sound tab_ok mixed 10 _ _ _ ?_
              simp -implicitDefEqProofs only [go_sem, ne_eq, not_false_eq_true, Nat.reduceBEq, Nat.reduceAdd, Nat.reduceSub, Nat.reduceMul, Nat.reduceLT, Nat.reduceLeDiff, Int.reduceLE, Int.reduceLT, Int.reduceToNat, Int.reduceBEq, Int.reduceBNe, Int.le_refl, Nat.le_refl, decide_true, decide_false, Int.cast_ofNat_Int, ↓reduceIte, h2552, h2899, h2902, h2973]
              repeat with_reducible refine And.intro (by first | kernel_rfl | decide) ?_
              obtain rfl := Option.some.inj h3046
              exact cutQ _ ((Wk_le (.cons _ _ _ _ _ (.refl _) (.cons _ _ _ _ _ (.refl _) (.cons _ _ _ _ _ (.refl _) (.cons _ _ _ _ _ (.refl _) (.cons _ _ _ _ _ (.dead _) (.cons _ _ _ _ _ (.dead _) (.cons _ _ _ _ _ (.refl _) (.cons _ _ _ _ _ (.refl _) (.cons _ _ _ _ _ (.refl _) (.cons _ _ _ _ _ (.dead _) (.cons _ _ _ _ _ (.refl _) .nil))))))))))) (OLe.refl _)).trans (cmpS_ok (st' := ⟨[], [(0, .v (.lst false n2553 c2554)), (2, .dead), (3, .sl false 0 0 n2970 1), (4, .v (.int .i64 x2897)), (5, .dead), (6, .dead), (7, .dead), (8, .dead), (12, .dead), (22, .dead), (27, .dead)], [(0, .p c2972)], 1, []⟩) (by kernel_rfl))) ⟨_, _, rfl, rfl⟩
        · rintro _ ⟨n3037, c3038, rfl, rfl⟩
          (try dsimp only at h3047)
          refine W_sound tab_ok mixed 6 _ _ _ ?_
          simp -implicitDefEqProofs only [go_sem, ne_eq, not_false_eq_true, Nat.reduceBEq, Nat.reduceAdd, Nat.reduceSub, Nat.reduceMul, Nat.reduceLT, Nat.reduceLeDiff, Int.reduceLE, Int.reduceLT, Int.reduceToNat, Int.reduceBEq, Int.reduceBNe, Int.le_refl, Nat.le_refl, decide_true, decide_false, Int.cast_ofNat_Int, ↓reduceIte, h2552, h2899, h2902]
          repeat with_reducible refine And.intro (by first | kernel_rfl | decide) ?_
          exact cutQ _ ((Wk_le (.cons _ _ _ _ _ (.refl _) (.cons _ _ _ _ _ (.refl _) (.cons _ _ _ _ _ (.refl _) (.cons _ _ _ _ _ (.refl _) (.cons _ _ _ _ _ (.refl _) (.cons _ _ _ _ _ (.refl _) (.cons _ _ _ _ _ (.refl _) (.cons _ _ _ _ _ (.refl _) (.cons _ _ _ _ _ (.refl _) (.cons _ _ _ _ _ (.refl _) (.cons _ _ _ _ _ (.refl _) .nil))))))))))) (OLe.refl _)).trans (cmpS_ok (st' := ⟨[], [(0, .v (.lst false n2553 c2554)), (2, .dead), (3, .sl false 0 0 n3037 1), (4, .v (.int .i64 (IntKind.i64.wrap (x2897 + 1)))), (5, .dead), (6, .dead), (7, .dead), (8, .dead), (12, .dead), (22, .dead), (27, .dead)], [(0, .p c3038)], 1, []⟩) (by kernel_rfl))) ⟨n, Nat.lt_succ_self n, _, _, _, h3047, rfl⟩
      · refine W_sound tab_ok mixed 10 _ _ _ ?_
        simp -implicitDefEqProofs only [go_sem, ne_eq, not_false_eq_true, Nat.reduceBEq, Nat.reduceAdd, Nat.reduceSub, Nat.reduceMul, Nat.reduceLT, Nat.reduceLeDiff, Int.reduceLE, Int.reduceLT, Int.reduceToNat, Int.reduceBEq, Int.reduceBNe, Int.le_refl, Nat.le_refl, decide_true, decide_false, Int.cast_ofNat_Int, ↓reduceIte, h2552, h2899]
        repeat with_reducible refine And.intro (by first | kernel_rfl | decide) ?_
        obtain rfl := Option.some.inj h3043
        exact cutQ _ ((Wk_le (.cons _ _ _ _ _ (.dead _) (.cons _ _ _ _ _ (.refl _) (.cons _ _ _ _ _ (.refl _) (.cons _ _ _ _ _ (.dead _) (.cons _ _ _ _ _ (.refl _) (.cons _ _ _ _ _ (.refl _) (.cons _ _ _ _ _ (.refl _) (.cons _ _ _ _ _ (.refl _) (.cons _ _ _ _ _ (.dead _) (.cons _ _ _ _ _ (.refl _) (.cons _ _ _ _ _ (.refl _) .nil))))))))))) (OLe.refl _)).trans (cmpS_ok (st' := ⟨[], [(0, .dead), (2, .dead), (3, .sl false 0 0 n2896 1), (4, .dead), (5, .dead), (6, .dead), (7, .dead), (8, .dead), (12, .dead), (22, .dead), (27, .dead)], [(0, .p c2898)], 1, []⟩) (by kernel_rfl))) ⟨_, _, rfl, rfl⟩
  · rintro _ ⟨n3039, c3040, rfl, rfl⟩
    (try dsimp only at h3044)
    refine W_sound tab_ok mixed 7 _ _ _ ?_
    simp -implicitDefEqProofs only [go_sem, ne_eq, not_false_eq_true, Nat.reduceBEq, Nat.reduceAdd, Nat.reduceSub, Nat.reduceMul, Nat.reduceLT, Nat.reduceLeDiff, Int.reduceLE, Int.reduceLT, Int.reduceToNat, Int.reduceBEq, Int.reduceBNe, Int.le_refl, Nat.le_refl, decide_true, decide_false, Int.cast_ofNat_Int, ↓reduceIte, h2552]
    repeat with_reducible refine And.intro (by first | kernel_rfl | decide) ?_
    have hh := grd_some h3044; clear h3044; obtain ⟨g3041, h3044⟩ := hh
    refine FinQ_wk (Wk_freeze 0 c3040 (by rfl) (by decide) (by decide)) ?_
    simp -implicitDefEqProofs only [go_sem, ne_eq, not_false_eq_true, Nat.reduceBEq, Nat.reduceAdd, Nat.reduceSub, Nat.reduceMul, Nat.reduceLT, Nat.reduceLeDiff, Int.reduceLE, Int.reduceLT, Int.reduceToNat, Int.reduceBEq, Int.reduceBNe, Int.le_refl, Nat.le_refl, decide_true, decide_false, Int.cast_ofNat_Int, ↓reduceIte, h2552, g3041]
    obtain rfl := Option.some.inj h3044
    exact finC [(2, .v (.lst false n3039 c3040))] [(2, .v (.lst false n3039 c3040))] (by simp [leE, lk_cons]) (.cons _ _ _ _ _ (.v _ _ (.refl _)) .nil) (by rfl) (by simp [leE, lk_cons]) (by decide) (by decide) rfl (by simp only [go_sem, ne_eq, not_false_eq_true, Nat.reduceBEq, Nat.reduceAdd, Nat.reduceSub, Nat.reduceMul, Nat.reduceLT, Nat.reduceLeDiff, Int.reduceLE, Int.reduceLT, Int.reduceToNat, Int.reduceBEq, Int.reduceBNe, Int.le_refl, Nat.le_refl, decide_true, decide_false, Int.cast_ofNat_Int, ↓reduceIte, resQ_tmp, resQ_cell, resQ_nil, retD_one, retD_two, retD_three, retD_none]; try simp [R.val, retD_one, retD_two, retD_three, retD_none])

def m88 (N : Nat) (p3064 : PV) (p3065 : PV) : Option (PV) :=
  getA2 p3064 fun p3067 p3068 =>
  getL p3065 fun n3070 c3071 =>
  bnd' (m66 N (.agg [p3067, p3068]) (.lst false n3070 c3071)) fun p3072 =>
  getI .i64 p3072 fun x3075 =>
  some (.bool (decide (x3075 < ((n3070 : Nat) : Int))))
theorem c88 (N : Nat) (p3064 : PV) (p3065 : PV) (r : PV)  (h : m88 N p3064 p3065 = some r) : FnP Tryd.prog 88 [p3064, p3065] r := by
  unfold m88 at h
  refine Fn_of (sz := 11) tab_ok [0, 1, 2, 4] [.tmp 4] Tryd.func88 rfl rfl rfl (by simp) ?_
  simp only [initSt, initEnv, List.map_cons, List.map_nil, List.getD_cons_zero, List.getD_cons_succ, List.getD_nil]
  have hh := getA2_some h; clear h; obtain ⟨p3067, p3068, h3066, h⟩ := hh
  have hh := getL_some h; clear h; obtain ⟨n3070, c3071, h3069, h⟩ := hh
  have hh := bnd'_some h; clear h; obtain ⟨p3072, h3073, h⟩ := hh
  refine W_sound tab_ok mixed 9 _ _ _ ?_
  simp -implicitDefEqProofs only [go_sem, ne_eq, not_false_eq_true, Nat.reduceBEq, Nat.reduceAdd, Nat.reduceSub, Nat.reduceMul, Nat.reduceLT, Nat.reduceLeDiff, Int.reduceLE, Int.reduceLT, Int.reduceToNat, Int.reduceBEq, Int.reduceBNe, Int.le_refl, Nat.le_refl, decide_true, decide_false, Int.cast_ofNat_Int, ↓reduceIte, h3066, h3069]
  repeat with_reducible refine And.intro (by first | kernel_rfl | decide) ?_
  refine Wp_callP (c66 N _ _ _ h3073) (by kernel_rfl) rfl rfl rfl rfl (by decide) ?_
  have hh := getI_some h; clear h; obtain ⟨x3075, h3074, h⟩ := hh
  refine W_sound tab_ok mixed 7 _ _ _ ?_
  simp -implicitDefEqProofs only [go_sem, ne_eq, not_false_eq_true, Nat.reduceBEq, Nat.reduceAdd, Nat.reduceSub, Nat.reduceMul, Nat.reduceLT, Nat.reduceLeDiff, Int.reduceLE, Int.reduceLT, Int.reduceToNat, Int.reduceBEq, Int.reduceBNe, Int.le_refl, Nat.le_refl, decide_true, decide_false, Int.cast_ofNat_Int, ↓reduceIte, h3066, h3069, h3074]
  repeat with_reducible refine And.intro (by first | kernel_rfl | decide) ?_
  obtain rfl := Option.some.inj h
  exact finC [(4, .v (.bool (decide (x3075 < ((n3070 : Nat) : Int)))))] [(4, .v (.bool (decide (x3075 < ((n3070 : Nat) : Int)))))] (by simp [leE, lk_cons]) (.cons _ _ _ _ _ (.v _ _ (.refl _)) .nil) (by rfl) (by simp [leE, lk_cons]) (by decide) (by decide) rfl (by simp only [go_sem, ne_eq, not_false_eq_true, Nat.reduceBEq, Nat.reduceAdd, Nat.reduceSub, Nat.reduceMul, Nat.reduceLT, Nat.reduceLeDiff, Int.reduceLE, Int.reduceLT, Int.reduceToNat, Int.reduceBEq, Int.reduceBNe, Int.le_refl, Nat.le_refl, decide_true, decide_false, Int.cast_ofNat_Int, ↓reduceIte, resQ_tmp, resQ_cell, resQ_nil, retD_one, retD_two, retD_three, retD_none]; try simp [R.val, retD_one, retD_two, retD_three, retD_none])

def m37_L0 (N : Nat) (p2509 : PV) (p2510 : PV) (n3054 : Nat) (c3055 : List PV) : Nat → Int → Option ((PV ⊕ Unit))
  | 0, _ => none
  | n + 1, x3056 =>
    brn (decide (x3056 < ((n3054 : Nat) : Int))) (
      grd (0 ≤ x3056 ∧ x3056 < ((n3054 : Nat) : Int)) <|
      grd (0 < List.length (List.drop (Int.toNat x3056) c3055)) <|
      getL (gp c3055 (Int.toNat x3056)) fun n3062 c3063 =>
      bnd' (m88 N (.agg [p2509, p2510]) (.lst false n3062 c3063)) fun p3076 =>
      getB p3076 fun b3079 =>
      brn b3079 (
        some (.inl (.tup [(.lst false n3062 c3063), (.int .i64 0)]))) (
        m37_L0 N p2509 p2510 n3054 c3055 n (IntKind.i64.wrap (x3056 + 1)))) (
      some (.inr ()))
def m37 (N : Nat) (p2507 : PV) : Option (PV) :=
  getA2 p2507 fun p2509 p2510 =>
  bnd' (m23 N (.agg [p2509, p2510])) fun p2511 =>
  getI .i64 p2511 fun x2514 =>
  brn (x2514 != 0) (
    some (.tup [(.lst false 0 []), (.int .i64 x2514)])) (
    bnd' (m80 N (.agg [p2509, p2510])) fun p2546 =>
    getL p2546 fun n2549 c2550 =>
    bnd' (m87 N (.lst false n2549 c2550)) fun p3051 =>
    getL p3051 fun n3054 c3055 =>
    bnd' (m37_L0 N p2509 p2510 n3054 c3055 N 0) fun o =>
    match o with
    | .inl p3081 =>
      some p3081
    | .inr () =>
      some (.tup [(.lst false 0 []), (.int .i64 13)]))
theorem c37 (N : Nat) (p2507 : PV) (r : PV)  (h : m37 N p2507 = some r) : FnP Tryd.prog 37 [p2507] r := by
  unfold m37 at h
  refine Fn_of (sz := 31) tab_ok [0, 1, 2, 3, 4, 5, 6, 10, 18, 26] [.tmp 2, .tmp 3] Tryd.func37 rfl rfl rfl (by simp) ?_
  simp only [initSt, initEnv, List.map_cons, List.map_nil, List.getD_cons_zero, List.getD_cons_succ, List.getD_nil]
  have hh := getA2_some h; clear h; obtain ⟨p2509, p2510, h2508, h⟩ := hh
  have hh := bnd'_some h; clear h; obtain ⟨p2511, h2512, h⟩ := hh
  refine W_sound tab_ok mixed 9 _ _ _ ?_
  simp -implicitDefEqProofs only [go_sem, ne_eq, not_false_eq_true, Nat.reduceBEq, Nat.reduceAdd, Nat.reduceSub, Nat.reduceMul, Nat.reduceLT, Nat.reduceLeDiff, Int.reduceLE, Int.reduceLT, Int.reduceToNat, Int.reduceBEq, Int.reduceBNe, Int.le_refl, Nat.le_refl, decide_true, decide_false, Int.cast_ofNat_Int, ↓reduceIte, h2508]
  repeat with_reducible refine And.intro (by first | kernel_rfl | decide) ?_
  refine Wp_callP (c23 N _ _ h2512) (by kernel_rfl) rfl rfl rfl rfl (by decide) ?_
  have hh := getI_some h; clear h; obtain ⟨x2514, h2513, h⟩ := hh
  have hh := brn_some h; clear h; rcases hh with ⟨h2515, h⟩ | ⟨h2515, h⟩
  · refine W_sound tab_ok mixed 17 _ _ _ ?_
    simp -implicitDefEqProofs only [go_sem, ne_eq, not_false_eq_true, Nat.reduceBEq, Nat.reduceAdd, Nat.reduceSub, Nat.reduceMul, Nat.reduceLT, Nat.reduceLeDiff, Int.reduceLE, Int.reduceLT, Int.reduceToNat, Int.reduceBEq, Int.reduceBNe, Int.le_refl, Nat.le_refl, decide_true, decide_false, Int.cast_ofNat_Int, ↓reduceIte, h2508, h2513, h2515]
    repeat with_reducible refine And.intro (by first | kernel_rfl | decide) ?_
    obtain rfl := Option.some.inj h
    exact finC [(2, .v .nl), (3, .v (.int .i64 x2514))] [(2, .v (.lst false 0 [])), (3, .v (.int .i64 x2514))] (by simp [leE, lk_cons]) (.cons _ _ _ _ _ (.v _ _ (.nl false)) (.cons _ _ _ _ _ (.v _ _ (.refl _)) .nil)) (by rfl) (by simp [leE, lk_cons]) (by decide) (by decide) rfl (by simp only [go_sem, ne_eq, not_false_eq_true, Nat.reduceBEq, Nat.reduceAdd, Nat.reduceSub, Nat.reduceMul, Nat.reduceLT, Nat.reduceLeDiff, Int.reduceLE, Int.reduceLT, Int.reduceToNat, Int.reduceBEq, Int.reduceBNe, Int.le_refl, Nat.le_refl, decide_true, decide_false, Int.cast_ofNat_Int, ↓reduceIte, resQ_tmp, resQ_cell, resQ_nil, retD_one, retD_two, retD_three, retD_none]; try simp [R.val, retD_one, retD_two, retD_three, retD_none])
  · have hh := bnd'_some h; clear h; obtain ⟨p2546, h2547, h⟩ := hh
    refine W_sound tab_ok mixed 13 _ _ _ ?_
    simp -implicitDefEqProofs only [go_sem, ne_eq, not_false_eq_true, Nat.reduceBEq, Nat.reduceAdd, Nat.reduceSub, Nat.reduceMul, Nat.reduceLT, Nat.reduceLeDiff, Int.reduceLE, Int.reduceLT, Int.reduceToNat, Int.reduceBEq, Int.reduceBNe, Int.le_refl, Nat.le_refl, decide_true, decide_false, Int.cast_ofNat_Int, ↓reduceIte, h2508, h2513, h2515]
    repeat with_reducible refine And.intro (by first | kernel_rfl | decide) ?_
    refine Wp_callP (c80 N _ _ h2547) (by kernel_rfl) rfl rfl rfl rfl (by decide) ?_
    have hh := getL_some h; clear h; obtain ⟨n2549, c2550, h2548, h⟩ := hh
    have hh := bnd'_some h; clear h; obtain ⟨p3051, h3052, h⟩ := hh
    (try simp -implicitDefEqProofs only [go_sem, ne_eq, not_false_eq_true, Nat.reduceBEq, Nat.reduceAdd, Nat.reduceSub, Nat.reduceMul, Nat.reduceLT, Nat.reduceLeDiff, Int.reduceLE, Int.reduceLT, Int.reduceToNat, Int.reduceBEq, Int.reduceBNe, Int.le_refl, Nat.le_refl, decide_true, decide_false, Int.cast_ofNat_Int, ↓reduceIte, h2508, h2513, h2515, h2548])
    refine Wp_callP (c87 N _ _ h3052) (by kernel_rfl) rfl rfl rfl rfl (by decide) ?_
    have hh := getL_some h; clear h; obtain ⟨n3054, c3055, h3053, h⟩ := hh
    refine W_sound tab_ok mixed 7 _ _ _ ?_
    simp -implicitDefEqProofs only [go_sem, ne_eq, not_false_eq_true, Nat.reduceBEq, Nat.reduceAdd, Nat.reduceSub, Nat.reduceMul, Nat.reduceLT, Nat.reduceLeDiff, Int.reduceLE, Int.reduceLT, Int.reduceToNat, Int.reduceBEq, Int.reduceBNe, Int.le_refl, Nat.le_refl, decide_true, decide_false, Int.cast_ofNat_Int, ↓reduceIte, h2508, h2513, h2515, h2548, h3053]
    repeat with_reducible refine And.intro (by first | kernel_rfl | decide) ?_
    have hh := bnd'_some h; clear h; obtain ⟨o3082, h3083, h3084⟩ := hh
    refine Wp_cut (fun s => (.inr ()) = o3082 ∧ s = ⟨[], [(0, .dead), (1, .dead), (2, .dead), (3, .dead), (4, .dead), (5, .dead), (6, .dead), (10, .dead), (18, .dead), (26, .dead)], [], 0, []⟩) ?_ ?_
    · refine Wp_block ?_
      refine Wp_loopG (fun n s => ∃ x3056, m37_L0 N p2509 p2510 n3054 c3055 n x3056 = some o3082 ∧ s = ⟨[], [(0, .dead), (1, .ptr 0 0), (2, .dead), (3, .dead), (4, .dead), (5, .v (.lst false n3054 c3055)), (6, .v (.int .i64 x3056)), (10, .dead), (18, .dead), (26, .dead)], [(0, .p [p2509, p2510])], 1, []⟩) N _ ((Wk_le (.cons _ _ _ _ _ (.dead _) (.cons _ _ _ _ _ (.refl _) (.cons _ _ _ _ _ (.dead _) (.cons _ _ _ _ _ (.dead _) (.cons _ _ _ _ _ (.dead _) (.cons _ _ _ _ _ (.refl _) (.cons _ _ _ _ _ (.refl _) (.cons _ _ _ _ _ (.dead _) (.cons _ _ _ _ _ (.refl _) (.cons _ _ _ _ _ (.refl _) .nil)))))))))) (OLe.refl _)).trans (cmpS_ok rfl)) ⟨_, h3083, rfl⟩ ?_
      clear h3083
      rintro n _ ⟨x3056, h3083, rfl⟩
      cases n with
      | zero => cases h3083
      | succ n =>
        rw [m37_L0] at h3083
        have hh := brn_some h3083; clear h3083; rcases hh with ⟨h3057, h3083⟩ | ⟨h3057, h3083⟩
        · have hh := grd_some h3083; clear h3083; obtain ⟨⟨g3058, g3059⟩, h3083⟩ := hh
          have hh := grd_some h3083; clear h3083; obtain ⟨g3060, h3083⟩ := hh
          have hh := getL_some h3083; clear h3083; obtain ⟨n3062, c3063, h3061, h3083⟩ := hh
          have hh := bnd'_some h3083; clear h3083; obtain ⟨p3076, h3077, h3083⟩ := hh
          refine W_sound tab_ok mixed 19 _ _ _ ?_
          simp -implicitDefEqProofs only [go_sem, ne_eq, not_false_eq_true, Nat.reduceBEq, Nat.reduceAdd, Nat.reduceSub, Nat.reduceMul, Nat.reduceLT, Nat.reduceLeDiff, Int.reduceLE, Int.reduceLT, Int.reduceToNat, Int.reduceBEq, Int.reduceBNe, Int.le_refl, Nat.le_refl, decide_true, decide_false, Int.cast_ofNat_Int, ↓reduceIte, h2508, h2513, h2515, h2548, h3053, h3057, g3058, g3059, g3060, h3061]
          repeat with_reducible refine And.intro (by first | kernel_rfl | decide) ?_
          refine Wp_callP (c88 N _ _ _ h3077) (by kernel_rfl) rfl rfl rfl rfl (by decide) ?_
          have hh := getB_some h3083; clear h3083; obtain ⟨b3079, h3078, h3083⟩ := hh
          have hh := brn_some h3083; clear h3083; rcases hh with ⟨h3080, h3083⟩ | ⟨h3080, h3083⟩
          · refine W_sound tab_ok mixed 13 _ _ _ ?_
            simp -implicitDefEqProofs only [go_sem, ne_eq, not_false_eq_true, Nat.reduceBEq, Nat.reduceAdd, Nat.reduceSub, Nat.reduceMul, Nat.reduceLT, Nat.reduceLeDiff, Int.reduceLE, Int.reduceLT, Int.reduceToNat, Int.reduceBEq, Int.reduceBNe, Int.le_refl, Nat.le_refl, decide_true, decide_false, Int.cast_ofNat_Int, ↓reduceIte, h2508, h2513, h2515, h2548, h3053, h3057, g3058, g3059, g3060, h3061, h3078, h3080]
            repeat with_reducible refine And.intro (by first | kernel_rfl | decide) ?_
            obtain rfl := Option.some.inj h3083
            (try dsimp only at h3084)
            obtain rfl := Option.some.inj h3084
            exact finC [(2, .v (.lst false n3062 c3063)), (3, .v (.int .i64 0))] [(2, .v (.lst false n3062 c3063)), (3, .v (.int .i64 0))] (by simp [leE, lk_cons]) (.cons _ _ _ _ _ (.v _ _ (.refl _)) (.cons _ _ _ _ _ (.v _ _ (.refl _)) .nil)) (by rfl) (by simp [leE, lk_cons]) (by decide) (by decide) rfl (by simp only [go_sem, ne_eq, not_false_eq_true, Nat.reduceBEq, Nat.reduceAdd, Nat.reduceSub, Nat.reduceMul, Nat.reduceLT, Nat.reduceLeDiff, Int.reduceLE, Int.reduceLT, Int.reduceToNat, Int.reduceBEq, Int.reduceBNe, Int.le_refl, Nat.le_refl, decide_true, decide_false, Int.cast_ofNat_Int, ↓reduceIte, resQ_tmp, resQ_cell, resQ_nil, retD_one, retD_two, retD_three, retD_none]; try simp [R.val, retD_one, retD_two, retD_three, retD_none])
          · refine W_sound tab_ok mixed 9 _ _ _ ?_
            simp -implicitDefEqProofs only [go_sem, ne_eq, not_false_eq_true, Nat.reduceBEq, Nat.reduceAdd, Nat.reduceSub, Nat.reduceMul, Nat.reduceLT, Nat.reduceLeDiff, Int.reduceLE, Int.reduceLT, Int.reduceToNat, Int.reduceBEq, Int.reduceBNe, Int.le_refl, Nat.le_refl, decide_true, decide_false, Int.cast_ofNat_Int, ↓reduceIte, h2508, h2513, h2515, h2548, h3053, h3057, g3058, g3059, g3060, h3061, h3078, h3080]
            repeat with_reducible refine And.intro (by first | kernel_rfl | decide) ?_
            exact cutQ _ ((Wk_le (.cons _ _ _ _ _ (.refl _) (.cons _ _ _ _ _ (.refl _) (.cons _ _ _ _ _ (.refl _) (.cons _ _ _ _ _ (.refl _) (.cons _ _ _ _ _ (.refl _) (.cons _ _ _ _ _ (.refl _) (.cons _ _ _ _ _ (.refl _) (.cons _ _ _ _ _ (.refl _) (.cons _ _ _ _ _ (.dead _) (.cons _ _ _ _ _ (.dead _) .nil)))))))))) (OLe.refl _)).trans (cmpS_ok rfl)) ⟨n, Nat.lt_succ_self n, _, h3083, rfl⟩
        · refine W_sound tab_ok mixed 10 _ _ _ ?_
          simp -implicitDefEqProofs only [go_sem, ne_eq, not_false_eq_true, Nat.reduceBEq, Nat.reduceAdd, Nat.reduceSub, Nat.reduceMul, Nat.reduceLT, Nat.reduceLeDiff, Int.reduceLE, Int.reduceLT, Int.reduceToNat, Int.reduceBEq, Int.reduceBNe, Int.le_refl, Nat.le_refl, decide_true, decide_false, Int.cast_ofNat_Int, ↓reduceIte, h2508, h2513, h2515, h2548, h3053, h3057]
          repeat with_reducible refine And.intro (by first | kernel_rfl | decide) ?_
          obtain rfl := Option.some.inj h3083
          exact cutQ _ ((Wk_le (.cons _ _ _ _ _ (.refl _) (.cons _ _ _ _ _ (.dead _) (.cons _ _ _ _ _ (.refl _) (.cons _ _ _ _ _ (.refl _) (.cons _ _ _ _ _ (.refl _) (.cons _ _ _ _ _ (.dead _) (.cons _ _ _ _ _ (.dead _) (.cons _ _ _ _ _ (.refl _) (.cons _ _ _ _ _ (.dead _) (.cons _ _ _ _ _ (.refl _) .nil)))))))))) (OLe.refl _)).trans (cmpS_ok rfl)) ⟨rfl, rfl⟩
    · rintro _ ⟨rfl, rfl⟩
      (try dsimp only at h3084)
      refine W_sound tab_ok mixed 7 _ _ _ ?_
      simp -implicitDefEqProofs only [go_sem, ne_eq, not_false_eq_true, Nat.reduceBEq, Nat.reduceAdd, Nat.reduceSub, Nat.reduceMul, Nat.reduceLT, Nat.reduceLeDiff, Int.reduceLE, Int.reduceLT, Int.reduceToNat, Int.reduceBEq, Int.reduceBNe, Int.le_refl, Nat.le_refl, decide_true, decide_false, Int.cast_ofNat_Int, ↓reduceIte, h2508, h2513, h2515, h2548, h3053]
      repeat with_reducible refine And.intro (by first | kernel_rfl | decide) ?_
      obtain rfl := Option.some.inj h3084
      exact finC [(2, .v .nl), (3, .v (.int .i64 13))] [(2, .v (.lst false 0 [])), (3, .v (.int .i64 13))] (by simp [leE, lk_cons]) (.cons _ _ _ _ _ (.v _ _ (.nl false)) (.cons _ _ _ _ _ (.v _ _ (.refl _)) .nil)) (by rfl) (by simp [leE, lk_cons]) (by decide) (by decide) rfl (by simp only [go_sem, ne_eq, not_false_eq_true, Nat.reduceBEq, Nat.reduceAdd, Nat.reduceSub, Nat.reduceMul, Nat.reduceLT, Nat.reduceLeDiff, Int.reduceLE, Int.reduceLT, Int.reduceToNat, Int.reduceBEq, Int.reduceBNe, Int.le_refl, Nat.le_refl, decide_true, decide_false, Int.cast_ofNat_Int, ↓reduceIte, resQ_tmp, resQ_cell, resQ_nil, retD_one, retD_two, retD_three, retD_none]; try simp [R.val, retD_one, retD_two, retD_three, retD_none])

def m39 (N : Nat) (p3085 : PV) (p3086 : PV) : Option (PV) :=
  getA2 p3085 fun p3088 p3089 =>
  getL p3086 fun n3091 c3092 =>
  bnd' (m65 N (.agg [p3088, p3089]) (.lst false n3091 c3092)) fun p3093 =>
  getI .i64 p3093 fun x3096 =>
  brn (x3096 == 0) (
    bnd' (m88 N (.agg [p3088, p3089]) (.lst false n3091 c3092)) fun p3098 =>
    getB p3098 fun b3101 =>
    brn b3101 (
      some (.int .i64 x3096)) (
      some (.int .i64 14))) (
    some (.int .i64 x3096))
theorem c39 (N : Nat) (p3085 : PV) (p3086 : PV) (r : PV)  (h : m39 N p3085 p3086 = some r) : FnP Tryd.prog 39 [p3085, p3086] r := by
  unfold m39 at h
  refine Fn_of (sz := 18) tab_ok [0, 1, 2, 4, 5, 16] [.tmp 4] Tryd.func39 rfl rfl rfl (by simp) ?_
  simp only [initSt, initEnv, List.map_cons, List.map_nil, List.getD_cons_zero, List.getD_cons_succ, List.getD_nil]
  have hh := getA2_some h; clear h; obtain ⟨p3088, p3089, h3087, h⟩ := hh
  have hh := getL_some h; clear h; obtain ⟨n3091, c3092, h3090, h⟩ := hh
  have hh := bnd'_some h; clear h; obtain ⟨p3093, h3094, h⟩ := hh
  refine W_sound tab_ok mixed 9 _ _ _ ?_
  simp -implicitDefEqProofs only [go_sem, ne_eq, not_false_eq_true, Nat.reduceBEq, Nat.reduceAdd, Nat.reduceSub, Nat.reduceMul, Nat.reduceLT, Nat.reduceLeDiff, Int.reduceLE, Int.reduceLT, Int.reduceToNat, Int.reduceBEq, Int.reduceBNe, Int.le_refl, Nat.le_refl, decide_true, decide_false, Int.cast_ofNat_Int, ↓reduceIte, h3087, h3090]
  repeat with_reducible refine And.intro (by first | kernel_rfl | decide) ?_
  refine Wp_callP (c65 N _ _ _ h3094) (by kernel_rfl) rfl rfl rfl rfl (by decide) ?_
  have hh := getI_some h; clear h; obtain ⟨x3096, h3095, h⟩ := hh
  have hh := brn_some h; clear h; rcases hh with ⟨h3097, h⟩ | ⟨h3097, h⟩
  · have hh := bnd'_some h; clear h; obtain ⟨p3098, h3099, h⟩ := hh
    refine W_sound tab_ok mixed 10 _ _ _ ?_
    simp -implicitDefEqProofs only [go_sem, ne_eq, not_false_eq_true, Nat.reduceBEq, Nat.reduceAdd, Nat.reduceSub, Nat.reduceMul, Nat.reduceLT, Nat.reduceLeDiff, Int.reduceLE, Int.reduceLT, Int.reduceToNat, Int.reduceBEq, Int.reduceBNe, Int.le_refl, Nat.le_refl, decide_true, decide_false, Int.cast_ofNat_Int, ↓reduceIte, h3087, h3090, h3095, h3097]
    repeat with_reducible refine And.intro (by first | kernel_rfl | decide) ?_
    refine Wp_callP (c88 N _ _ _ h3099) (by kernel_rfl) rfl rfl rfl rfl (by decide) ?_
    have hh := getB_some h; clear h; obtain ⟨b3101, h3100, h⟩ := hh
    have hh := brn_some h; clear h; rcases hh with ⟨h3102, h⟩ | ⟨h3102, h⟩
    · refine W_sound tab_ok mixed 12 _ _ _ ?_
      simp -implicitDefEqProofs only [go_sem, ne_eq, not_false_eq_true, Nat.reduceBEq, Nat.reduceAdd, Nat.reduceSub, Nat.reduceMul, Nat.reduceLT, Nat.reduceLeDiff, Int.reduceLE, Int.reduceLT, Int.reduceToNat, Int.reduceBEq, Int.reduceBNe, Int.le_refl, Nat.le_refl, decide_true, decide_false, Int.cast_ofNat_Int, ↓reduceIte, h3087, h3090, h3095, h3097, h3100, h3102]
      repeat with_reducible refine And.intro (by first | kernel_rfl | decide) ?_
      obtain rfl := Option.some.inj h
      exact finC [(4, .v (.int .i64 x3096))] [(4, .v (.int .i64 x3096))] (by simp [leE, lk_cons]) (.cons _ _ _ _ _ (.v _ _ (.refl _)) .nil) (by rfl) (by simp [leE, lk_cons]) (by decide) (by decide) rfl (by simp only [go_sem, ne_eq, not_false_eq_true, Nat.reduceBEq, Nat.reduceAdd, Nat.reduceSub, Nat.reduceMul, Nat.reduceLT, Nat.reduceLeDiff, Int.reduceLE, Int.reduceLT, Int.reduceToNat, Int.reduceBEq, Int.reduceBNe, Int.le_refl, Nat.le_refl, decide_true, decide_false, Int.cast_ofNat_Int, ↓reduceIte, resQ_tmp, resQ_cell, resQ_nil, retD_one, retD_two, retD_three, retD_none]; try simp [R.val, retD_one, retD_two, retD_three, retD_none])
    · refine W_sound tab_ok mixed 14 _ _ _ ?_
      simp -implicitDefEqProofs only [go_sem, ne_eq, not_false_eq_true, Nat.reduceBEq, Nat.reduceAdd, Nat.reduceSub, Nat.reduceMul, Nat.reduceLT, Nat.reduceLeDiff, Int.reduceLE, Int.reduceLT, Int.reduceToNat, Int.reduceBEq, Int.reduceBNe, Int.le_refl, Nat.le_refl, decide_true, decide_false, Int.cast_ofNat_Int, ↓reduceIte, h3087, h3090, h3095, h3097, h3100, h3102]
      repeat with_reducible refine And.intro (by first | kernel_rfl | decide) ?_
      obtain rfl := Option.some.inj h
      exact finC [(4, .v (.int .i64 14))] [(4, .v (.int .i64 14))] (by simp [leE, lk_cons]) (.cons _ _ _ _ _ (.v _ _ (.refl _)) .nil) (by rfl) (by simp [leE, lk_cons]) (by decide) (by decide) rfl (by simp only [go_sem, ne_eq, not_false_eq_true, Nat.reduceBEq, Nat.reduceAdd, Nat.reduceSub, Nat.reduceMul, Nat.reduceLT, Nat.reduceLeDiff, Int.reduceLE, Int.reduceLT, Int.reduceToNat, Int.reduceBEq, Int.reduceBNe, Int.le_refl, Nat.le_refl, decide_true, decide_false, Int.cast_ofNat_Int, ↓reduceIte, resQ_tmp, resQ_cell, resQ_nil, retD_one, retD_two, retD_three, retD_none]; try simp [R.val, retD_one, retD_two, retD_three, retD_none])
  · refine W_sound tab_ok mixed 23 _ _ _ ?_
    simp -implicitDefEqProofs only [go_sem, ne_eq, not_false_eq_true, Nat.reduceBEq, Nat.reduceAdd, Nat.reduceSub, Nat.reduceMul, Nat.reduceLT, Nat.reduceLeDiff, Int.reduceLE, Int.reduceLT, Int.reduceToNat, Int.reduceBEq, Int.reduceBNe, Int.le_refl, Nat.le_refl, decide_true, decide_false, Int.cast_ofNat_Int, ↓reduceIte, h3087, h3090, h3095, h3097]
    repeat with_reducible refine And.intro (by first | kernel_rfl | decide) ?_
    obtain rfl := Option.some.inj h
    exact finC [(4, .v (.int .i64 x3096))] [(4, .v (.int .i64 x3096))] (by simp [leE, lk_cons]) (.cons _ _ _ _ _ (.v _ _ (.refl _)) .nil) (by rfl) (by simp [leE, lk_cons]) (by decide) (by decide) rfl (by simp only [go_sem, ne_eq, not_false_eq_true, Nat.reduceBEq, Nat.reduceAdd, Nat.reduceSub, Nat.reduceMul, Nat.reduceLT, Nat.reduceLeDiff, Int.reduceLE, Int.reduceLT, Int.reduceToNat, Int.reduceBEq, Int.reduceBNe, Int.le_refl, Nat.le_refl, decide_true, decide_false, Int.cast_ofNat_Int, ↓reduceIte, resQ_tmp, resQ_cell, resQ_nil, retD_one, retD_two, retD_three, retD_none]; try simp [R.val, retD_one, retD_two, retD_three, retD_none])

def m6 (N : Nat) (p3103 : PV) (p3104 : PV) : Option (PV) :=
  getA2 p3103 fun p3106 p3107 =>
  getL p3104 fun n3109 c3110 =>
  bnd' (m15 N (.agg [p3106, p3107])) fun p3111 =>
  getB p3111 fun b3114 =>
  brn b3114 (
    bnd' (m16 N ) fun p3116 =>
    getB p3116 fun b3119 =>
    some (.bool b3119)) (
    brn (decide (((n3109 : Nat) : Int) > 20)) (
      bnd' (m16 N ) fun p3121 =>
      getB p3121 fun b3124 =>
      some (.bool b3124)) (
      getI .i64 p3106 fun x3126 =>
      bnd' (m36 N (.agg [(.int .i64 x3126), p3107])) fun p3127 =>
      getT2 p3127 fun p3130 p3131 =>
      getL p3130 fun n3133 c3134 =>
      getI .i64 p3131 fun x3136 =>
      bnd' (m37 N (.agg [(.int .i64 x3126), p3107])) fun p3137 =>
      getT2 p3137 fun p3140 p3141 =>
      getL p3140 fun n3143 c3144 =>
      getI .i64 p3141 fun x3146 =>
      bnd' (m21 N (.lst false n3133 c3134) (.lst false n3143 c3144)) fun p3147 =>
      getB p3147 fun b3150 =>
      brn b3150 (
        brn (x3136 == x3146) (
          bnd' (m38 N (.agg [(.int .i64 x3126), p3107]) (.lst false n3109 c3110)) fun p3153 =>
          getI .i64 p3153 fun x3156 =>
          bnd' (m39 N (.agg [(.int .i64 x3126), p3107]) (.lst false n3109 c3110)) fun p3157 =>
          getI .i64 p3157 fun x3160 =>
          brn (x3156 == x3160) (
            bnd' (m16 N ) fun p3162 =>
            getB p3162 fun b3165 =>
            some (.bool b3165)) (
            some (.bool false))) (
          some (.bool false))) (
        some (.bool false))))
theorem c6 (N : Nat) (p3103 : PV) (p3104 : PV) (r : PV)  (h : m6 N p3103 p3104 = some r) : FnP Tryd.prog 6 [p3103, p3104] r := by
  unfold m6 at h
  refine Fn_of (sz := 49) tab_ok [0, 1, 2, 4, 5, 6, 7, 8, 9, 16] [.tmp 4] Tryd.func6 rfl rfl rfl (by simp) ?_
  simp only [initSt, initEnv, List.map_cons, List.map_nil, List.getD_cons_zero, List.getD_cons_succ, List.getD_nil]
  have hh := getA2_some h; clear h; obtain ⟨p3106, p3107, h3105, h⟩ := hh
  have hh := getL_some h; clear h; obtain ⟨n3109, c3110, h3108, h⟩ := hh
  have hh := bnd'_some h; clear h; obtain ⟨p3111, h3112, h⟩ := hh
  refine W_sound tab_ok mixed 9 _ _ _ ?_
  simp -implicitDefEqProofs only [go_sem, ne_eq, not_false_eq_true, Nat.reduceBEq, Nat.reduceAdd, Nat.reduceSub, Nat.reduceMul, Nat.reduceLT, Nat.reduceLeDiff, Int.reduceLE, Int.reduceLT, Int.reduceToNat, Int.reduceBEq, Int.reduceBNe, Int.le_refl, Nat.le_refl, decide_true, decide_false, Int.cast_ofNat_Int, ↓reduceIte, h3105, h3108]
  repeat with_reducible refine And.intro (by first | kernel_rfl | decide) ?_
  refine Wp_callP (c15 N _ _ h3112) (by kernel_rfl) rfl rfl rfl rfl (by decide) ?_
  have hh := getB_some h; clear h; obtain ⟨b3114, h3113, h⟩ := hh
  have hh := brn_some h; clear h; rcases hh with ⟨h3115, h⟩ | ⟨h3115, h⟩
  · have hh := bnd'_some h; clear h; obtain ⟨p3116, h3117, h⟩ := hh
    refine W_sound tab_ok mixed 9 _ _ _ ?_
    simp -implicitDefEqProofs only [go_sem, ne_eq, not_false_eq_true, Nat.reduceBEq, Nat.reduceAdd, Nat.reduceSub, Nat.reduceMul, Nat.reduceLT, Nat.reduceLeDiff, Int.reduceLE, Int.reduceLT, Int.reduceToNat, Int.reduceBEq, Int.reduceBNe, Int.le_refl, Nat.le_refl, decide_true, decide_false, Int.cast_ofNat_Int, ↓reduceIte, h3105, h3108, h3113, h3115]
    repeat with_reducible refine And.intro (by first | kernel_rfl | decide) ?_
    refine Wp_callP (c16 N  _ h3117) (by kernel_rfl) rfl rfl rfl rfl (by decide) ?_
    have hh := getB_some h; clear h; obtain ⟨b3119, h3118, h⟩ := hh
    refine W_sound tab_ok mixed 4 _ _ _ ?_
    simp -implicitDefEqProofs only [go_sem, ne_eq, not_false_eq_true, Nat.reduceBEq, Nat.reduceAdd, Nat.reduceSub, Nat.reduceMul, Nat.reduceLT, Nat.reduceLeDiff, Int.reduceLE, Int.reduceLT, Int.reduceToNat, Int.reduceBEq, Int.reduceBNe, Int.le_refl, Nat.le_refl, decide_true, decide_false, Int.cast_ofNat_Int, ↓reduceIte, h3105, h3108, h3113, h3115, h3118]
    repeat with_reducible refine And.intro (by first | kernel_rfl | decide) ?_
    obtain rfl := Option.some.inj h
    exact finC [(4, .v (.bool b3119))] [(4, .v (.bool b3119))] (by simp [leE, lk_cons]) (.cons _ _ _ _ _ (.v _ _ (.refl _)) .nil) (by rfl) (by simp [leE, lk_cons]) (by decide) (by decide) rfl (by simp only [go_sem, ne_eq, not_false_eq_true, Nat.reduceBEq, Nat.reduceAdd, Nat.reduceSub, Nat.reduceMul, Nat.reduceLT, Nat.reduceLeDiff, Int.reduceLE, Int.reduceLT, Int.reduceToNat, Int.reduceBEq, Int.reduceBNe, Int.le_refl, Nat.le_refl, decide_true, decide_false, Int.cast_ofNat_Int, ↓reduceIte, resQ_tmp, resQ_cell, resQ_nil, retD_one, retD_two, retD_three, retD_none]; try simp [R.val, retD_one, retD_two, retD_three, retD_none])
  · have hh := brn_some h; clear h; rcases hh with ⟨h3120, h⟩ | ⟨h3120, h⟩
    · have hh := bnd'_some h; clear h; obtain ⟨p3121, h3122, h⟩ := hh
      refine W_sound tab_ok mixed 9 _ _ _ ?_
      simp -implicitDefEqProofs only [go_sem, ne_eq, not_false_eq_true, Nat.reduceBEq, Nat.reduceAdd, Nat.reduceSub, Nat.reduceMul, Nat.reduceLT, Nat.reduceLeDiff, Int.reduceLE, Int.reduceLT, Int.reduceToNat, Int.reduceBEq, Int.reduceBNe, Int.le_refl, Nat.le_refl, decide_true, decide_false, Int.cast_ofNat_Int, ↓reduceIte, h3105, h3108, h3113, h3115, h3120]
      repeat with_reducible refine And.intro (by first | kernel_rfl | decide) ?_
      refine Wp_callP (c16 N  _ h3122) (by kernel_rfl) rfl rfl rfl rfl (by decide) ?_
      have hh := getB_some h; clear h; obtain ⟨b3124, h3123, h⟩ := hh
      refine W_sound tab_ok mixed 4 _ _ _ ?_
      simp -implicitDefEqProofs only [go_sem, ne_eq, not_false_eq_true, Nat.reduceBEq, Nat.reduceAdd, Nat.reduceSub, Nat.reduceMul, Nat.reduceLT, Nat.reduceLeDiff, Int.reduceLE, Int.reduceLT, Int.reduceToNat, Int.reduceBEq, Int.reduceBNe, Int.le_refl, Nat.le_refl, decide_true, decide_false, Int.cast_ofNat_Int, ↓reduceIte, h3105, h3108, h3113, h3115, h3120, h3123]
      repeat with_reducible refine And.intro (by first | kernel_rfl | decide) ?_
      obtain rfl := Option.some.inj h
      exact finC [(4, .v (.bool b3124))] [(4, .v (.bool b3124))] (by simp [leE, lk_cons]) (.cons _ _ _ _ _ (.v _ _ (.refl _)) .nil) (by rfl) (by simp [leE, lk_cons]) (by decide) (by decide) rfl (by simp only [go_sem, ne_eq, not_false_eq_true, Nat.reduceBEq, Nat.reduceAdd, Nat.reduceSub, Nat.reduceMul, Nat.reduceLT, Nat.reduceLeDiff, Int.reduceLE, Int.reduceLT, Int.reduceToNat, Int.reduceBEq, Int.reduceBNe, Int.le_refl, Nat.le_refl, decide_true, decide_false, Int.cast_ofNat_Int, ↓reduceIte, resQ_tmp, resQ_cell, resQ_nil, retD_one, retD_two, retD_three, retD_none]; try simp [R.val, retD_one, retD_two, retD_three, retD_none])
    · have hh := getI_some h; clear h; obtain ⟨x3126, h3125, h⟩ := hh
      have hh := bnd'_some h; clear h; obtain ⟨p3127, h3128, h⟩ := hh
      refine W_sound tab_ok mixed 17 _ _ _ ?_
      simp -implicitDefEqProofs only [go_sem, ne_eq, not_false_eq_true, Nat.reduceBEq, Nat.reduceAdd, Nat.reduceSub, Nat.reduceMul, Nat.reduceLT, Nat.reduceLeDiff, Int.reduceLE, Int.reduceLT, Int.reduceToNat, Int.reduceBEq, Int.reduceBNe, Int.le_refl, Nat.le_refl, decide_true, decide_false, Int.cast_ofNat_Int, ↓reduceIte, h3105, h3108, h3113, h3115, h3120, h3125]
      repeat with_reducible refine And.intro (by first | kernel_rfl | decide) ?_
      refine Wp_callP (c36 N _ _ h3128) (by kernel_rfl) rfl rfl rfl rfl (by decide) ?_
      have hh := getT2_some h; clear h; obtain ⟨p3130, p3131, h3129, h⟩ := hh
      have hh := getL_some h; clear h; obtain ⟨n3133, c3134, h3132, h⟩ := hh
      have hh := getI_some h; clear h; obtain ⟨x3136, h3135, h⟩ := hh
      have hh := bnd'_some h; clear h; obtain ⟨p3137, h3138, h⟩ := hh
      refine W_sound tab_ok mixed 9 _ _ _ ?_
      simp -implicitDefEqProofs only [go_sem, ne_eq, not_false_eq_true, Nat.reduceBEq, Nat.reduceAdd, Nat.reduceSub, Nat.reduceMul, Nat.reduceLT, Nat.reduceLeDiff, Int.reduceLE, Int.reduceLT, Int.reduceToNat, Int.reduceBEq, Int.reduceBNe, Int.le_refl, Nat.le_refl, decide_true, decide_false, Int.cast_ofNat_Int, ↓reduceIte, h3105, h3108, h3113, h3115, h3120, h3125, h3129, h3132, h3135]
      repeat with_reducible refine And.intro (by first | kernel_rfl | decide) ?_
      refine Wp_callP (c37 N _ _ h3138) (by kernel_rfl) rfl rfl rfl rfl (by decide) ?_
      have hh := getT2_some h; clear h; obtain ⟨p3140, p3141, h3139, h⟩ := hh
      have hh := getL_some h; clear h; obtain ⟨n3143, c3144, h3142, h⟩ := hh
      have hh := getI_some h; clear h; obtain ⟨x3146, h3145, h⟩ := hh
      have hh := bnd'_some h; clear h; obtain ⟨p3147, h3148, h⟩ := hh
      refine W_sound tab_ok mixed 10 _ _ _ ?_
      simp -implicitDefEqProofs only [go_sem, ne_eq, not_false_eq_true, Nat.reduceBEq, Nat.reduceAdd, Nat.reduceSub, Nat.reduceMul, Nat.reduceLT, Nat.reduceLeDiff, Int.reduceLE, Int.reduceLT, Int.reduceToNat, Int.reduceBEq, Int.reduceBNe, Int.le_refl, Nat.le_refl, decide_true, decide_false, Int.cast_ofNat_Int, ↓reduceIte, h3105, h3108, h3113, h3115, h3120, h3125, h3129, h3132, h3135, h3139, h3142, h3145]
      repeat with_reducible refine And.intro (by first | kernel_rfl | decide) ?_
      refine Wp_callP (c21 N _ _ _ h3148) (by kernel_rfl) rfl rfl rfl rfl (by decide) ?_
      have hh := getB_some h; clear h; obtain ⟨b3150, h3149, h⟩ := hh
      have hh := brn_some h; clear h; rcases hh with ⟨h3151, h⟩ | ⟨h3151, h⟩
      · have hh := brn_some h; clear h; rcases hh with ⟨h3152, h⟩ | ⟨h3152, h⟩
        · have hh := bnd'_some h; clear h; obtain ⟨p3153, h3154, h⟩ := hh
          refine W_sound tab_ok mixed 8 _ _ _ ?_
          simp -implicitDefEqProofs only [go_sem, ne_eq, not_false_eq_true, Nat.reduceBEq, Nat.reduceAdd, Nat.reduceSub, Nat.reduceMul, Nat.reduceLT, Nat.reduceLeDiff, Int.reduceLE, Int.reduceLT, Int.reduceToNat, Int.reduceBEq, Int.reduceBNe, Int.le_refl, Nat.le_refl, decide_true, decide_false, Int.cast_ofNat_Int, ↓reduceIte, h3105, h3108, h3113, h3115, h3120, h3125, h3129, h3132, h3135, h3139, h3142, h3145, h3149, h3151, h3152]
          repeat with_reducible refine And.intro (by first | kernel_rfl | decide) ?_
          refine Wp_callP (c38 N _ _ _ h3154) (by kernel_rfl) rfl rfl rfl rfl (by decide) ?_
          have hh := getI_some h; clear h; obtain ⟨x3156, h3155, h⟩ := hh
          have hh := bnd'_some h; clear h; obtain ⟨p3157, h3158, h⟩ := hh
          refine W_sound tab_ok mixed 2 _ _ _ ?_
          simp -implicitDefEqProofs only [go_sem, ne_eq, not_false_eq_true, Nat.reduceBEq, Nat.reduceAdd, Nat.reduceSub, Nat.reduceMul, Nat.reduceLT, Nat.reduceLeDiff, Int.reduceLE, Int.reduceLT, Int.reduceToNat, Int.reduceBEq, Int.reduceBNe, Int.le_refl, Nat.le_refl, decide_true, decide_false, Int.cast_ofNat_Int, ↓reduceIte, h3105, h3108, h3113, h3115, h3120, h3125, h3129, h3132, h3135, h3139, h3142, h3145, h3149, h3151, h3152, h3155]
          repeat with_reducible refine And.intro (by first | kernel_rfl | decide) ?_
          refine Wp_callP (c39 N _ _ _ h3158) (by kernel_rfl) rfl rfl rfl rfl (by decide) ?_
          have hh := getI_some h; clear h; obtain ⟨x3160, h3159, h⟩ := hh
          have hh := brn_some h; clear h; rcases hh with ⟨h3161, h⟩ | ⟨h3161, h⟩
          · have hh := bnd'_some h; clear h; obtain ⟨p3162, h3163, h⟩ := hh
            refine W_sound tab_ok mixed 3 _ _ _ ?_
            simp -implicitDefEqProofs only [go_sem, ne_eq, not_false_eq_true, Nat.reduceBEq, Nat.reduceAdd, Nat.reduceSub, Nat.reduceMul, Nat.reduceLT, Nat.reduceLeDiff, Int.reduceLE, Int.reduceLT, Int.reduceToNat, Int.reduceBEq, Int.reduceBNe, Int.le_refl, Nat.le_refl, decide_true, decide_false, Int.cast_ofNat_Int, ↓reduceIte, h3105, h3108, h3113, h3115, h3120, h3125, h3129, h3132, h3135, h3139, h3142, h3145, h3149, h3151, h3152, h3155, h3159, h3161]
            repeat with_reducible refine And.intro (by first | kernel_rfl | decide) ?_
            refine Wp_callP (c16 N  _ h3163) (by kernel_rfl) rfl rfl rfl rfl (by decide) ?_
            have hh := getB_some h; clear h; obtain ⟨b3165, h3164, h⟩ := hh
            refine W_sound tab_ok mixed 5 _ _ _ ?_
            simp -implicitDefEqProofs only [go_sem, ne_eq, not_false_eq_true, Nat.reduceBEq, Nat.reduceAdd, Nat.reduceSub, Nat.reduceMul, Nat.reduceLT, Nat.reduceLeDiff, Int.reduceLE, Int.reduceLT, Int.reduceToNat, Int.reduceBEq, Int.reduceBNe, Int.le_refl, Nat.le_refl, decide_true, decide_false, Int.cast_ofNat_Int, ↓reduceIte, h3105, h3108, h3113, h3115, h3120, h3125, h3129, h3132, h3135, h3139, h3142, h3145, h3149, h3151, h3152, h3155, h3159, h3161, h3164]
            repeat with_reducible refine And.intro (by first | kernel_rfl | decide) ?_
            obtain rfl := Option.some.inj h
            exact finC [(4, .v (.bool b3165))] [(4, .v (.bool b3165))] (by simp [leE, lk_cons]) (.cons _ _ _ _ _ (.v _ _ (.refl _)) .nil) (by rfl) (by simp [leE, lk_cons]) (by decide) (by decide) rfl (by simp only [go_sem, ne_eq, not_false_eq_true, Nat.reduceBEq, Nat.reduceAdd, Nat.reduceSub, Nat.reduceMul, Nat.reduceLT, Nat.reduceLeDiff, Int.reduceLE, Int.reduceLT, Int.reduceToNat, Int.reduceBEq, Int.reduceBNe, Int.le_refl, Nat.le_refl, decide_true, decide_false, Int.cast_ofNat_Int, ↓reduceIte, resQ_tmp, resQ_cell, resQ_nil, retD_one, retD_two, retD_three, retD_none]; try simp [R.val, retD_one, retD_two, retD_three, retD_none])
          · refine W_sound tab_ok mixed 9 _ _ _ ?_
            simp -implicitDefEqProofs only [go_sem, ne_eq, not_false_eq_true, Nat.reduceBEq, Nat.reduceAdd, Nat.reduceSub, Nat.reduceMul, Nat.reduceLT, Nat.reduceLeDiff, Int.reduceLE, Int.reduceLT, Int.reduceToNat, Int.reduceBEq, Int.reduceBNe, Int.le_refl, Nat.le_refl, decide_true, decide_false, Int.cast_ofNat_Int, ↓reduceIte, h3105, h3108, h3113, h3115, h3120, h3125, h3129, h3132, h3135, h3139, h3142, h3145, h3149, h3151, h3152, h3155, h3159, h3161]
            repeat with_reducible refine And.intro (by first | kernel_rfl | decide) ?_
            obtain rfl := Option.some.inj h
            exact finC [(4, .v (.bool false))] [(4, .v (.bool false))] (by simp [leE, lk_cons]) (.cons _ _ _ _ _ (.v _ _ (.refl _)) .nil) (by rfl) (by simp [leE, lk_cons]) (by decide) (by decide) rfl (by simp only [go_sem, ne_eq, not_false_eq_true, Nat.reduceBEq, Nat.reduceAdd, Nat.reduceSub, Nat.reduceMul, Nat.reduceLT, Nat.reduceLeDiff, Int.reduceLE, Int.reduceLT, Int.reduceToNat, Int.reduceBEq, Int.reduceBNe, Int.le_refl, Nat.le_refl, decide_true, decide_false, Int.cast_ofNat_Int, ↓reduceIte, resQ_tmp, resQ_cell, resQ_nil, retD_one, retD_two, retD_three, retD_none]; try simp [R.val, retD_one, retD_two, retD_three, retD_none])
        · refine W_sound tab_ok mixed 21 _ _ _ ?_
          simp -implicitDefEqProofs only [go_sem, ne_eq, not_false_eq_true, Nat.reduceBEq, Nat.reduceAdd, Nat.reduceSub, Nat.reduceMul, Nat.reduceLT, Nat.reduceLeDiff, Int.reduceLE, Int.reduceLT, Int.reduceToNat, Int.reduceBEq, Int.reduceBNe, Int.le_refl, Nat.le_refl, decide_true, decide_false, Int.cast_ofNat_Int, ↓reduceIte, h3105, h3108, h3113, h3115, h3120, h3125, h3129, h3132, h3135, h3139, h3142, h3145, h3149, h3151, h3152]
          repeat with_reducible refine And.intro (by first | kernel_rfl | decide) ?_
          obtain rfl := Option.some.inj h
          exact finC [(4, .v (.bool false))] [(4, .v (.bool false))] (by simp [leE, lk_cons]) (.cons _ _ _ _ _ (.v _ _ (.refl _)) .nil) (by rfl) (by simp [leE, lk_cons]) (by decide) (by decide) rfl (by simp only [go_sem, ne_eq, not_false_eq_true, Nat.reduceBEq, Nat.reduceAdd, Nat.reduceSub, Nat.reduceMul, Nat.reduceLT, Nat.reduceLeDiff, Int.reduceLE, Int.reduceLT, Int.reduceToNat, Int.reduceBEq, Int.reduceBNe, Int.le_refl, Nat.le_refl, decide_true, decide_false, Int.cast_ofNat_Int, ↓reduceIte, resQ_tmp, resQ_cell, resQ_nil, retD_one, retD_two, retD_three, retD_none]; try simp [R.val, retD_one, retD_two, retD_three, retD_none])
      · refine W_sound tab_ok mixed 21 _ _ _ ?_
        simp -implicitDefEqProofs only [go_sem, ne_eq, not_false_eq_true, Nat.reduceBEq, Nat.reduceAdd, Nat.reduceSub, Nat.reduceMul, Nat.reduceLT, Nat.reduceLeDiff, Int.reduceLE, Int.reduceLT, Int.reduceToNat, Int.reduceBEq, Int.reduceBNe, Int.le_refl, Nat.le_refl, decide_true, decide_false, Int.cast_ofNat_Int, ↓reduceIte, h3105, h3108, h3113, h3115, h3120, h3125, h3129, h3132, h3135, h3139, h3142, h3145, h3149, h3151]
        repeat with_reducible refine And.intro (by first | kernel_rfl | decide) ?_
        obtain rfl := Option.some.inj h
        exact finC [(4, .v (.bool false))] [(4, .v (.bool false))] (by simp [leE, lk_cons]) (.cons _ _ _ _ _ (.v _ _ (.refl _)) .nil) (by rfl) (by simp [leE, lk_cons]) (by decide) (by decide) rfl (by simp only [go_sem, ne_eq, not_false_eq_true, Nat.reduceBEq, Nat.reduceAdd, Nat.reduceSub, Nat.reduceMul, Nat.reduceLT, Nat.reduceLeDiff, Int.reduceLE, Int.reduceLT, Int.reduceToNat, Int.reduceBEq, Int.reduceBNe, Int.le_refl, Nat.le_refl, decide_true, decide_false, Int.cast_ofNat_Int, ↓reduceIte, resQ_tmp, resQ_cell, resQ_nil, retD_one, retD_two, retD_three, retD_none]; try simp [R.val, retD_one, retD_two, retD_three, retD_none])
end Go.Proofs.YtnponojgpkbagaaDoor

namespace Go.Crew

def ja (j : List Nat) (s : Nat) : Nat := j.getD s 0
def jnd (j : List Nat) (p : Nat × Nat) : Bool := ja j p.1 == ja j p.2
def lo (j : List Nat) (p : Nat × Nat) : Nat := min (ja j p.1) (ja j p.2)
def hi (j : List Nat) (p : Nat × Nat) : Nat := max (ja j p.1) (ja j p.2)
def wth (j : List Nat) (p : Nat × Nat) : List Nat := j.map fun x => if x = hi j p then lo j p else x
/-- pairs are joined one after the other -/
def runJ : List Nat → List (Nat × Nat) → List Nat
  | j, [] => j
  | j, p :: l => if jnd j p then runJ j l else runJ (wth j p) l
def cntJ : List Nat → List (Nat × Nat) → Nat
  | _, [] => 0
  | j, p :: l => if jnd j p then cntJ j l else cntJ (wth j p) l + 1
def apt : List Nat := List.range 5
def rk (L : List (Nat × Nat)) : Nat := cntJ apt L

structure Can (j : List Nat) : Prop where
  len : j.length = 5
  le : ∀ s, s < 5 → ja j s ≤ s
  id : ∀ s, s < 5 → ja j (ja j s) = ja j s
theorem wth_at {j : List Nat} (h : j.length = 5) (p : Nat × Nat) {s : Nat} (hs : s < 5) : ja (wth j p) s = if ja j s = hi j p then lo j p else ja j s := by
  simp [ja, wth, List.getD, h, hs]
theorem can_apt : Can apt := ⟨by decide, by decide, by decide⟩
def Ok (L : List (Nat × Nat)) : Prop := ∀ p ∈ L, p.1 < 5 ∧ p.2 < 5
theorem lo_le {j : List Nat} {p : Nat × Nat} : lo j p ≤ hi j p := by unfold lo hi; omega
theorem lo_or {j : List Nat} {p : Nat × Nat} : lo j p = ja j p.1 ∨ lo j p = ja j p.2 := by unfold lo; omega
theorem hi_or {j : List Nat} {p : Nat × Nat} : hi j p = ja j p.1 ∨ hi j p = ja j p.2 := by unfold hi; omega
theorem can_wth {j : List Nat} (h : Can j) {p : Nat × Nat} (hp : p.1 < 5 ∧ p.2 < 5) : Can (wth j p) := by
  have hlo : lo j p < 5 ∧ ja j (lo j p) = lo j p := by
    rcases lo_or (j := j) (p := p) with e | e <;> rw [e]
    · exact ⟨by have := h.le _ hp.1; omega, h.id _ hp.1⟩
    · exact ⟨by have := h.le _ hp.2; omega, h.id _ hp.2⟩
  refine ⟨by simp [wth, h.len], fun s hs => ?_, fun s hs => ?_⟩
  · rw [wth_at h.len p hs]
    have := h.le s hs
    have := lo_le (j := j) (p := p)
    split <;> omega
  · rw [wth_at h.len p hs]
    have h1 := h.le s hs
    have h2 := h.id s hs
    split
    · rw [wth_at h.len p hlo.1, hlo.2]
      split <;> rfl
    · rename_i hn
      rw [wth_at h.len p (by omega), h2, if_neg hn]
theorem can_run : ∀ {L : List (Nat × Nat)} {j : List Nat}, Can j → Ok L → Can (runJ j L)
  | [], _, h, _ => h
  | p :: L, j, h, hL => by
    simp only [runJ]
    split
    · exact can_run h fun q hq => hL q (.tail _ hq)
    · exact can_run (can_wth h (hL p (.head _))) fun q hq => hL q (.tail _ hq)
/-- finer -/
def Fin' (j j' : List Nat) : Prop := ∀ s t, s < 5 → t < 5 → ja j s = ja j t → ja j' s = ja j' t
theorem fin_refl (j : List Nat) : Fin' j j := fun _ _ _ _ h => h
theorem fin_wth {j : List Nat} (h : Can j) {p : Nat × Nat} : Fin' j (wth j p) := fun s t hs ht e => by
  rw [wth_at h.len p hs, wth_at h.len p ht, e]
theorem wth_jnd {j : List Nat} (h : Can j) {p : Nat × Nat} (hp : p.1 < 5 ∧ p.2 < 5) : ja (wth j p) p.1 = ja (wth j p) p.2 := by
  rw [wth_at h.len p hp.1, wth_at h.len p hp.2]
  unfold lo hi
  split <;> split <;> omega
/-- joining is the least that joins a pair -/
theorem wth_least {j j' : List Nat} (h : Can j) {p : Nat × Nat} (hp : p.1 < 5 ∧ p.2 < 5) (hf : Fin' j j') (hj : ja j' p.1 = ja j' p.2) : Fin' (wth j p) j' := by
  intro s t hs ht e
  rw [wth_at h.len p hs, wth_at h.len p ht] at e
  have key : ∀ s, s < 5 → (ja j s = ja j p.1 ∨ ja j s = ja j p.2) → ja j' s = ja j' p.1 := fun s hs h => by
    rcases h with h | h
    · exact hf _ _ hs hp.1 h
    · rw [hj]; exact hf _ _ hs hp.2 h
  have k1 : ja j s = hi j p → ja j' s = ja j' p.1 := fun h => key s hs (by rcases hi_or (j := j) (p := p) with e | e <;> simp [h, e])
  have k2 : ja j t = hi j p → ja j' t = ja j' p.1 := fun h => key t ht (by rcases hi_or (j := j) (p := p) with e | e <;> simp [h, e])
  have k3 : ja j s = lo j p → ja j' s = ja j' p.1 := fun h => key s hs (by rcases lo_or (j := j) (p := p) with e | e <;> simp [h, e])
  have k4 : ja j t = lo j p → ja j' t = ja j' p.1 := fun h => key t ht (by rcases lo_or (j := j) (p := p) with e | e <;> simp [h, e])
  split at e
  · rename_i a
    split at e
    · rename_i b; rw [k1 a, k2 b]
    · rw [k1 a, k4 e.symm]
  · split at e
    · rename_i b; rw [k3 e, k2 b]
    · exact hf _ _ hs ht e
theorem jnd_iff {j : List Nat} {p : Nat × Nat} : jnd j p = true ↔ ja j p.1 = ja j p.2 := by unfold jnd; simp
theorem run_fin : ∀ {L : List (Nat × Nat)} {j : List Nat}, Can j → Ok L → Fin' j (runJ j L)
  | [], j, _, _ => fin_refl j
  | p :: L, j, h, hL => by
    have hp := hL p (.head _)
    have hL' : Ok L := fun q hq => hL q (.tail _ hq)
    simp only [runJ]
    split
    · exact run_fin h hL'
    · exact fun s t hs ht e => run_fin (can_wth h hp) hL' s t hs ht (fin_wth h s t hs ht e)
theorem run_jnd : ∀ {L : List (Nat × Nat)} {j : List Nat}, Can j → Ok L → ∀ p ∈ L, ja (runJ j L) p.1 = ja (runJ j L) p.2
  | p :: L, j, h, hL, q, hq => by
    have hp := hL p (.head _)
    have hL' : Ok L := fun q hq => hL q (.tail _ hq)
    simp only [runJ]
    rcases List.mem_cons.1 hq with rfl | hq
    · split
      · rename_i e; exact run_fin h hL' _ _ hp.1 hp.2 (jnd_iff.1 e)
      · exact run_fin (can_wth h hp) hL' _ _ hp.1 hp.2 (wth_jnd h hp)
    · split
      · exact run_jnd h hL' q hq
      · exact run_jnd (can_wth h hp) hL' q hq
theorem run_least : ∀ {L : List (Nat × Nat)} {j j' : List Nat}, Can j → Ok L → Fin' j j' → (∀ p ∈ L, ja j' p.1 = ja j' p.2) → Fin' (runJ j L) j'
  | [], _, _, _, _, hf, _ => hf
  | p :: L, j, j', h, hL, hf, hj => by
    have hp := hL p (.head _)
    have hL' : Ok L := fun q hq => hL q (.tail _ hq)
    simp only [runJ]
    split
    · exact run_least h hL' hf fun q hq => hj q (.tail _ hq)
    · exact run_least (can_wth h hp) hL' (wth_least h hp hf (hj p (.head _))) fun q hq => hj q (.tail _ hq)
theorem apt_fin (j : List Nat) : Fin' apt j := fun s t hs ht e => by
  have : ∀ s, s < 5 → ja apt s = s := by decide
  rw [this s hs, this t ht] at e
  rw [e]
/-- how many are the smallest of theirs -/
def rts (j : List Nat) : Nat := ((List.range 5).filter fun s => ja j s == s).length
theorem filter_one {p q : Nat → Bool} {h : Nat} : ∀ (l : List Nat), l.Nodup → h ∈ l → p h = true → q h = false → (∀ s ∈ l, s ≠ h → p s = q s) → (l.filter p).length = (l.filter q).length + 1
  | [], _, hm, _, _, _ => by cases hm
  | x :: l, hn, hm, hp, hq, he => by
    obtain ⟨n1, n2⟩ := List.nodup_cons.1 hn
    by_cases hx : x = h
    · subst hx
      have : l.filter p = l.filter q := List.filter_congr fun s hs => he s (.tail _ hs) (fun e => n1 (e ▸ hs))
      simp [List.filter_cons, hp, hq, this]
    · have hm' : h ∈ l := by
        rcases List.mem_cons.1 hm with e | e
        · exact absurd e.symm hx
        · exact e
      have ih := filter_one l n2 hm' hp hq fun s hs hne => he s (.tail _ hs) hne
      have := he x (.head _) hx
      simp only [List.filter_cons, this]
      split
      · simp only [List.length_cons]; omega
      · exact ih
theorem rts_wth {j : List Nat} (h : Can j) {p : Nat × Nat} (hp : p.1 < 5 ∧ p.2 < 5) (hn : ja j p.1 ≠ ja j p.2) : rts j = rts (wth j p) + 1 := by
  have hh : hi j p < 5 ∧ ja j (hi j p) = hi j p := by
    rcases hi_or (j := j) (p := p) with e | e <;> rw [e]
    · exact ⟨by have := h.le _ hp.1; omega, h.id _ hp.1⟩
    · exact ⟨by have := h.le _ hp.2; omega, h.id _ hp.2⟩
  have hlt : lo j p < hi j p := by unfold lo hi; omega
  refine filter_one (h := hi j p) _ List.nodup_range (by simpa using hh.1) (by simpa using hh.2) ?_ fun s hs hne => ?_
  · rw [wth_at h.len p hh.1, if_pos hh.2]
    simp; omega
  · have hs' : s < 5 := by simpa using hs
    rw [wth_at h.len p hs']
    have := h.le s hs'
    split
    · rename_i e
      rw [e, Bool.eq_iff_iff]
      simp only [beq_iff_eq]
      omega
    · rfl
theorem cnt_rts : ∀ {L : List (Nat × Nat)} {j : List Nat}, Can j → Ok L → cntJ j L + rts (runJ j L) = rts j
  | [], j, _, _ => by simp [cntJ, runJ]
  | p :: L, j, h, hL => by
    have hp := hL p (.head _)
    have hL' : Ok L := fun q hq => hL q (.tail _ hq)
    simp only [cntJ, runJ]
    split
    · exact cnt_rts h hL'
    · rename_i e
      have := cnt_rts (can_wth h hp) hL'
      rw [rts_wth h hp (fun x => e (jnd_iff.2 x))]
      omega
/-- fewer than the sifters are -/
theorem run_out : ∀ {L : List (Nat × Nat)} {j : List Nat} {n : Nat}, Can j → n ≤ 5 → (∀ p ∈ L, p.1 < n ∧ p.2 < n) → (∀ s, n ≤ s → s < 5 → ja j s = s) → (∀ s, s < n → ja j s < n) → ∀ s, n ≤ s → s < 5 → ja (runJ j L) s = s
  | [], _, _, _, _, _, h, _ => h
  | p :: L, j, n, hc, hn, hL, h, h2 => by
    have hp := hL p (.head _)
    have hp5 : p.1 < 5 ∧ p.2 < 5 := ⟨by omega, by omega⟩
    have hL' : ∀ q ∈ L, q.1 < n ∧ q.2 < n := fun q hq => hL q (.tail _ hq)
    have a1 := h2 _ hp.1
    have a2 := h2 _ hp.2
    have hl : lo j p < n := by unfold lo; omega
    have hh : hi j p < n := by unfold hi; omega
    simp only [runJ]
    split
    · exact run_out hc hn hL' h h2
    · refine run_out (can_wth hc hp5) hn hL' (fun s h1 hs => ?_) fun s hs => ?_
      · rw [wth_at hc.len p hs, h s h1 hs, if_neg (by omega)]
      · rw [wth_at hc.len p (by omega)]
        have := h2 s hs
        split <;> omega
theorem filter_ge {p : Nat → Bool} {n : Nat} (hn : n ≤ 5) (h0 : p 0 = true) (h : ∀ s, n ≤ s → s < 5 → p s = true) (h1 : 1 ≤ n) : 5 - n + 1 ≤ ((List.range 5).filter p).length := by
  have e : List.range 5 = [0, 1, 2, 3, 4] := by decide
  have : n = 1 ∨ n = 2 ∨ n = 3 ∨ n = 4 ∨ n = 5 := by omega
  rcases this with rfl | rfl | rfl | rfl | rfl
  · simp [e, List.filter_cons, h0, h 1 (by omega) (by omega), h 2 (by omega) (by omega), h 3 (by omega) (by omega), h 4 (by omega) (by omega)]
  · cases e1 : p 1 <;> simp [e, List.filter_cons, h0, e1, h 2 (by omega) (by omega), h 3 (by omega) (by omega), h 4 (by omega) (by omega)]
  · cases e1 : p 1 <;> cases e2 : p 2 <;> simp [e, List.filter_cons, h0, e1, e2, h 3 (by omega) (by omega), h 4 (by omega) (by omega)]
  · cases e1 : p 1 <;> cases e2 : p 2 <;> cases e3 : p 3 <;> simp [e, List.filter_cons, h0, e1, e2, e3, h 4 (by omega) (by omega)]
  · simp [e, List.filter_cons, h0]
theorem rk_lt {L : List (Nat × Nat)} {n : Nat} (h1 : 1 ≤ n) (hn : n ≤ 5) (hL : ∀ p ∈ L, p.1 < n ∧ p.2 < n) : rk L < n := by
  have hL5 : Ok L := fun p hp => ⟨by have := hL p hp; omega, by have := hL p hp; omega⟩
  have hc := can_run can_apt hL5
  have a := cnt_rts can_apt hL5
  have ap : ∀ s, s < 5 → ja apt s = s := by decide
  have b := run_out can_apt hn hL (fun s _ hs => ap s hs) (fun s hs => by rw [ap s (by omega)]; exact hs)
  have c : 5 - n + 1 ≤ rts (runJ apt L) := filter_ge hn (by have := hc.le 0 (by omega); simp; omega) (fun s h hs => by simpa using b s h hs) h1
  have d : rts apt = 5 := by decide
  unfold rk; omega
end Go.Crew

namespace Go.Crew

/-- one pair, seen from v -/
def upd (v : Nat) (M : List Nat) (p : Nat × Nat) : List Nat := if p.1 = v ∧ p.2 ∉ M then M ++ [p.2] else if p.2 = v ∧ p.1 ∉ M then M ++ [p.1] else M
def scan (L : List (Nat × Nat)) (v : Nat) (M : List Nat) : List Nat := L.foldl (upd v) M
theorem upd_sub {v : Nat} {M : List Nat} {p : Nat × Nat} : ∃ R, upd v M p = M ++ R := by
  unfold upd
  split
  · exact ⟨_, rfl⟩
  · split
    · exact ⟨_, rfl⟩
    · exact ⟨[], by simp⟩
theorem scan_sub : ∀ (L : List (Nat × Nat)) (v : Nat) (M : List Nat), ∃ R, scan L v M = M ++ R
  | [], _, M => ⟨[], by simp [scan]⟩
  | p :: L, v, M => by
    obtain ⟨R, h⟩ := upd_sub (v := v) (M := M) (p := p)
    obtain ⟨R2, h2⟩ := scan_sub L v (upd v M p)
    exact ⟨R ++ R2, by rw [show scan (p :: L) v M = scan L v (upd v M p) from rfl, h2, h, List.append_assoc]⟩
theorem scan_mem {L : List (Nat × Nat)} {v : Nat} {M : List Nat} {x : Nat} (h : x ∈ M) : x ∈ scan L v M := by
  obtain ⟨R, e⟩ := scan_sub L v M
  rw [e]; exact List.mem_append_left _ h
theorem upd_next {v : Nat} {M : List Nat} {p : Nat × Nat} : (p.1 = v → p.2 ∈ upd v M p) ∧ (p.2 = v → p.1 ∈ upd v M p ∨ p.1 = v) := by
  unfold upd
  constructor
  · intro h
    by_cases h2 : p.2 ∈ M
    · rw [if_neg (by simp [h2])]
      split
      · exact List.mem_append_left _ h2
      · exact h2
    · rw [if_pos ⟨h, h2⟩]; simp
  · intro h
    by_cases h1 : p.1 = v
    · exact .inr h1
    · left
      rw [if_neg (by simp [h1])]
      by_cases h2 : p.1 ∈ M
      · rw [if_neg (by simp [h2])]; exact h2
      · rw [if_pos ⟨h, h2⟩]; simp
theorem scan_next : ∀ {L : List (Nat × Nat)} {v : Nat} {M : List Nat} (p : Nat × Nat), p ∈ L → v ∈ M → (p.1 = v → p.2 ∈ scan L v M) ∧ (p.2 = v → p.1 ∈ scan L v M)
  | q :: L, v, M, p, hp, hv => by
    show (p.1 = v → p.2 ∈ scan L v (upd v M q)) ∧ (p.2 = v → p.1 ∈ scan L v (upd v M q))
    have hv' : v ∈ upd v M q := by
      obtain ⟨R, e⟩ := upd_sub (v := v) (M := M) (p := q)
      rw [e]; exact List.mem_append_left _ hv
    rcases List.mem_cons.1 hp with rfl | hp
    · obtain ⟨a, b⟩ := upd_next (v := v) (M := M) (p := p)
      refine ⟨fun h => scan_mem (a h), fun h => ?_⟩
      rcases b h with h2 | h2
      · exact scan_mem h2
      · rw [h2]; exact scan_mem hv'
    · exact scan_next p hp hv'
/-- what holds of all that is met -/
theorem upd_all {P : Nat → Prop} {v : Nat} {M : List Nat} {p : Nat × Nat} (h : ∀ x ∈ M, P x) (hp : p.1 = v → P p.2) (hq : p.2 = v → P p.1) : ∀ x ∈ upd v M p, P x := by
  intro x hx
  unfold upd at hx
  split at hx
  · rename_i c
    rcases List.mem_append.1 hx with hx | hx
    · exact h x hx
    · simp only [List.mem_singleton] at hx; subst hx; exact hp c.1
  · split at hx
    · rename_i c
      rcases List.mem_append.1 hx with hx | hx
      · exact h x hx
      · simp only [List.mem_singleton] at hx; subst hx; exact hq c.1
    · exact h x hx
theorem scan_all {P : Nat → Prop} : ∀ {L : List (Nat × Nat)} {v : Nat} {M : List Nat}, (∀ x ∈ M, P x) → (∀ p ∈ L, (p.1 = v → P p.2) ∧ (p.2 = v → P p.1)) → ∀ x ∈ scan L v M, P x
  | [], _, _, h, _ => h
  | p :: L, v, M, h, hL => scan_all (L := L) (upd_all h (hL p (.head _)).1 (hL p (.head _)).2) fun q hq => hL q (.tail _ hq)
theorem upd_nodup {v : Nat} {M : List Nat} {p : Nat × Nat} (h : M.Nodup) : (upd v M p).Nodup := by
  have snoc : ∀ x, x ∉ M → (M ++ [x]).Nodup := fun x hx => List.nodup_append.2 ⟨h, by simp, fun a ha b hb => by simp only [List.mem_singleton] at hb; subst hb; exact fun e => hx (e ▸ ha)⟩
  unfold upd
  split
  · rename_i c; exact snoc _ c.2
  · split
    · rename_i c; exact snoc _ c.2
    · exact h
theorem scan_nodup : ∀ {L : List (Nat × Nat)} {v : Nat} {M : List Nat}, M.Nodup → (scan L v M).Nodup
  | [], _, _, h => h
  | _ :: L, _, _, h => scan_nodup (L := L) (upd_nodup h)
theorem nodup_five {M : List Nat} (h : M.Nodup) (h5 : ∀ x ∈ M, x < 5) : M.length ≤ 5 := by
  have := List.Nodup.length_le_of_subset h (l₂ := List.range 5) fun x hx => by simpa using h5 x hx
  simpa using this
/-- the search, from the i-th on -/
def bfs (L : List (Nat × Nat)) : Nat → Nat → List Nat → List Nat
  | 0, _, M => M
  | f + 1, i, M => if i < M.length then bfs L f (i + 1) (scan L (M.getD i 0) M) else M
/-- all neighbours of the first i are met -/
def Dn (L : List (Nat × Nat)) (i : Nat) (M : List Nat) : Prop := ∀ k, k < i → ∀ p ∈ L, (p.1 = M.getD k 0 → p.2 ∈ M) ∧ (p.2 = M.getD k 0 → p.1 ∈ M)
structure Bok (L : List (Nat × Nat)) (s i : Nat) (M : List Nat) : Prop where
  nd : M.Nodup
  cl : ∀ x ∈ M, x < 5 ∧ ja (runJ apt L) x = ja (runJ apt L) s
  st : s ∈ M
  dn : Dn L i M
  le : i ≤ M.length
theorem getD_app {M R : List Nat} {k : Nat} (h : k < M.length) : (M ++ R).getD k 0 = M.getD k 0 := by
  simp [List.getD, List.getElem?_append_left h]
theorem getD_mem {M : List Nat} {k : Nat} (h : k < M.length) : M.getD k 0 ∈ M := by
  simp [List.getD, h]
theorem bok_scan {L : List (Nat × Nat)} (hL : Ok L) {s i : Nat} {M : List Nat} (h : Bok L s i M) (hi : i < M.length) : Bok L s (i + 1) (scan L (M.getD i 0) M) := by
  have hv := getD_mem hi
  obtain ⟨R, e⟩ := scan_sub L (M.getD i 0) M
  have hj := run_jnd can_apt hL
  refine ⟨scan_nodup h.nd, scan_all h.cl fun p hp => ⟨fun hp1 => ?_, fun hp2 => ?_⟩, scan_mem h.st, fun k hk p hp => ?_, ?_⟩
  · exact ⟨(hL p hp).2, by rw [← hj p hp, hp1]; exact (h.cl _ hv).2⟩
  · exact ⟨(hL p hp).1, by rw [hj p hp, hp2]; exact (h.cl _ hv).2⟩
  · have hk' : k < M.length := by omega
    rw [e, getD_app hk', ← e]
    by_cases hki : k = i
    · subst hki; exact scan_next p hp hv
    · obtain ⟨a, b⟩ := h.dn k (by omega) p hp
      exact ⟨fun q => scan_mem (a q), fun q => scan_mem (b q)⟩
  · rw [e, List.length_append]; omega
theorem bfs_ok {L : List (Nat × Nat)} (hL : Ok L) : ∀ (f i s : Nat) (M : List Nat), 5 < f + i → Bok L s i M → Bok L s (bfs L f i M).length (bfs L f i M)
  | 0, i, s, M, hf, h => by
    have := nodup_five h.nd fun x hx => (h.cl x hx).1
    have := h.le
    omega
  | f + 1, i, s, M, hf, h => by
    rw [bfs]
    split
    · rename_i hi
      exact bfs_ok hL f (i + 1) s _ (by omega) (bok_scan hL h hi)
    · rename_i hi
      have : i = M.length := by have := h.le; omega
      subst this; exact h
/-- what is met is the group -/
theorem bok_all {L : List (Nat × Nat)} (hL : Ok L) {s : Nat} (hs : s < 5) {M : List Nat} (h : Bok L s M.length M) {t : Nat} (ht : t < 5) (e : ja (runJ apt L) t = ja (runJ apt L) s) : t ∈ M := by
  let j' : List Nat := (List.range 5).map fun t => if t ∈ M then 0 else 1
  have hj' : ∀ t, t < 5 → ja j' t = if t ∈ M then 0 else 1 := fun t ht => by simp [ja, j', List.getD, ht]
  have hf : Fin' (runJ apt L) j' := run_least can_apt hL (apt_fin _) fun p hp => by
    obtain ⟨a, b⟩ := hL p hp
    rw [hj' _ a, hj' _ b]
    have nx : ∀ x ∈ M, (p.1 = x → p.2 ∈ M) ∧ (p.2 = x → p.1 ∈ M) := fun x hx => by
      obtain ⟨k, hk, rfl⟩ := List.getElem_of_mem hx
      have := h.dn k hk p hp
      simpa [List.getD, hk] using this
    by_cases m1 : p.1 ∈ M
    · rw [if_pos m1, if_pos ((nx _ m1).1 rfl)]
    · rw [if_neg m1, if_neg fun m2 => m1 ((nx _ m2).2 rfl)]
  have := hf t s ht hs e
  rw [hj' _ ht, hj' _ hs, if_pos h.st] at this
  by_cases m : t ∈ M
  · exact m
  · rw [if_neg m] at this; cases this
theorem bok_init (L : List (Nat × Nat)) {s : Nat} (hs : s < 5) : Bok L s 0 [s] := ⟨by simp, fun x hx => by simp only [List.mem_singleton] at hx; subst hx; exact ⟨hs, rfl⟩, by simp, fun k hk => by omega, by simp⟩
theorem bfs_sub (L : List (Nat × Nat)) : ∀ (f i : Nat) (M : List Nat), ∃ R, bfs L f i M = M ++ R
  | 0, _, M => ⟨[], by simp [bfs]⟩
  | f + 1, i, M => by
    rw [bfs]
    split
    · obtain ⟨R1, e1⟩ := scan_sub L (M.getD i 0) M
      obtain ⟨R2, e2⟩ := bfs_sub L f (i + 1) (scan L (M.getD i 0) M)
      exact ⟨R1 ++ R2, by rw [e2, e1, List.append_assoc]⟩
    · exact ⟨[], by simp⟩
theorem grp_first {L : List (Nat × Nat)} (hL : Ok L) {s : Nat} (hs : s < 5) {f : Nat} (hf : 5 < f) : (bfs L f 0 [s]).all (fun x => decide (s ≤ x)) = (ja (runJ apt L) s == s) := by
  have h := bfs_ok hL f 0 s [s] (by omega) (bok_init L hs)
  have hc := can_run can_apt hL
  rw [Bool.eq_iff_iff, List.all_eq_true]
  simp only [decide_eq_true_eq, beq_iff_eq]
  constructor
  · intro ha
    have h1 := hc.le s hs
    have h2 := ha _ (bok_all hL hs h (t := ja (runJ apt L) s) (by omega) (hc.id s hs))
    omega
  · intro e x hx
    obtain ⟨x5, xe⟩ := h.cl x hx
    have := hc.le x x5
    omega
/-- how many groups -/
def grps (n : Nat) (L : List (Nat × Nat)) : Nat := ((List.range n).filter fun s => ja (runJ apt L) s == s).length
theorem grps_rk {n : Nat} (hn : n ≤ 5) {L : List (Nat × Nat)} (hL : ∀ p ∈ L, p.1 < n ∧ p.2 < n) : grps n L + rk L = n := by
  have hL5 : Ok L := fun p hp => ⟨by have := hL p hp; omega, by have := hL p hp; omega⟩
  have a := cnt_rts can_apt hL5
  have ap : ∀ s, s < 5 → ja apt s = s := by decide
  have b := run_out can_apt hn hL (fun s _ hs => ap s hs) (fun s hs => by rw [ap s (by omega)]; exact hs)
  have d : rts apt = 5 := by decide
  have e : List.range 5 = List.range n ++ List.range' n (5 - n) := by
    have : n = 0 ∨ n = 1 ∨ n = 2 ∨ n = 3 ∨ n = 4 ∨ n = 5 := by omega
    rcases this with rfl | rfl | rfl | rfl | rfl | rfl <;> rfl
  have c : rts (runJ apt L) = grps n L + (5 - n) := by
    unfold rts grps
    rw [e, List.filter_append, List.length_append]
    congr 1
    rw [List.filter_eq_self.2, List.length_range']
    intro s hs
    obtain ⟨h1, h2⟩ := List.mem_range'_1.1 hs
    simpa using b s h1 (by omega)
  unfold rk
  omega
end Go.Crew

namespace Go.Crew
section
variable {α : Type} [DecidableEq α]
def bstep (is : α → Bool) (lt : α → α → Bool) (acc : Option α) (l : α) : Option α := if is l then (match acc with | none => some l | some o => if lt l o then some l else some o) else acc
theorem find_or {lt : α → α → Bool} (has : ∀ x y, lt x y = true → lt y x = false) (hir : ∀ x, lt x x = false) {l : α} {q : α → Bool} : ∀ (T : List α), T.Pairwise (fun x y => lt x y = true) → l ∈ T →
    T.find? (fun x => q x || x == l) = (match T.find? q with | none => some l | some o => if lt l o then some l else some o)
  | a :: T, hT, hl => by
    obtain ⟨h1, h2⟩ := List.pairwise_cons.1 hT
    rw [List.find?_cons, List.find?_cons]
    cases hq : q a with
    | true =>
      simp only [Bool.true_or]
      have : lt l a = false := by
        rcases List.mem_cons.1 hl with rfl | hl
        · exact hir _
        · exact has _ _ (h1 _ hl)
      simp [this]
    | false =>
      simp only [Bool.false_or]
      by_cases e : a = l
      · subst e
        simp only [beq_self_eq_true]
        cases hf : T.find? q with
        | none => rfl
        | some o => simp [h1 _ (List.mem_of_find?_eq_some hf)]
      · have : (a == l) = false := by simpa using e
        simp only [this]
        exact find_or has hir T h2 (by
          rcases List.mem_cons.1 hl with rfl | hl
          · exact absurd rfl e
          · exact hl)
theorem best_find {lt : α → α → Bool} (has : ∀ x y, lt x y = true → lt y x = false) (hir : ∀ x, lt x x = false) (is : α → Bool) {T : List α} (hT : T.Pairwise (fun x y => lt x y = true)) : ∀ (R S : List α), (∀ x ∈ R, x ∈ T) → 
    R.foldl (bstep is lt) (T.find? (fun x => is x && S.contains x)) = T.find? (fun x => is x && (S ++ R).contains x)
  | [], S, _ => by simp
  | l :: R, S, h => by
    have ih := best_find has hir is hT R (S ++ [l]) fun x hx => h x (.tail _ hx)
    rw [List.foldl_cons]
    have e : bstep is lt (T.find? fun x => is x && S.contains x) l = T.find? (fun x => is x && (S ++ [l]).contains x) := by
      unfold bstep
      cases hi : is l with
      | true =>
        rw [if_pos rfl, ← find_or has hir T hT (h l (.head _))]
        congr 1
        funext x
        by_cases hx : x = l
        · subst hx; simp [hi]
        · simp [hx]
      | false =>
        rw [if_neg (by simp)]
        congr 1
        funext x
        by_cases hx : x = l
        · subst hx; simp [hi]
        · simp [hx]
    rw [e, ih]
    simp
theorem best_all {lt : α → α → Bool} (has : ∀ x y, lt x y = true → lt y x = false) (hir : ∀ x, lt x x = false) (is : α → Bool) {T R : List α} (hT : T.Pairwise (fun x y => lt x y = true)) (h : ∀ x ∈ R, x ∈ T) (h2 : ∀ x ∈ T, x ∈ R) :
    R.foldl (bstep is lt) none = T.find? is := by
  have := best_find has hir is hT R [] h
  have z : T.find? (fun x => is x && ([] : List α).contains x) = none := by
    rw [List.find?_eq_none]; intro x _; simp
  rw [z, List.nil_append] at this
  rw [this]
  clear this z h hT
  have : ∀ T' : List α, (∀ x ∈ T', x ∈ R) → T'.find? (fun x => is x && R.contains x) = T'.find? is := by
    intro T' hT'
    induction T' with
    | nil => rfl
    | cons a T' ih =>
      have ha := hT' a (.head _)
      rw [List.find?_cons, List.find?_cons, ih fun x hx => hT' x (.tail _ hx)]
      simp [ha]
  exact this T h2
end

def lexL : List Nat → List Nat → Bool
  | [], [] => false
  | [], _ :: _ => true
  | _ :: _, [] => false
  | a :: x, b :: y => if a < b then true else if b < a then false else lexL x y
theorem lexL_irr : ∀ x, lexL x x = false
  | [] => rfl
  | a :: x => by simp [lexL, lexL_irr x]
theorem lexL_as : ∀ x y, lexL x y = true → lexL y x = false
  | [], [], h => by simp [lexL] at h
  | [], _ :: _, _ => rfl
  | _ :: _, [], h => by simp [lexL] at h
  | a :: x, b :: y, h => by
    simp only [lexL] at h ⊢
    by_cases h1 : a < b
    · rw [if_neg (by omega), if_pos h1]
    · rw [if_neg h1] at h
      by_cases h2 : b < a
      · rw [if_pos h2] at h; cases h
      · rw [if_neg h2] at h
        rw [if_neg h2, if_neg h1]
        exact lexL_as x y h
def ltS (x y : List Nat) : Bool := if x.length = y.length then lexL x y else decide (x.length < y.length)
def ltG (x y : List Nat) : Bool := if x.length = y.length then lexL x y else decide (x.length > y.length)
theorem ltS_irr (x : List Nat) : ltS x x = false := by simp [ltS, lexL_irr]
theorem ltS_as (x y : List Nat) (h : ltS x y = true) : ltS y x = false := by
  unfold ltS at *
  by_cases e : x.length = y.length
  · rw [if_pos e] at h; rw [if_pos e.symm]; exact lexL_as x y h
  · rw [if_neg e] at h; rw [if_neg (fun q => e q.symm)]
    simp at h ⊢; omega
/-- lists of so many numbers below n, from one on, in order -/
def ls (n : Nat) : Nat → Nat → List (List Nat)
  | 0, _ => [[]]
  | m + 1, k => (List.range' k (n - k)).flatMap fun x => (ls n m (x + 1)).map (x :: ·)
def upT (n : Nat) : List (List Nat) := (List.range (n + 1)).flatMap fun m => ls n m 0
def downT (n : Nat) : List (List Nat) := (List.range (n + 1)).reverse.flatMap fun m => ls n m 0
def memb (s : Nat) : List Nat := (List.range 5).filter fun k => s.testBit k
def allS (n : Nat) : List (List Nat) := (List.range (2 ^ n)).map memb
def pwB (lt : List Nat → List Nat → Bool) : List (List Nat) → Bool
  | [] => true
  | a :: l => l.all (lt a) && pwB lt l
theorem pwB_ok {lt : List Nat → List Nat → Bool} : ∀ {l : List (List Nat)}, pwB lt l = true → l.Pairwise (fun x y => lt x y = true)
  | [], _ => .nil
  | a :: l, h => by
    simp only [pwB, Bool.and_eq_true, List.all_eq_true] at h
    exact List.pairwise_cons.2 ⟨h.1, pwB_ok h.2⟩
theorem sorted_all : ((List.range 6).all fun n => pwB ltS (upT n) && pwB ltG (downT n) && (allS n).all (fun x => (upT n).contains x && (downT n).contains x) && (upT n).all (fun x => (allS n).contains x) && (downT n).all (fun x => (allS n).contains x)) = true := by decide +kernel
theorem sorted_n {n : Nat} (h : n ≤ 5) : (upT n).Pairwise (fun x y => ltS x y = true) ∧ (downT n).Pairwise (fun x y => ltG x y = true) ∧ (∀ x, x ∈ allS n ↔ x ∈ upT n) ∧ (∀ x, x ∈ allS n ↔ x ∈ downT n) := by
  have := List.all_eq_true.1 sorted_all n (List.mem_range.2 (by omega))
  simp only [Bool.and_eq_true, List.all_eq_true, List.contains_iff_mem] at this
  obtain ⟨⟨⟨⟨h1, h2⟩, h3⟩, h4⟩, h5⟩ := this
  exact ⟨pwB_ok h1, pwB_ok h2, fun x => ⟨fun hx => (h3 x hx).1, fun hx => h4 x hx⟩, fun x => ⟨fun hx => (h3 x hx).2, fun hx => h5 x hx⟩⟩
theorem best_up (is : List Nat → Bool) {n : Nat} (h : n ≤ 5) : (allS n).foldl (bstep is ltS) none = (upT n).find? is := by
  obtain ⟨h1, _, h3, _⟩ := sorted_n h
  exact best_all ltS_as ltS_irr is h1 (fun x hx => (h3 x).1 hx) fun x hx => (h3 x).2 hx
end Go.Crew

namespace Go.Proofs.YtnponojgpkbagaaDoor
open Go.V Go.Crew
set_option linter.unusedSectionVars false
set_option linter.unnecessarySimpa false

theorem brn_t {α : Type} {b : Bool} {x y : Option α} (h : b = true) : brn b x y = x := by subst h; rfl
theorem brn_f {α : Type} {b : Bool} {x y : Option α} (h : b = false) : brn b x y = y := by subst h; rfl
theorem grd_t {α : Type} {p : Prop} [Decidable p] {k : Option α} (h : p) : grd p k = k := by simp [grd, h]
theorem wrapN {n : Nat} (h : n ≤ 100000) : IntKind.i64.wrap ((n : Int) + 1) = ((n + 1 : Nat) : Int) := by
  rw [wrap64 (by omega) (by omega)]; omega
theorem toNatN (n : Nat) : Int.toNat (n : Int) = n := by omega

def prI (p : Int × Int) : List PV := [.int .i64 p.1, .int .i64 p.2]
def prsI (l : List (Int × Int)) : List PV := l.flatMap prI
theorem prsI_len : ∀ (l : List (Int × Int)), (prsI l).length = l.length * 2
  | [] => rfl
  | p :: l => by
    have := prsI_len l
    simp only [prsI, List.flatMap_cons, List.length_append, prI, List.length_cons, List.length_nil] at *
    omega
def pI (l : List (Int × Int)) (i : Nat) : Int × Int := l.getD i (0, 0)
theorem prsI_drop : ∀ (l : List (Int × Int)) (i : Nat), (prsI l).drop (i * 2) = prsI (l.drop i)
  | l, 0 => by simp
  | [], i + 1 => by simp [prsI]
  | p :: l, i + 1 => by
    have := prsI_drop l i
    rw [show (i + 1) * 2 = i * 2 + 2 by omega]
    simpa [prsI, prI] using this
theorem prsI_take : ∀ (l : List (Int × Int)) (i : Nat), (prsI l).take (i * 2) = prsI (l.take i)
  | l, 0 => by simp [prsI]
  | [], i + 1 => by simp [prsI]
  | p :: l, i + 1 => by
    have := prsI_take l i
    rw [show (i + 1) * 2 = i * 2 + 2 by omega]
    simpa [prsI, prI] using this
theorem drop_pI {l : List (Int × Int)} {i : Nat} (h : i < l.length) : l.drop i = pI l i :: l.drop (i + 1) := by
  rw [List.drop_eq_getElem_cons h]; simp [pI, List.getD, h]
theorem take_pI {l : List (Int × Int)} {i : Nat} (h : i < l.length) : l.take (i + 1) = l.take i ++ [pI l i] := by
  rw [List.take_add_one]; simp [pI, List.getD, h]
theorem prsI_two {l : List (Int × Int)} {i : Nat} (h : i < l.length) : List.take 2 (List.drop (i * 2) (prsI l)) = [.int .i64 (pI l i).1, .int .i64 (pI l i).2] := by
  rw [prsI_drop, drop_pI h]; simp [prsI, prI]
theorem prsI_two' {l : List (Int × Int)} {i : Nat} (h : i < l.length) : 2 ≤ List.length (List.drop (i * 2) (prsI l)) := by
  rw [prsI_drop, prsI_len, List.length_drop]; omega
theorem prsI_app (l m : List (Int × Int)) : prsI l ++ prsI m = prsI (l ++ m) := by simp [prsI]
def knI (l : List (Int × Int)) : PV := .lst false l.length (prsI l)
def knsI (K : List (List (Int × Int))) : List PV := K.map knI
theorem knsI_len (K : List (List (Int × Int))) : (knsI K).length = K.length := by simp [knsI]
def kI (K : List (List (Int × Int))) (i : Nat) : List (Int × Int) := K.getD i []
theorem knsI_gp {K : List (List (Int × Int))} {i : Nat} (h : i < K.length) : gp (knsI K) i = .lst false (kI K i).length (prsI (kI K i)) := by
  simp [knsI, gp, kI, knI, List.getD, h]
theorem kI_mem {K : List (List (Int × Int))} {i : Nat} (h : i < K.length) : kI K i ∈ K := by simp [kI, List.getD, h]
theorem drop_kI {K : List (List (Int × Int))} {i : Nat} (h : i < K.length) : K.drop i = kI K i :: K.drop (i + 1) := by
  rw [List.drop_eq_getElem_cons h]; simp [kI, List.getD, h]

def jP (j : List Nat) : List PV := [.int .i64 (ja j 0 : Int), .int .i64 (ja j 1 : Int), .int .i64 (ja j 2 : Int), .int .i64 (ja j 3 : Int), .int .i64 (ja j 4 : Int)]
theorem jP_gp {j : List Nat} {s : Nat} (h : s < 5) : gp (jP j) s = .int .i64 (ja j s : Int) := by
  have : s = 0 ∨ s = 1 ∨ s = 2 ∨ s = 3 ∨ s = 4 := by omega
  rcases this with rfl | rfl | rfl | rfl | rfl <;> rfl
def cI (p : Nat × Nat) : Int × Int := ((p.1 : Int), (p.2 : Int))
theorem getA5_jP {α : Type} (j : List Nat) (k : PV → PV → PV → PV → PV → Option α) : getA5 (.agg (jP j)) k = k (.int .i64 (ja j 0 : Int)) (.int .i64 (ja j 1 : Int)) (.int .i64 (ja j 2 : Int)) (.int .i64 (ja j 3 : Int)) (.int .i64 (ja j 4 : Int)) := rfl
theorem joined_ok (N : Nat) (j : List Nat) (p : Nat × Nat) (hp : p.1 < 5 ∧ p.2 < 5) : m71 N (.agg (jP j)) (.agg (prI (cI p))) = some (.bool (jnd j p)) := by
  simp only [m71, prI, cI, getA2, getI, if_true, toNatN]
  have e1 := jP_gp (j := j) hp.1
  have e2 := jP_gp (j := j) hp.2
  unfold jP at e1 e2
  rw [getA5_jP, grd_t ⟨by omega, by omega⟩, grd_t hp.1, e1]
  simp only [if_true]
  rw [grd_t ⟨by omega, by omega⟩, grd_t hp.2, e2]
  simp only [if_true, jnd]
  congr 2
  rw [Bool.eq_iff_iff]; simp; omega
theorem maxI_hi (j : List Nat) (p : Nat × Nat) : maxI (ja j p.1 : Int) (ja j p.2 : Int) = (hi j p : Int) := by
  unfold maxI hi; split <;> omega
theorem minI_lo (j : List Nat) (p : Nat × Nat) : minI (ja j p.1 : Int) (ja j p.2 : Int) = (lo j p : Int) := by
  unfold minI lo; split <;> omega
/-- half way -/
def hw (j : List Nat) (p : Nat × Nat) (s t : Nat) : PV := .int .i64 ((if t < s then ja (wth j p) t else ja j t : Nat) : Int)
def mid (j : List Nat) (p : Nat × Nat) (s : Nat) : List PV := [hw j p s 0, hw j p s 1, hw j p s 2, hw j p s 3, hw j p s 4]
theorem mid_set {j : List Nat} {p : Nat × Nat} {s : Nat} (hj : j.length = 5) (h : s < 5) (e : ja j s = hi j p) : (mid j p s).set s (.int .i64 (lo j p : Int)) = mid j p (s + 1) := by
  have w := wth_at hj p h
  rw [if_pos e] at w
  have : s = 0 ∨ s = 1 ∨ s = 2 ∨ s = 3 ∨ s = 4 := by omega
  rcases this with rfl | rfl | rfl | rfl | rfl <;> simp [mid, hw, w]
theorem mid_not {j : List Nat} {p : Nat × Nat} {s : Nat} (hj : j.length = 5) (h : s < 5) (e : ja j s ≠ hi j p) : mid j p s = mid j p (s + 1) := by
  have w := wth_at hj p h
  rw [if_neg e] at w
  have : s = 0 ∨ s = 1 ∨ s = 2 ∨ s = 3 ∨ s = 4 := by omega
  rcases this with rfl | rfl | rfl | rfl | rfl <;> simp [mid, hw, w]
theorem with_L (N : Nat) (j : List Nat) (p : Nat × Nat) (hj : j.length = 5) : ∀ (r s fuel : Nat), 5 - s = r → s ≤ 5 → r < fuel →
    m98_L0 N (.int .i64 (ja j 0 : Int)) (.int .i64 (ja j 1 : Int)) (.int .i64 (ja j 2 : Int)) (.int .i64 (ja j 3 : Int)) (.int .i64 (ja j 4 : Int)) (ja j p.1 : Int) (ja j p.2 : Int) fuel (s : Int) (mid j p s) = some (mid j p 5)
  | r, s, 0, _, _, h => by omega
  | r, s, f + 1, hr, hs, hf => by
    rw [m98_L0]
    by_cases h : s < 5
    · have ih := with_L N j p hj (r - 1) (s + 1) f (by omega) (by omega) (by omega)
      have e1 := jP_gp (j := j) h
      unfold jP at e1
      rw [brn_t (by simp; omega), toNatN, grd_t ⟨by omega, by omega⟩, e1, maxI_hi, minI_lo, wrapN (by omega)]
      simp only [getI, if_true]
      by_cases e : ja j s = hi j p
      · rw [brn_t (by simp; omega), grd_t (by simp [mid]; omega), mid_set hj h e]; exact ih
      · rw [brn_f (by simp; omega), mid_not hj h e]; exact ih
    · rw [brn_f (by simp; omega), show s = 5 by omega]
theorem mid_zero (j : List Nat) (p : Nat × Nat) : mid j p 0 = jP j := by simp [mid, hw, jP]
theorem mid_five (j : List Nat) (p : Nat × Nat) : mid j p 5 = jP (wth j p) := by simp [mid, hw, jP]
theorem with_ok (N : Nat) (hN : 2000 ≤ N) (j : List Nat) (hj : j.length = 5) (p : Nat × Nat) (hp : p.1 < 5 ∧ p.2 < 5) : m98 N (.agg (jP j)) (.agg (prI (cI p))) = some (.agg (jP (wth j p))) := by
  simp only [m98, prI, cI, getA2, getI, if_true, toNatN]
  have e1 := jP_gp (j := j) hp.1
  have e2 := jP_gp (j := j) hp.2
  unfold jP at e1 e2
  rw [getA5_jP, grd_t ⟨by omega, by omega⟩, grd_t hp.1, e1]
  simp only [if_true]
  rw [grd_t ⟨by omega, by omega⟩, grd_t hp.2, e2]
  simp only [if_true]
  have := with_L N j p hj 5 0 N (by omega) (by omega) (by omega)
  rw [mid_zero, mid_five] at this
  rw [show m98_L0 N (.int .i64 (ja j 0 : Int)) (.int .i64 (ja j 1 : Int)) (.int .i64 (ja j 2 : Int)) (.int .i64 (ja j 3 : Int)) (.int .i64 (ja j 4 : Int)) (ja j p.1 : Int) (ja j p.2 : Int) N 0 [.int .i64 (ja j 0 : Int), .int .i64 (ja j 1 : Int), .int .i64 (ja j 2 : Int), .int .i64 (ja j 3 : Int), .int .i64 (ja j 4 : Int)] = _ from this]
  rfl
theorem apart_ok : m97 2000 = some (.agg (jP apt)) := by kernel_rfl
theorem wth_len {j : List Nat} {p : Nat × Nat} (h : j.length = 5) : (wth j p).length = 5 := by simp [wth, h]
def cL (L : List (Nat × Nat)) : List (Int × Int) := L.map cI
theorem cL_len (L : List (Nat × Nat)) : (cL L).length = L.length := by simp [cL]
def pN (L : List (Nat × Nat)) (i : Nat) : Nat × Nat := L.getD i (0, 0)
theorem cL_pI {L : List (Nat × Nat)} {i : Nat} (h : i < L.length) : pI (cL L) i = cI (pN L i) := by simp [pI, cL, pN, List.getD, h]
theorem pN_mem {L : List (Nat × Nat)} {i : Nat} (h : i < L.length) : pN L i ∈ L := by simp [pN, List.getD, h]
theorem drop_pN {L : List (Nat × Nat)} {i : Nat} (h : i < L.length) : L.drop i = pN L i :: L.drop (i + 1) := by
  rw [List.drop_eq_getElem_cons h]; simp [pN, List.getD, h]
theorem count_L (N : Nat) (hN : 2000 ≤ N) (L : List (Nat × Nat)) (hL : Ok L) (hl : L.length ≤ 1000) : ∀ (r i fuel a : Nat) (j : List Nat), L.length - i = r → j.length = 5 → a ≤ i → r < fuel →
    m70_L0 N L.length (prsI (cL L)) fuel (a : Int) (i : Int) (.int .i64 (ja j 0 : Int)) (.int .i64 (ja j 1 : Int)) (.int .i64 (ja j 2 : Int)) (.int .i64 (ja j 3 : Int)) (.int .i64 (ja j 4 : Int)) = some ((a + cntJ j (L.drop i) : Nat) : Int)
  | r, i, 0, a, j, _, _, _, h => by omega
  | r, i, f + 1, a, j, hr, hj, ha, hf => by
    rw [m70_L0]
    by_cases h : i < L.length
    · have h' : i < (cL L).length := by rw [cL_len]; exact h
      have hp := hL _ (pN_mem h)
      rw [brn_t (by simp; omega), toNatN, grd_t ⟨by omega, by omega⟩, grd_t (prsI_two' h'), prsI_two h', cL_pI h, drop_pN h]
      have e1 := joined_ok N j (pN L i) hp
      have e2 := with_ok N hN j hj (pN L i) hp
      unfold jP prI at e1
      unfold jP prI at e2
      simp only [getA2, e1, bnd', getB, cntJ]
      cases e : jnd j (pN L i) with
      | true =>
        rw [brn_t rfl, wrapN (by omega), count_L N hN L hL hl (r - 1) (i + 1) f a j (by omega) hj (by omega) (by omega)]
        simp
      | false =>
        rw [brn_f rfl]
        simp only [e2, getA5]
        rw [wrapN (by omega), wrapN (by omega), count_L N hN L hL hl (r - 1) (i + 1) f (a + 1) (wth j (pN L i)) (by omega) (wth_len hj) (by omega) (by omega)]
        simp; omega
    · rw [brn_f (by simp; omega), List.drop_eq_nil_of_le (by omega)]; simp [cntJ]
theorem count_ok (L : List (Nat × Nat)) (hL : Ok L) (hl : L.length ≤ 1000) : m70 2000 (.lst false L.length (prsI (cL L))) = some (.int .i64 (rk L : Int)) := by
  simp only [m70, getL, apart_ok, bnd']
  rw [getA5_jP]
  have := count_L 2000 (by omega) L hL hl L.length 0 2000 0 apt (by omega) rfl (by omega) (by omega)
  rw [show m70_L0 2000 L.length (prsI (cL L)) 2000 0 0 _ _ _ _ _ = _ from this]
  simp [rk]

def cK (K : List (List (Nat × Nat))) : List (List (Int × Int)) := K.map cL
theorem cK_len (K : List (List (Nat × Nat))) : (cK K).length = K.length := by simp [cK]
def kN (K : List (List (Nat × Nat))) (i : Nat) : List (Nat × Nat) := K.getD i []
theorem cK_kI {K : List (List (Nat × Nat))} {i : Nat} (h : i < K.length) : kI (cK K) i = cL (kN K i) := by simp [kI, cK, kN, List.getD, h]
theorem kN_mem {K : List (List (Nat × Nat))} {i : Nat} (h : i < K.length) : kN K i ∈ K := by simp [kN, List.getD, h]
def crw (n : Nat) (K : List (List (Nat × Nat))) : PV := .agg [.int .i64 (n : Int), .lst false K.length (knsI (cK K))]
def nL (X : List Nat) : List PV := X.map fun (k : Nat) => PV.int .i64 (k : Int)
theorem nL_len (X : List Nat) : (nL X).length = X.length := by simp [nL]
def nn (X : List Nat) (i : Nat) : Nat := X.getD i 0
theorem nL_gp {X : List Nat} {i : Nat} (h : i < X.length) : gp (nL X) i = .int .i64 (nn X i : Int) := by
  simp [nL, gp, nn, List.getD, h]
theorem nn_mem {X : List Nat} {i : Nat} (h : i < X.length) : nn X i ∈ X := by
  simp [nn, List.getD, h]
theorem drop_nn {X : List Nat} {i : Nat} (h : i < X.length) : X.drop i = nn X i :: X.drop (i + 1) := by
  rw [List.drop_eq_getElem_cons h]; simp [nn, List.getD, h]
/-- all pairs of some kinds -/
def pairsOf (K : List (List (Nat × Nat))) (ks : List Nat) : List (Nat × Nat) := ks.flatMap (kN K)
/-- a crew as it should be, but for what its pairs are -/
structure Fit (n : Nat) (K : List (List (Nat × Nat))) : Prop where
  n1 : 1 ≤ n
  n5 : n ≤ 5
  many : K.length ≤ 5
  len : ∀ l ∈ K, l.length ≤ 6
  lt : ∀ l ∈ K, ∀ p ∈ l, p.1 < p.2 ∧ p.2 < n
  one : ∀ l ∈ K, l.Nodup
theorem kN_lt {n : Nat} {K : List (List (Nat × Nat))} (h : Fit n K) {k : Nat} : ∀ p ∈ kN K k, p.1 < n ∧ p.2 < n := fun p hp => by
  by_cases hk : k < K.length
  · have := h.lt _ (kN_mem hk) p hp; omega
  · simp [kN, List.getD, hk] at hp
theorem kN_len {n : Nat} {K : List (List (Nat × Nat))} (h : Fit n K) {k : Nat} : (kN K k).length ≤ 6 := by
  by_cases hk : k < K.length
  · exact h.len _ (kN_mem hk)
  · simp [kN, List.getD, hk]
theorem pairsOf_lt {n : Nat} {K : List (List (Nat × Nat))} (h : Fit n K) {ks : List Nat} : ∀ p ∈ pairsOf K ks, p.1 < n ∧ p.2 < n := fun p hp => by
  obtain ⟨k, _, hp⟩ := List.mem_flatMap.1 hp
  exact kN_lt h p hp
theorem pairsOf_ok {n : Nat} {K : List (List (Nat × Nat))} (h : Fit n K) {ks : List Nat} : Ok (pairsOf K ks) := fun p hp => by
  have := pairsOf_lt h p hp
  have := h.n5
  omega
theorem pairsOf_len {n : Nat} {K : List (List (Nat × Nat))} (h : Fit n K) : ∀ (ks : List Nat), (pairsOf K ks).length ≤ ks.length * 6
  | [] => by simp [pairsOf]
  | k :: ks => by
    have := pairsOf_len h ks
    have := kN_len h (k := k)
    simp only [pairsOf, List.flatMap_cons, List.length_append, List.length_cons] at *
    omega
theorem cL_app (L M : List (Nat × Nat)) : cL L ++ cL M = cL (L ++ M) := by simp [cL]
theorem rank_L (N : Nat) (n : Nat) (K : List (List (Nat × Nat))) (hK : Fit n K) (p : PV) (ks : List Nat) (hk : ∀ k ∈ ks, k < K.length) (hl : ks.length ≤ 100) : ∀ (r i fuel : Nat), ks.length - i = r → i ≤ ks.length → r < fuel →
    m64_L0 N p ks.length (nL ks) fuel (pairsOf K (ks.take i)).length (i : Int) (.lst false K.length (knsI (cK K))) (prsI (cL (pairsOf K (ks.take i)))) = some ((pairsOf K ks).length, prsI (cL (pairsOf K ks)))
  | r, i, 0, _, _, h => by omega
  | r, i, f + 1, hr, hi, hf => by
    have hnl := nL_len ks
    have hkl : (knsI (cK K)).length = K.length := by rw [knsI_len, cK_len]
    rw [m64_L0]
    by_cases h : i < ks.length
    · have ih := rank_L N n K hK p ks hk hl (r - 1) (i + 1) f (by omega) (by omega) (by omega)
      have hx := hk _ (nn_mem h)
      have h6 := kN_len hK (k := nn ks i)
      have h7 := pairsOf_len hK (ks.take i)
      rw [List.length_take] at h7
      rw [brn_t (by simp; omega), toNatN, grd_t ⟨by omega, by omega⟩, grd_t (by simp only [List.length_drop]; omega), nL_gp h]
      simp only [getI, if_true, getL, toNatN]
      rw [grd_t ⟨by omega, by omega⟩, grd_t (by simp only [List.length_drop]; omega), knsI_gp (by rw [cK_len]; exact hx), cK_kI hx]
      simp only [cL_len]
      rw [grd_t (by rw [prsI_len, cL_len]), grd_t (by omega), grd_t (by rw [prsI_len, cL_len]), wrapN (by omega), prsI_app, cL_app]
      have e : pairsOf K (ks.take i) ++ kN K (nn ks i) = pairsOf K (ks.take (i + 1)) := by
        rw [List.take_add_one]
        have : ks[i]? = some (nn ks i) := by simp [nn, List.getD, h]
        rw [this]
        simp [pairsOf]
      rw [e, show (pairsOf K (ks.take i)).length + (kN K (nn ks i)).length = (pairsOf K (ks.take (i + 1))).length by rw [← e, List.length_append]]
      exact ih
    · rw [brn_f (by simp; omega), List.take_of_length_le (by omega)]
theorem rank_ok (n : Nat) (K : List (List (Nat × Nat))) (hK : Fit n K) (ks : List Nat) (hk : ∀ k ∈ ks, k < K.length) (hl : ks.length ≤ 100) : m64 2000 (crw n K) (.lst false ks.length (nL ks)) = some (.int .i64 (rk (pairsOf K ks) : Int)) := by
  have h := rank_L 2000 n K hK (.int .i64 (n : Int)) ks hk hl ks.length 0 2000 (by omega) (by omega) (by omega)
  have hp := pairsOf_len hK ks
  simp only [m64, crw, getA2, getL]
  rw [show m64_L0 2000 (.int .i64 (n : Int)) ks.length (nL ks) 2000 0 0 (.lst false K.length (knsI (cK K))) [] = _ from h]
  simp only [bnd']
  rw [grd_t (by rw [prsI_len, cL_len])]
  simp only [count_ok (pairsOf K ks) (pairsOf_ok hK) (by omega), getI, if_true]
end Go.Proofs.YtnponojgpkbagaaDoor

namespace Go.Proofs.YtnponojgpkbagaaDoor
open Go.V Go.Crew
set_option linter.unusedSectionVars false
set_option linter.unnecessarySimpa false

theorem idx_L (N : Nat) (p : Int × Int) (l : List (Int × Int)) (hl : l.length ≤ 1000) : ∀ (r i fuel : Nat), l.length - i = r → r < fuel →
    ∃ o, m93_L0 N l.length (prsI l) fuel (i : Int) (.int .i64 p.1) (.int .i64 p.2) = some o ∧ ((l.drop i).contains p = true → ∃ k : Nat, o = .inl (.int .i64 (k : Int))) ∧ ((l.drop i).contains p = false → o = .inr ())
  | r, i, 0, _, h => by omega
  | r, i, f + 1, hr, hf => by
    rw [m93_L0]
    by_cases h : i < l.length
    · obtain ⟨o, o1, o2, o3⟩ := idx_L N p l hl (r - 1) (i + 1) f (by omega) (by omega)
      rw [brn_t (by simp; omega), toNatN, grd_t ⟨by omega, by omega⟩, grd_t (prsI_two' h), prsI_two h, drop_pI h]
      simp only [getA2, getI, if_true, List.contains_cons]
      by_cases e : p = pI l i
      · have e1 : (p == pI l i) = true := by simpa using e
        rw [brn_t (by rw [← e]; simp), e1]
        exact ⟨_, rfl, fun _ => ⟨i, rfl⟩, fun h => by simp at h⟩
      · have e1 : (p == pI l i) = false := by simpa using e
        rw [brn_f (by
          rw [Bool.and_eq_false_iff]
          by_cases a : p.1 = (pI l i).1
          · right; have : p.2 ≠ (pI l i).2 := fun b => e (Prod.ext a b)
            simpa using this
          · left; simpa using a), wrapN (by omega), e1]
        exact ⟨o, o1, fun h => o2 (by simpa using h), fun h => o3 (by simpa using h)⟩
    · rw [brn_f (by simp; omega), List.drop_eq_nil_of_le (by omega)]
      exact ⟨_, rfl, fun h => by simp at h, fun _ => rfl⟩
theorem has_ok (N : Nat) (hN : 2000 ≤ N) (p : Int × Int) (l : List (Int × Int)) (hl : l.length ≤ 1000) : m51 N (.lst false l.length (prsI l)) (.agg [.int .i64 p.1, .int .i64 p.2]) = some (.bool (l.contains p)) := by
  obtain ⟨o, o1, o2, o3⟩ := idx_L N p l hl l.length 0 N (by omega) (by omega)
  rw [List.drop_zero] at o2 o3
  simp only [m51, getL, getA2, m93]
  rw [show m93_L0 N l.length (prsI l) N 0 (.int .i64 p.1) (.int .i64 p.2) = some o from o1]
  cases h : l.contains p with
  | true =>
    obtain ⟨k, rfl⟩ := o2 h
    simp [bnd', getI]
  | false => rw [o3 h]; simp [bnd', getI]

def chkL (n : Int) : List (Int × Int) → List (Int × Int) → Int
  | _, [] => 0
  | d, p :: r => if minI p.1 p.2 < 0 then 2 else if maxI p.1 p.2 ≥ n then 2 else if p.1 ≥ p.2 then 7 else if d.contains p then 6 else chkL n (d ++ [p]) r
def chkK (n : Int) : List (List (Int × Int)) → Int
  | [] => 0
  | l :: ls => if 6 < l.length then 3 else if chkL n [] l ≠ 0 then chkL n [] l else chkK n ls
def chk (n : Int) (K : List (List (Int × Int))) : Int := if n < 1 then 1 else if n > 5 then 1 else if 5 < K.length then 3 else chkK n K
def outE (e : Int) : PV ⊕ Unit := if e = 0 then .inr () else .inl (.int .i64 e)
theorem chk_L1 (N : Nat) (hN : 2000 ≤ N) (n : Int) (m : Nat) (c : List PV) (x : Int) (l : List (Int × Int)) (hl : l.length ≤ 1000) : ∀ (r i fuel : Nat), l.length - i = r → r < fuel →
    m22_L1 N n m c x l.length (prsI l) fuel (i : Int) = some (outE (chkL n (l.take i) (l.drop i)))
  | r, i, 0, _, h => by omega
  | r, i, f + 1, hr, hf => by
    rw [m22_L1]
    by_cases h : i < l.length
    · have ih := chk_L1 N hN n m c x l hl (r - 1) (i + 1) f (by omega) (by omega)
      rw [brn_t (by simp; omega), toNatN, grd_t ⟨by omega, by omega⟩, grd_t (prsI_two' h), prsI_two h, drop_pI h]
      simp only [getA2, getI, if_true, chkL]
      by_cases h1 : minI (pI l i).1 (pI l i).2 < 0
      · rw [brn_t (by simpa using h1), if_pos h1]; rfl
      · rw [brn_f (by simpa using h1), if_neg h1]
        by_cases h2 : maxI (pI l i).1 (pI l i).2 ≥ n
        · rw [brn_t (by simpa using h2), if_pos h2]; rfl
        · rw [brn_f (by simpa using h2), if_neg h2]
          by_cases h3 : (pI l i).1 ≥ (pI l i).2
          · rw [brn_t (by simpa using h3), if_pos h3]; rfl
          · have e := has_ok N hN (pI l i) (l.take i) (by rw [List.length_take]; omega)
            rw [show (l.take i).length = i by rw [List.length_take]; omega] at e
            rw [brn_f (by simpa using h3), if_neg h3, grd_t (by omega), grd_t (prsI_len l), prsI_take, e]
            simp only [bnd', getB]
            cases hc : (l.take i).contains (pI l i) with
            | true => rw [brn_t rfl, if_pos rfl]; rfl
            | false => rw [brn_f rfl, if_neg (by simp), wrapN (by omega), ih, take_pI h]
    · rw [brn_f (by simp; omega), List.drop_eq_nil_of_le (by omega)]; rfl
theorem chk_L0 (N : Nat) (hN : 2000 ≤ N) (n : Int) (K : List (List (Int × Int))) (hK : K.length ≤ 1000) (hl : ∀ l ∈ K, l.length ≤ 1000) : ∀ (r i fuel : Nat), K.length - i = r → r < fuel →
    m22_L0 N n K.length (knsI K) fuel (i : Int) = some (outE (chkK n (K.drop i)))
  | r, i, 0, _, h => by omega
  | r, i, f + 1, hr, hf => by
    have hk := knsI_len K
    rw [m22_L0]
    by_cases h : i < K.length
    · have ih := chk_L0 N hN n K hK hl (r - 1) (i + 1) f (by omega) (by omega)
      have h1 := hl _ (kI_mem h)
      rw [brn_t (by simp; omega), toNatN, grd_t ⟨by omega, by omega⟩, grd_t (by simp only [List.length_drop]; omega), knsI_gp h, drop_kI h]
      simp only [getL, chkK]
      by_cases h2 : 6 < (kI K i).length
      · rw [brn_t (by simp; omega), if_pos h2]; rfl
      · have e := chk_L1 N hN n K.length (knsI K) (i : Int) (kI K i) h1 (kI K i).length 0 N (by omega) (by omega)
        rw [List.take_zero, List.drop_zero] at e
        rw [brn_f (by simp; omega), if_neg h2, show m22_L1 N n K.length (knsI K) (i : Int) (kI K i).length (prsI (kI K i)) N 0 = _ from e]
        by_cases h3 : chkL n [] (kI K i) = 0
        · rw [if_neg (by simpa using h3), outE, if_pos h3]
          simp only [bnd']
          rw [wrapN (by omega)]; exact ih
        · rw [if_pos h3, outE, if_neg h3]; simp [bnd', outE, h3]
    · rw [brn_f (by simp; omega), List.drop_eq_nil_of_le (by omega)]; rfl
theorem outE_end {x : Int} : (match outE x with | .inl p => some p | .inr () => some (PV.int .i64 0)) = some (.int .i64 x) := by
  unfold outE
  by_cases h : x = 0
  · rw [if_pos h, h]
  · rw [if_neg h]
theorem check_ok (N : Nat) (hN : 2000 ≤ N) (n : Int) (K : List (List (Int × Int))) (hK : K.length ≤ 1000) (hl : ∀ l ∈ K, l.length ≤ 1000) : m22 N (.agg [.int .i64 n, .lst false K.length (knsI K)]) = some (.int .i64 (chk n K)) := by
  simp only [m22, getA2, getI, if_true, getL]
  unfold chk
  by_cases h1 : n < 1
  · rw [brn_t (by simpa using h1), if_pos h1]
  · rw [brn_f (by simpa using h1), if_neg h1]
    by_cases h2 : n > 5
    · rw [brn_t (by simpa using h2), if_pos h2]
    · rw [brn_f (by simpa using h2), if_neg h2]
      by_cases h3 : 5 < K.length
      · rw [brn_t (by simp; omega), if_pos h3]
      · have e := chk_L0 N hN n K hK hl K.length 0 N (by omega) (by omega)
        rw [List.drop_zero] at e
        rw [brn_f (by simp; omega), if_neg h3, show m22_L0 N n K.length (knsI K) N 0 = _ from e]
        exact outE_end
theorem minI_min (a b : Int) : minI a b = min a b := by unfold minI; split <;> omega
theorem maxI_max (a b : Int) : maxI a b = max a b := by unfold maxI; split <;> omega
def lsE (m : Nat) : Int → List Int → Int
  | _, [] => 0
  | last, k :: r => if k < 0 then 2 else if k ≥ (m : Int) then 2 else if k ≤ last then 7 else lsE m k r
def iL (X : List Int) : List PV := X.map (PV.int .i64)
theorem iL_len (X : List Int) : (iL X).length = X.length := by simp [iL]
def en (X : List Int) (i : Nat) : Int := X.getD i 0
theorem iL_gp {X : List Int} {i : Nat} (h : i < X.length) : gp (iL X) i = .int .i64 (en X i) := by
  simp [iL, gp, en, List.getD, h]
theorem drop_en {L : List Int} {i : Nat} (h : i < L.length) : L.drop i = en L i :: L.drop (i + 1) := by
  rw [List.drop_eq_getElem_cons h]; simp [en, List.getD, h]
theorem listed_L (N : Nat) (p : PV) (m : Nat) (c : List PV) (ks : List Int) (hk : ks.length ≤ 1000) : ∀ (r i fuel : Nat) (last : Int), ks.length - i = r → r < fuel →
    m63_L0 N p ks.length (iL ks) fuel last (i : Int) (.lst false m c) = some (outE (lsE m last (ks.drop i)))
  | r, i, 0, _, _, h => by omega
  | r, i, f + 1, last, hr, hf => by
    have hl := iL_len ks
    rw [m63_L0]
    by_cases h : i < ks.length
    · have ih := listed_L N p m c ks hk (r - 1) (i + 1) f (en ks i) (by omega) (by omega)
      rw [brn_t (by simp; omega), toNatN, grd_t ⟨by omega, by omega⟩, grd_t (by simp only [List.length_drop]; omega), iL_gp h, drop_en h]
      simp only [getI, if_true, getL, lsE]
      by_cases h1 : en ks i < 0
      · rw [brn_t (by simpa using h1), if_pos h1]; rfl
      · rw [brn_f (by simpa using h1), if_neg h1]
        by_cases h2 : en ks i ≥ (m : Int)
        · rw [brn_t (by simpa using h2), if_pos h2]; rfl
        · rw [brn_f (by simpa using h2), if_neg h2]
          by_cases h3 : en ks i ≤ last
          · rw [brn_t (by simpa using h3), if_pos h3]; rfl
          · rw [brn_f (by simpa using h3), if_neg h3, wrapN (by omega)]; exact ih
    · rw [brn_f (by simp; omega), List.drop_eq_nil_of_le (by omega)]; rfl
def lstE (n : Int) (K : List (List (Int × Int))) (ks : List Int) : Int := if chk n K ≠ 0 then chk n K else lsE K.length (-1) ks
theorem listed_ok (N : Nat) (hN : 2000 ≤ N) (n : Int) (K : List (List (Int × Int))) (hK : K.length ≤ 1000) (hl : ∀ l ∈ K, l.length ≤ 1000) (ks : List Int) (hk : ks.length ≤ 1000) :
    m63 N (.agg [.int .i64 n, .lst false K.length (knsI K)]) (.lst false ks.length (iL ks)) = some (.int .i64 (lstE n K ks)) := by
  have e := listed_L N (.int .i64 n) K.length (knsI K) ks hk ks.length 0 N (-1) (by omega) (by omega)
  rw [List.drop_zero] at e
  simp only [m63, getA2, getL, check_ok N hN n K hK hl, bnd', getI, if_true]
  unfold lstE
  by_cases h : chk n K = 0
  · rw [brn_f (by simpa using h), if_neg (by simpa using h), show m63_L0 N (.int .i64 n) ks.length (iL ks) N (-1) 0 (.lst false K.length (knsI K)) = _ from e]
    exact outE_end
  · rw [brn_t (by simpa using h), if_pos h]
def cS (X : List Nat) : List Int := X.map fun (k : Nat) => (k : Int)
theorem cS_len (X : List Nat) : (cS X).length = X.length := by simp [cS]
theorem nL_iL (X : List Nat) : nL X = iL (cS X) := by simp [nL, iL, cS]
end Go.Proofs.YtnponojgpkbagaaDoor

namespace Go.Proofs.YtnponojgpkbagaaDoor
open Go.V Go.Crew
set_option linter.unusedSectionVars false
set_option linter.unnecessarySimpa false

theorem hasN_L (N : Nat) (x : Nat) (M : List Nat) (hM : M.length ≤ 1000) : ∀ (r i fuel : Nat), M.length - i = r → r < fuel →
    m85_2_L0 N M.length (x : Int) (nL M) fuel (i : Int) = some (if (M.drop i).contains x then .inl (.bool true) else .inr ())
  | r, i, 0, _, h => by omega
  | r, i, f + 1, hr, hf => by
    have hl := nL_len M
    rw [m85_2_L0]
    by_cases h : i < M.length
    · have ih := hasN_L N x M hM (r - 1) (i + 1) f (by omega) (by omega)
      rw [brn_t (by simp; omega), toNatN, grd_t ⟨by omega, by omega⟩, grd_t (by omega), nL_gp h, drop_nn h]
      simp only [getI, if_true, List.contains_cons]
      by_cases e : x = nn M i
      · rw [brn_t (by simp; omega)]; simp [e]
      · rw [brn_f (by simp; omega), wrapN (by omega), ih]; simp [e]
    · rw [brn_f (by simp; omega), List.drop_eq_nil_of_le (by omega)]; rfl
theorem hasN_ok (N : Nat) (hN : 2000 ≤ N) (x : Nat) (M : List Nat) (hM : M.length ≤ 1000) : m85_2 N M.length (x : Int) (nL M) = some (.bool (M.contains x)) := by
  have e := hasN_L N x M hM M.length 0 N (by omega) (by omega)
  rw [List.drop_zero] at e
  simp only [m85_2]
  rw [show m85_2_L0 N M.length (x : Int) (nL M) N 0 = _ from e]
  cases M.contains x <;> rfl
theorem prsI_fst {l : List (Int × Int)} {i : Nat} (h : i < l.length) : gp (prsI l) (i * 2) = .int .i64 (pI l i).1 := by
  have := prsI_two h
  have hl := prsI_len l
  simp only [gp, List.getD]
  have e := congrArg (fun z => z[0]?) this
  simp only [List.getElem?_take, List.getElem?_drop] at e
  simp at e
  rw [e]; rfl
theorem prsI_snd {l : List (Int × Int)} {i : Nat} (h : i < l.length) : gp (prsI l) (i * 2 + 1) = .int .i64 (pI l i).2 := by
  have := prsI_two h
  simp only [gp, List.getD]
  have e := congrArg (fun z => z[1]?) this
  simp only [List.getElem?_take, List.getElem?_drop] at e
  simp at e
  rw [e]; rfl
theorem bnd_t {α β : Type} {x : α} {f : α → Option β} : bnd' (some x) f = f x := rfl
theorem getI_t {α : Type} {k : IntKind} {x : Int} {f : Int → Option α} : getI k (.int k x) f = f x := by simp [getI]
theorem getB_t {α : Type} {x : Bool} {f : Bool → Option α} : getB (.bool x) f = f x := rfl
theorem getL_t {α : Type} {n : Nat} {c : List PV} {f : Nat → List PV → Option α} : getL (.lst false n c) f = f n c := rfl
theorem scan_L2 (N : Nat) (hN : 2000 ≤ N) (L : List (Nat × Nat)) (hl : L.length ≤ 500) (i v : Nat) (a b c d : Int) : ∀ (r k fuel : Nat) (M : List Nat), L.length - k = r → r < fuel → i < M.length → nn M i = v → M.length + r ≤ 900 →
    m96_L2 N a L.length (prsI (cL L)) b c (i : Int) d fuel M.length (k : Int) (nL M) = some ((scan (L.drop k) v M).length, nL (scan (L.drop k) v M))
  | r, k, 0, M, _, h, _, _, _ => by omega
  | r, k, f + 1, M, hr, hf, hi, hv, hm => by
    have hnl := nL_len M
    rw [m96_L2]
    by_cases h : k < L.length
    · have ih := fun M => scan_L2 N hN L hl i v a b c d (r - 1) (k + 1) f M (by omega) (by omega)
      have h' : k < (cL L).length := by rw [cL_len]; exact h
      have hc := prsI_two' h'
      have hlen := prsI_len (cL L)
      have q1 : ∀ {α : Type} (y : Option α), grd (0 < List.length (List.drop (k * 2) (prsI (cL L)))) y = y := fun y => grd_t (by omega)
      have q2 : ∀ {α : Type} (y : Option α), grd (0 < List.length (List.drop 1 (List.drop (k * 2) (prsI (cL L))))) y = y := fun y => grd_t (by rw [List.length_drop]; omega)
      have g1 : gp (prsI (cL L)) (k * 2) = .int .i64 ((pN L k).1 : Int) := by rw [prsI_fst h', cL_pI h]; rfl
      have g2 : gp (prsI (cL L)) (k * 2 + 1) = .int .i64 ((pN L k).2 : Int) := by rw [prsI_snd h', cL_pI h]; rfl
      have stay := ih M hi hv (by omega)
      have snoc : ∀ x : Nat, m96_L2 N a L.length (prsI (cL L)) b c (i : Int) d f (M.length + 1) (IntKind.i64.wrap ((k : Int) + 1)) (nL M ++ [.int .i64 (x : Int)]) = some ((scan (L.drop (k + 1)) v (M ++ [x])).length, nL (scan (L.drop (k + 1)) v (M ++ [x]))) := fun x => by
        have e1 : nL M ++ [PV.int .i64 (x : Int)] = nL (M ++ [x]) := by simp [nL]
        have := ih (M ++ [x]) (by simp; omega) (by rw [← hv]; exact getD_app hi) (by simp; omega)
        rw [List.length_append] at this
        rw [wrapN (by omega), e1]; exact this
      rw [brn_t (by simp; omega), toNatN, grd_t ⟨by omega, by omega⟩, q1, g1, drop_pN h]
      simp only [getI_t, toNatN]
      rw [grd_t (by omega), grd_t (by omega), nL_gp hi, hv]
      simp only [getI_t, q2, g2, hasN_ok N hN _ M (by omega), bnd_t, getB_t]
      show _ = some ((scan (L.drop (k + 1)) v (Crew.upd v M (pN L k))).length, nL (scan (L.drop (k + 1)) v (Crew.upd v M (pN L k))))
      unfold Crew.upd
      by_cases h1 : (pN L k).1 = v
      · rw [brn_t (by simp; omega)]
        cases m2 : M.contains (pN L k).2 with
        | true =>
          have m2' : (pN L k).2 ∈ M := by simpa using m2
          rw [brn_t rfl, if_neg (by simp [m2'])]
          by_cases h2 : (pN L k).2 = v
          · rw [brn_t (by simp; omega)]
            cases m1 : M.contains (pN L k).1 with
            | true =>
              have m1' : (pN L k).1 ∈ M := by simpa using m1
              rw [brn_t rfl, if_neg (by simp [m1']), wrapN (by omega)]; exact stay
            | false =>
              have m1' : (pN L k).1 ∉ M := by simpa using m1
              rw [brn_f rfl, if_pos ⟨h2, m1'⟩, grd_t (by omega), grd_t hnl]; exact snoc _
          · rw [brn_f (by simp; omega), if_neg (by simp [h2]), wrapN (by omega)]; exact stay
        | false =>
          have m2' : (pN L k).2 ∉ M := by simpa using m2
          rw [brn_f rfl, if_pos ⟨h1, m2'⟩, grd_t (by omega), grd_t hnl]; exact snoc _
      · rw [brn_f (by simp; omega), if_neg (by simp [h1])]
        by_cases h2 : (pN L k).2 = v
        · rw [brn_t (by simp; omega)]
          cases m1 : M.contains (pN L k).1 with
          | true =>
            have m1' : (pN L k).1 ∈ M := by simpa using m1
            rw [brn_t rfl, if_neg (by simp [m1']), wrapN (by omega)]; exact stay
          | false =>
            have m1' : (pN L k).1 ∉ M := by simpa using m1
            rw [brn_f rfl, if_pos ⟨h2, m1'⟩, grd_t (by omega), grd_t hnl]; exact snoc _
        · rw [brn_f (by simp; omega), if_neg (by simp [h2]), wrapN (by omega)]; exact stay
    · rw [brn_f (by simp; omega), List.drop_eq_nil_of_le (by omega)]; rfl
theorem scan_L3 (N : Nat) (hN : 2000 ≤ N) (L : List (Nat × Nat)) (hl : L.length ≤ 500) (i v : Nat) (a b c : Int) : ∀ (r k fuel : Nat) (M : List Nat), L.length - k = r → r < fuel → i < M.length → nn M i = v → M.length + r ≤ 900 →
    m96_L3 N a L.length (prsI (cL L)) b c (i : Int) fuel M.length (k : Int) (nL M) = some ((scan (L.drop k) v M).length, nL (scan (L.drop k) v M))
  | r, k, 0, M, _, h, _, _, _ => by omega
  | r, k, f + 1, M, hr, hf, hi, hv, hm => by
    have hnl := nL_len M
    rw [m96_L3]
    by_cases h : k < L.length
    · have ih := fun M => scan_L3 N hN L hl i v a b c (r - 1) (k + 1) f M (by omega) (by omega)
      have h' : k < (cL L).length := by rw [cL_len]; exact h
      have hc := prsI_two' h'
      have hlen := prsI_len (cL L)
      have q1 : ∀ {α : Type} (y : Option α), grd (0 < List.length (List.drop (k * 2) (prsI (cL L)))) y = y := fun y => grd_t (by omega)
      have q2 : ∀ {α : Type} (y : Option α), grd (0 < List.length (List.drop 1 (List.drop (k * 2) (prsI (cL L))))) y = y := fun y => grd_t (by rw [List.length_drop]; omega)
      have g1 : gp (prsI (cL L)) (k * 2) = .int .i64 ((pN L k).1 : Int) := by rw [prsI_fst h', cL_pI h]; rfl
      have g2 : gp (prsI (cL L)) (k * 2 + 1) = .int .i64 ((pN L k).2 : Int) := by rw [prsI_snd h', cL_pI h]; rfl
      have stay := ih M hi hv (by omega)
      have snoc : ∀ x : Nat, m96_L3 N a L.length (prsI (cL L)) b c (i : Int) f (M.length + 1) (IntKind.i64.wrap ((k : Int) + 1)) (nL M ++ [.int .i64 (x : Int)]) = some ((scan (L.drop (k + 1)) v (M ++ [x])).length, nL (scan (L.drop (k + 1)) v (M ++ [x]))) := fun x => by
        have e1 : nL M ++ [PV.int .i64 (x : Int)] = nL (M ++ [x]) := by simp [nL]
        have := ih (M ++ [x]) (by simp; omega) (by rw [← hv]; exact getD_app hi) (by simp; omega)
        rw [List.length_append] at this
        rw [wrapN (by omega), e1]; exact this
      rw [brn_t (by simp; omega), toNatN, grd_t ⟨by omega, by omega⟩, q1, g1, drop_pN h]
      simp only [getI_t, toNatN]
      rw [grd_t ⟨by omega, by omega⟩, grd_t (by omega), nL_gp hi, hv]
      simp only [getI_t, q2, g2, hasN_ok N hN _ M (by omega), bnd_t, getB_t]
      show _ = some ((scan (L.drop (k + 1)) v (Crew.upd v M (pN L k))).length, nL (scan (L.drop (k + 1)) v (Crew.upd v M (pN L k))))
      unfold Crew.upd
      by_cases h1 : (pN L k).1 = v
      · rw [brn_t (by simp; omega)]
        cases m2 : M.contains (pN L k).2 with
        | true =>
          have m2' : (pN L k).2 ∈ M := by simpa using m2
          rw [brn_t rfl, if_neg (by simp [m2'])]
          by_cases h2 : (pN L k).2 = v
          · rw [brn_t (by simp; omega)]
            cases m1 : M.contains (pN L k).1 with
            | true =>
              have m1' : (pN L k).1 ∈ M := by simpa using m1
              rw [brn_t rfl, if_neg (by simp [m1']), wrapN (by omega)]; exact stay
            | false =>
              have m1' : (pN L k).1 ∉ M := by simpa using m1
              rw [brn_f rfl, if_pos ⟨h2, m1'⟩, grd_t (by omega), grd_t hnl]; exact snoc _
          · rw [brn_f (by simp; omega), if_neg (by simp [h2]), wrapN (by omega)]; exact stay
        | false =>
          have m2' : (pN L k).2 ∉ M := by simpa using m2
          rw [brn_f rfl, if_pos ⟨h1, m2'⟩, grd_t (by omega), grd_t hnl]; exact snoc _
      · rw [brn_f (by simp; omega), if_neg (by simp [h1])]
        by_cases h2 : (pN L k).2 = v
        · rw [brn_t (by simp; omega)]
          cases m1 : M.contains (pN L k).1 with
          | true =>
            have m1' : (pN L k).1 ∈ M := by simpa using m1
            rw [brn_t rfl, if_neg (by simp [m1']), wrapN (by omega)]; exact stay
          | false =>
            have m1' : (pN L k).1 ∉ M := by simpa using m1
            rw [brn_f rfl, if_pos ⟨h2, m1'⟩, grd_t (by omega), grd_t hnl]; exact snoc _
        · rw [brn_f (by simp; omega), if_neg (by simp [h2]), wrapN (by omega)]; exact stay
    · rw [brn_f (by simp; omega), List.drop_eq_nil_of_le (by omega)]; rfl
theorem grp_L1 (N : Nat) (hN : 2000 ≤ N) (L : List (Nat × Nat)) (hL : Ok L) (hl : L.length ≤ 500) (a x : Int) (s : Nat) (hs : s < 5) : ∀ (f i : Nat) (M : List Nat) (b : Bool), 5 < f + i → Bok L s i M →
    m96_L1 N a L.length (prsI (cL L)) x (s : Int) f M.length b (i : Int) (nL M) = some (b && ((bfs L f i M).drop i).all fun y => decide (s ≤ y))
  | 0, i, M, b, hf, h => by
    have := nodup_five h.nd fun x hx => (h.cl x hx).1
    have := h.le
    omega
  | f + 1, i, M, b, hf, h => by
    have h5 := nodup_five h.nd fun x hx => (h.cl x hx).1
    have hnl := nL_len M
    rw [m96_L1, bfs]
    by_cases hi : i < M.length
    · have hb := bok_scan hL h hi
      have ih := fun b => grp_L1 N hN L hL hl a x s hs f (i + 1) (scan L (M.getD i 0) M) b (by omega) hb
      obtain ⟨R1, e1⟩ := scan_sub L (M.getD i 0) M
      obtain ⟨R2, e2⟩ := bfs_sub L f (i + 1) (scan L (M.getD i 0) M)
      have ed : (bfs L f (i + 1) (scan L (M.getD i 0) M)).drop i = nn M i :: (bfs L f (i + 1) (scan L (M.getD i 0) M)).drop (i + 1) := by
        rw [drop_nn (by rw [e2, e1]; simp; omega)]
        congr 1
        show List.getD _ _ _ = _
        rw [e2, e1, List.append_assoc, getD_app hi]; rfl
      rw [if_pos hi, brn_t (by simp; omega), ed, List.all_cons]
      cases b with
      | true =>
        have e := scan_L2 N hN L hl i (nn M i) a x (s : Int) (nn M i : Int) L.length 0 N M (by omega) (by omega) hi rfl (by omega)
        rw [List.drop_zero] at e
        rw [brn_t rfl, toNatN, grd_t ⟨by omega, by omega⟩, grd_t (by omega), nL_gp hi, getI_t, show m96_L2 N a L.length (prsI (cL L)) x (s : Int) (i : Int) (nn M i : Int) N M.length 0 (nL M) = _ from e, bnd_t]
        simp only []
        rw [wrapN (by omega)]
        have := ih (decide ((nn M i : Int) ≥ (s : Int)))
        rw [show (scan L (nn M i) M) = scan L (M.getD i 0) M from rfl, this]
        congr 1
        rw [Bool.true_and]
        congr 1
        simp
      | false =>
        have e := scan_L3 N hN L hl i (nn M i) a x (s : Int) L.length 0 N M (by omega) (by omega) hi rfl (by omega)
        rw [List.drop_zero] at e
        rw [brn_f rfl, show m96_L3 N a L.length (prsI (cL L)) x (s : Int) (i : Int) N M.length 0 (nL M) = _ from e, bnd_t]
        simp only []
        rw [wrapN (by omega)]
        exact ih false
    · have : i = M.length := by have := h.le; omega
      rw [if_neg hi, brn_f (by simp; omega), List.drop_eq_nil_of_le (by omega)]
      simp
theorem parts_L (N : Nat) (hN : 2000 ≤ N) (n : Nat) (hn : n ≤ 5) (L : List (Nat × Nat)) (hL : Ok L) (hl : L.length ≤ 500) : ∀ (r s fuel c : Nat), n - s = r → r < fuel → c ≤ s →
    m96_L0 N (n : Int) L.length (prsI (cL L)) fuel (c : Int) (s : Int) = some ((c + ((List.range' s (n - s)).filter fun s => ja (runJ apt L) s == s).length : Nat) : Int)
  | r, s, 0, c, _, h, _ => by omega
  | r, s, f + 1, c, hr, hf, hc => by
    rw [m96_L0]
    by_cases h : s < n
    · have e := grp_L1 N hN L hL hl (n : Int) (c : Int) s (by omega) N 0 [s] true (by omega) (bok_init L (by omega))
      rw [List.drop_zero, grp_first hL (by omega) (by omega), Bool.true_and] at e
      rw [brn_t (by simp; omega), show m96_L1 N (n : Int) L.length (prsI (cL L)) (c : Int) (s : Int) N 1 true 0 [.int .i64 (s : Int)] = _ from e, bnd_t, show n - s = (n - (s + 1)) + 1 by omega, List.range'_succ, List.filter_cons]
      cases hq : ja (runJ apt L) s == s with
      | true =>
        rw [brn_t rfl, wrapN (by omega), wrapN (by omega), parts_L N hN n hn L hL hl (r - 1) (s + 1) f (c + 1) (by omega) (by omega) (by omega)]
        simp; omega
      | false =>
        rw [brn_f rfl, wrapN (by omega), parts_L N hN n hn L hL hl (r - 1) (s + 1) f c (by omega) (by omega) (by omega)]
        simp
    · rw [brn_f (by simp; omega), show n - s = 0 by omega]; simp
/-- the reference's groups are what joining leaves -/
theorem parts_ok (N : Nat) (hN : 2000 ≤ N) (n : Nat) (hn : n ≤ 5) (L : List (Nat × Nat)) (hL : ∀ p ∈ L, p.1 < n ∧ p.2 < n) (hl : L.length ≤ 500) : m96 N (n : Int) (.lst false L.length (prsI (cL L))) = some (.int .i64 ((n - rk L : Nat) : Int)) := by
  have hL5 : Ok L := fun p hp => ⟨by have := hL p hp; omega, by have := hL p hp; omega⟩
  have e := parts_L N hN n hn L hL5 hl n 0 N 0 (by omega) (by omega) (by omega)
  have g := grps_rk hn hL
  rw [Nat.zero_add, Nat.sub_zero, ← List.range_eq_range'] at e
  rw [m96, getL_t, show m96_L0 N (n : Int) L.length (prsI (cL L)) N 0 0 = _ from e, bnd_t]
  rw [show ((List.range n).filter fun s => ja (runJ apt L) s == s).length = grps n L from rfl, show grps n L = n - rk L by omega]
end Go.Proofs.YtnponojgpkbagaaDoor

namespace Go.Proofs.YtnponojgpkbagaaDoor
open Go.V Go.Crew
set_option linter.unusedSectionVars false
set_option linter.unnecessarySimpa false

theorem in_ok (N : Nat) (x lo hi : Int) : m75 N x lo hi = some (.bool (decide (lo ≤ x) && decide (x ≤ hi))) := by
  unfold m75
  by_cases h : x ≥ lo
  · have h' : lo ≤ x := h
    rw [brn_t (decide_eq_true h), decide_eq_true h', Bool.true_and]
  · have h' : ¬ lo ≤ x := h
    rw [brn_f (decide_eq_false h), decide_eq_false h', Bool.false_and]
theorem getA2_t {α : Type} {a b : PV} {f : PV → PV → Option α} : getA2 (.agg [a, b]) f = f a b := rfl
theorem twice_L (N : Nat) (n : Int) (m : Nat) (c : List PV) (x : Int) (l : List (Int × Int)) (i : Nat) (hi : i < l.length) (hl : l.length ≤ 1000) : ∀ (r j fuel : Nat), i - j = r → r < fuel →
    m23_L2 N n m c x l.length (prsI l) (i : Int) fuel (j : Int) = some (if ((l.take i).drop j).contains (pI l i) then .inl (.int .i64 6) else .inr ())
  | r, j, 0, _, h => by omega
  | r, j, f + 1, hr, hf => by
    rw [m23_L2]
    by_cases h : j < i
    · have ih := twice_L N n m c x l i hi hl (r - 1) (j + 1) f (by omega) (by omega)
      have hj : j < l.length := by omega
      have hjt : j < (l.take i).length := by rw [List.length_take]; omega
      have e : pI (l.take i) j = pI l j := by simp [pI, List.getD, h]
      rw [brn_t (by simp; omega), toNatN, toNatN, grd_t ⟨by omega, by omega⟩, grd_t (prsI_two' hj), prsI_two hj, getA2_t, grd_t (prsI_two' hi), prsI_two hi, getA2_t, getI_t, getI_t, getI_t, getI_t, drop_pI hjt, List.contains_cons, e]
      by_cases q : pI l i = pI l j
      · rw [brn_t (by rw [q]; simp)]; simp [q]
      · have q1 : (pI l i == pI l j) = false := by simpa using q
        rw [brn_f (by
          rw [Bool.and_eq_false_iff]
          by_cases a : (pI l i).1 = (pI l j).1
          · right; have : (pI l j).2 ≠ (pI l i).2 := fun b => q (Prod.ext a b.symm)
            simpa using this
          · left; simpa using fun b : (pI l j).1 = (pI l i).1 => a b.symm), wrapN (by omega), ih, q1, Bool.false_or]
    · rw [brn_f (by simp; omega), List.drop_eq_nil_of_le (by rw [List.length_take]; omega)]; rfl
theorem rchk_L1 (N : Nat) (hN : 2000 ≤ N) (n : Int) (hn1 : 1 ≤ n) (hn5 : n ≤ 5) (m : Nat) (c : List PV) (x : Int) (l : List (Int × Int)) (hl : l.length ≤ 1000) : ∀ (r i fuel : Nat), l.length - i = r → r < fuel →
    m23_L1 N n m c x l.length (prsI l) fuel (i : Int) = some (outE (chkL n (l.take i) (l.drop i)))
  | r, i, 0, _, h => by omega
  | r, i, f + 1, hr, hf => by
    rw [m23_L1]
    by_cases h : i < l.length
    · have ih := rchk_L1 N hN n hn1 hn5 m c x l hl (r - 1) (i + 1) f (by omega) (by omega)
      have hp := prsI_len l
      have w : IntKind.i64.wrap (n - 1) = n - 1 := wrap64 (by omega) (by omega)
      rw [brn_t (by simp; omega), toNatN, grd_t ⟨by omega, by omega⟩, grd_t (by rw [List.length_drop]; omega), prsI_fst h, getI_t, w, in_ok, bnd_t, getB_t, drop_pI h, chkL, minI_min, maxI_max]
      by_cases h1 : 0 ≤ (pI l i).1 ∧ (pI l i).1 ≤ n - 1
      · rw [brn_t (by simp [h1]), grd_t (by rw [List.length_drop, List.length_drop]; omega), prsI_snd h, getI_t, in_ok, bnd_t, getB_t]
        by_cases h2 : 0 ≤ (pI l i).2 ∧ (pI l i).2 ≤ n - 1
        · rw [brn_t (by simp [h2]), if_neg (by omega), if_neg (by omega)]
          by_cases h3 : (pI l i).1 ≥ (pI l i).2
          · rw [brn_t (by simpa using h3), if_pos h3]; rfl
          · have e := twice_L N n m c x l i h hl i 0 N (by omega) (by omega)
            rw [List.drop_zero] at e
            rw [brn_f (by simpa using h3), if_neg h3, show m23_L2 N n m c x l.length (prsI l) (i : Int) N 0 = _ from e]
            cases hc : (l.take i).contains (pI l i) with
            | true => rfl
            | false =>
              simp only [Bool.false_eq_true, if_false, bnd_t]
              rw [wrapN (by omega), ih, take_pI h]
        · rw [brn_f (by
            rw [Bool.and_eq_false_iff]
            by_cases a : 0 ≤ (pI l i).2
            · right; simp; omega
            · left; simpa using a)]
          by_cases a : min (pI l i).1 (pI l i).2 < 0
          · rw [if_pos a]; rfl
          · rw [if_neg a, if_pos (by omega)]; rfl
      · rw [brn_f (by
          rw [Bool.and_eq_false_iff]
          by_cases a : 0 ≤ (pI l i).1
          · right; simp; omega
          · left; simpa using a)]
        by_cases a : min (pI l i).1 (pI l i).2 < 0
        · rw [if_pos a]; rfl
        · rw [if_neg a, if_pos (by omega)]; rfl
    · rw [brn_f (by simp; omega), List.drop_eq_nil_of_le (by omega)]; rfl
theorem rchk_L0 (N : Nat) (hN : 2000 ≤ N) (n : Int) (hn1 : 1 ≤ n) (hn5 : n ≤ 5) (K : List (List (Int × Int))) (hK : K.length ≤ 1000) (hl : ∀ l ∈ K, l.length ≤ 1000) : ∀ (r i fuel : Nat), K.length - i = r → r < fuel →
    m23_L0 N n K.length (knsI K) fuel (i : Int) = some (outE (chkK n (K.drop i)))
  | r, i, 0, _, h => by omega
  | r, i, f + 1, hr, hf => by
    have hk := knsI_len K
    rw [m23_L0]
    by_cases h : i < K.length
    · have ih := rchk_L0 N hN n hn1 hn5 K hK hl (r - 1) (i + 1) f (by omega) (by omega)
      have h1 := hl _ (kI_mem h)
      rw [brn_t (by simp; omega), toNatN, grd_t ⟨by omega, by omega⟩, grd_t (by simp only [List.length_drop]; omega), knsI_gp h, drop_kI h]
      simp only [getL, chkK]
      by_cases h2 : 6 < (kI K i).length
      · rw [brn_t (by simp; omega), if_pos h2]; rfl
      · have e := rchk_L1 N hN n hn1 hn5 K.length (knsI K) (i : Int) (kI K i) h1 (kI K i).length 0 N (by omega) (by omega)
        rw [List.take_zero, List.drop_zero] at e
        rw [brn_f (by simp; omega), if_neg h2, show m23_L1 N n K.length (knsI K) (i : Int) (kI K i).length (prsI (kI K i)) N 0 = _ from e]
        by_cases h3 : chkL n [] (kI K i) = 0
        · rw [if_neg (by simpa using h3), outE, if_pos h3]
          simp only [bnd']
          rw [wrapN (by omega)]; exact ih
        · rw [if_pos h3, outE, if_neg h3]; simp [bnd', outE, h3]
    · rw [brn_f (by simp; omega), List.drop_eq_nil_of_le (by omega)]; rfl
theorem rcheck_ok (N : Nat) (hN : 2000 ≤ N) (n : Int) (K : List (List (Int × Int))) (hK : K.length ≤ 1000) (hl : ∀ l ∈ K, l.length ≤ 1000) : m23 N (.agg [.int .i64 n, .lst false K.length (knsI K)]) = some (.int .i64 (chk n K)) := by
  rw [m23, getA2_t, getI_t, in_ok, bnd_t, getB_t]
  unfold chk
  by_cases h1 : n < 1
  · rw [brn_f (by simp; omega), if_pos h1]
  · rw [if_neg h1]
    by_cases h2 : n > 5
    · rw [brn_f (by simp; omega), if_pos h2]
    · rw [brn_t (by simp; omega), if_neg h2, getL_t]
      by_cases h3 : 5 < K.length
      · rw [brn_t (by simp; omega), if_pos h3]
      · have e := rchk_L0 N hN n (by omega) (by omega) K hK hl K.length 0 N (by omega) (by omega)
        rw [List.drop_zero] at e
        rw [brn_f (by simp; omega), if_neg h3, show m23_L0 N n K.length (knsI K) N 0 = _ from e]
        exact outE_end
theorem rlisted_e (N : Nat) (p q : PV) (e : Int) (he : e ≠ 0) (k : Nat) (c : List PV) (i : Int) (f : Nat) : m65_L0 N p k c (f + 1) e i q = some e := by
  rw [m65_L0]
  have h2 : (e == 0) = false := by simpa using he
  cases h : decide (i < ((k : Nat) : Int)) with
  | true => rw [brn_t rfl, h2, brn_f rfl]
  | false => rw [brn_f rfl]
def lastE (ks : List Int) (i : Nat) : Int := if i = 0 then -1 else en ks (i - 1)
theorem rlisted_L (N : Nat) (p : PV) (m : Nat) (hm : m ≤ 1000) (c : List PV) (ks : List Int) (hk : ks.length ≤ 1000) : ∀ (r i fuel : Nat), ks.length - i = r → r + 1 < fuel →
    m65_L0 N p ks.length (iL ks) fuel 0 (i : Int) (.lst false m c) = some (lsE m (lastE ks i) (ks.drop i))
  | r, i, 0, _, h => by omega
  | r, i, f + 1, hr, hf => by
    have hl := iL_len ks
    rw [m65_L0]
    by_cases h : i < ks.length
    · obtain ⟨g, rfl⟩ : ∃ g, f = g + 1 := ⟨f - 1, by omega⟩
      have ih := rlisted_L N p m hm c ks hk (r - 1) (i + 1) (g + 1) (by omega) (by omega)
      have w : IntKind.i64.wrap ((m : Int) - 1) = (m : Int) - 1 := wrap64 (by omega) (by omega)
      have e0 : lastE ks (i + 1) = en ks i := by simp [lastE]
      rw [brn_t (by simp; omega), brn_t (by rfl), toNatN, grd_t ⟨by omega, by omega⟩, grd_t (by simp only [List.length_drop]; omega), iL_gp h, getI_t, getL_t, w, in_ok, bnd_t, getB_t, drop_en h, lsE]
      by_cases h1 : 0 ≤ en ks i ∧ en ks i ≤ (m : Int) - 1
      · rw [brn_t (by simp [h1]), if_neg (by omega), if_neg (by omega)]
        by_cases hi : i = 0
        · subst hi
          rw [brn_f (by simp), wrapN (by omega), ih, e0, if_neg (by unfold lastE; simp; omega)]
        · have wi : IntKind.i64.wrap ((i : Int) - 1) = ((i - 1 : Nat) : Int) := by rw [wrap64 (by omega) (by omega)]; omega
          have el : lastE ks i = en ks (i - 1) := by simp [lastE, hi]
          rw [brn_t (by simp; omega), wi, toNatN, grd_t ⟨by omega, by omega⟩, grd_t (by simp only [List.length_drop]; omega), iL_gp (by omega), getI_t, el]
          by_cases h3 : en ks i ≤ en ks (i - 1)
          · rw [brn_t (decide_eq_true h3), if_pos h3, rlisted_e N p _ 7 (by decide)]
          · rw [brn_f (decide_eq_false h3), if_neg h3, wrapN (by omega), ih, e0]
      · rw [brn_f (by
          rw [Bool.and_eq_false_iff]
          by_cases a : 0 ≤ en ks i
          · right; simp; omega
          · left; simpa using a), rlisted_e N p _ 2 (by decide)]
        by_cases a : en ks i < 0
        · rw [if_pos a]
        · rw [if_neg a, if_pos (by omega)]
    · rw [brn_f (by simp; omega), List.drop_eq_nil_of_le (by omega)]; rfl
theorem rlisted_ok (N : Nat) (hN : 2000 ≤ N) (n : Int) (K : List (List (Int × Int))) (hK : K.length ≤ 1000) (hl : ∀ l ∈ K, l.length ≤ 1000) (ks : List Int) (hk : ks.length ≤ 1000) :
    m65 N (.agg [.int .i64 n, .lst false K.length (knsI K)]) (.lst false ks.length (iL ks)) = some (.int .i64 (lstE n K ks)) := by
  obtain ⟨g, rfl⟩ : ∃ g, N = g + 1 := ⟨N - 1, by omega⟩
  rw [m65, getA2_t, getL_t, rcheck_ok (g + 1) hN n K hK hl, bnd_t, getI_t]
  unfold lstE
  by_cases h : chk n K = 0
  · have e := rlisted_L (g + 1) (.int .i64 n) K.length hK (knsI K) ks hk ks.length 0 (g + 1) (by omega) (by omega)
    rw [List.drop_zero] at e
    rw [h, show m65_L0 (g + 1) (.int .i64 n) ks.length (iL ks) (g + 1) 0 0 (.lst false K.length (knsI K)) = _ from e, bnd_t, if_neg (by simp)]
    rfl
  · rw [rlisted_e (g + 1) _ _ _ h, bnd_t, if_pos h]
theorem rrank_L (N : Nat) (n : Nat) (K : List (List (Nat × Nat))) (hK : Fit n K) (p : PV) (ks : List Nat) (hk : ∀ k ∈ ks, k < K.length) (hl : ks.length ≤ 80) : ∀ (r i fuel : Nat), ks.length - i = r → i ≤ ks.length → r < fuel →
    m66_L0 N p ks.length (nL ks) fuel (pairsOf K (ks.take i)).length (i : Int) (.lst false K.length (knsI (cK K))) (prsI (cL (pairsOf K (ks.take i)))) = some ((pairsOf K ks).length, .lst false K.length (knsI (cK K)), prsI (cL (pairsOf K ks)))
  | r, i, 0, _, _, h => by omega
  | r, i, f + 1, hr, hi, hf => by
    have hnl := nL_len ks
    have hkl : (knsI (cK K)).length = K.length := by rw [knsI_len, cK_len]
    rw [m66_L0]
    by_cases h : i < ks.length
    · have ih := rrank_L N n K hK p ks hk hl (r - 1) (i + 1) f (by omega) (by omega) (by omega)
      have hx := hk _ (nn_mem h)
      have h6 := kN_len hK (k := nn ks i)
      have h7 := pairsOf_len hK (ks.take i)
      rw [List.length_take] at h7
      rw [brn_t (by simp; omega), getL_t, toNatN, grd_t ⟨by omega, by omega⟩, grd_t (by simp only [List.length_drop]; omega), nL_gp h, getI_t, toNatN, grd_t ⟨by omega, by omega⟩, grd_t (by simp only [List.length_drop]; omega), knsI_gp (by rw [cK_len]; exact hx), cK_kI hx, getL_t, cL_len, grd_t (by rw [prsI_len, cL_len]), grd_t (by omega), grd_t (by rw [prsI_len, cL_len]), wrapN (by omega), prsI_app, cL_app]
      have e : pairsOf K (ks.take i) ++ kN K (nn ks i) = pairsOf K (ks.take (i + 1)) := by
        rw [List.take_add_one]
        have : ks[i]? = some (nn ks i) := by simp [nn, List.getD, h]
        rw [this]
        simp [pairsOf]
      rw [e, show (pairsOf K (ks.take i)).length + (kN K (nn ks i)).length = (pairsOf K (ks.take (i + 1))).length by rw [← e, List.length_append]]
      exact ih
    · rw [brn_f (by simp; omega), List.take_of_length_le (by omega)]
theorem rrank_ok (N : Nat) (hN : 2000 ≤ N) (n : Nat) (K : List (List (Nat × Nat))) (hK : Fit n K) (ks : List Nat) (hk : ∀ k ∈ ks, k < K.length) (hl : ks.length ≤ 80) : m66 N (crw n K) (.lst false ks.length (nL ks)) = some (.int .i64 (rk (pairsOf K ks) : Int)) := by
  have h := rrank_L N n K hK (.int .i64 (n : Int)) ks hk hl ks.length 0 N (by omega) (by omega) (by omega)
  have hp := pairsOf_len hK ks
  have h5 := hK.n5
  have g := parts_ok N hN n h5 (pairsOf K ks) (pairsOf_lt hK) (by omega)
  have lt := rk_lt hK.n1 h5 (pairsOf_lt hK (ks := ks))
  unfold crw
  rw [m66, getA2_t, getL_t, show m66_L0 N (.int .i64 (n : Int)) ks.length (nL ks) N 0 0 (.lst false K.length (knsI (cK K))) [] = _ from h, bnd_t]
  simp only []
  rw [grd_t (by rw [prsI_len, cL_len]), getI_t, g, bnd_t, getI_t, wrap64 (by omega) (by omega)]
  congr 2; omega
end Go.Proofs.YtnponojgpkbagaaDoor
