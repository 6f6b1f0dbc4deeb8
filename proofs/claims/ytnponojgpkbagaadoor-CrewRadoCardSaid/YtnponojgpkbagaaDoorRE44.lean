/-
  Copies of lists of nothing.
-/
import Derived.Test.YtnponojgpkbagaaDoorRWhyA
import Derived.Test.YtnponojgpkbagaaDoorRMostA
import Derived.Test.YtnponojgpkbagaaDoorRV35
import Derived.Test.YtnponojgpkbagaaDoorRV36
namespace Go.Proofs.YtnponojgpkbagaaDoor
open Go.V
open Nat renaming reduceBEq → qa, reduceAdd → qb, reduceSub → qc, reduceMul → qd, reduceLT → qe, reduceLeDiff → qf
open Int renaming reduceLE → qg, reduceLT → qh, reduceToNat → qi, reduceBEq → qj, reduceBNe → qk
set_option maxRecDepth 100000
set_option maxHeartbeats 4000000
set_option linter.unusedSimpArgs false
set_option linter.unusedVariables false
attribute [local go_sem] tl1 tl2 tl3 tl4 tl5 tl9 tl17 tl21 tl22 tl23 tl24 tl25 tl26 tl27 tl28 tl29 tl31 tl32 tl34 tl35 tl36 tl37 tl38 tl39 tl40 tl41 tl42 tl43 tl44 tl45 tl47 tl48 tl49 tl50 tl51 tl52 tl53 tl54 tl55 tl56 tl57 tl58 tl59 tl60 tl61 tl62 tl63 tl64 tl65 tl66 tl67 tl68 tl69 tl70 tl71 tl72 tl73 tl74 tl75 tl76 tl77 tl78 tl79 tl80 tl81 tl82 tl83 tl84 tl85 tl86 tl87 tl88 tl89 tl90 tl92 tl94 tl95 tl96 tl97 tl98 tl99 tl100 tl101 tl102 tl103 tl104 tl105 tl106 tl107 tl108 tl109 tl110 tl111 tl112 tl113 tl114 tl115 tl116 tl118 tl119 tl121 tl122 tl123 tl124 tl125 tl126 tl127 tl128 tl129 tl131 tl133 tl134 tl135 tl136 tl142 tl146
def getA7 {α : Type} (p : PV) (k : PV → PV → PV → PV → PV → PV → PV → Option α) : Option α := match p with | .agg [a0, a1, a2, a3, a4, a5, a6] => k a0 a1 a2 a3 a4 a5 a6 | _ => none
theorem getA7_some {α : Type} {p : PV} {k : PV → PV → PV → PV → PV → PV → PV → Option α} {r : α} (h : getA7 p k = some r) : ∃ a0 a1 a2 a3 a4 a5 a6, p = .agg [a0, a1, a2, a3, a4, a5, a6] ∧ k a0 a1 a2 a3 a4 a5 a6 = some r := by
  unfold getA7 at h; split at h
  · exact ⟨_, _, _, _, _, _, _, rfl, h⟩
  · cases h
def m40_L2 (N : Nat) (x5144 : Int) (x5145 : Int) (x5146 : Int) (p5150 : PV) (p5151 : PV) (p5152 : PV) (p5153 : PV) (p5154 : PV) (x5156 : Int) (x5159 : Int) (x5335 : Int) (n5336 : Nat) (c5337 : List PV) (x5343 : Int) (x5396 : Int) : Nat → Nat → Int → Int → List PV → Option ((Nat × Int × List PV))
  | 0, _, _, _, _ => none
  | n + 1, n5407, x5408, x5409, c5410 =>
    brn (decide (x5409 < (IntKind.i64.wrap (1 + (Int.tmod (IntKind.i64.wrap x5156) x5144))))) (
      grd (0 ≤ x5408) <|
      brn ((bitsI .and .u16 (Int.fdiv x5343 (2 ^ (min (Int.toNat x5408) 16))) 1) == 1) (
        brn (decide (((n5407 : Nat) : Int) < x5146)) (
          grd ((n5407 + 1) ≤ 1099511627776) <|
          grd (List.length c5410 = (n5407 * 2)) <|
          m40_L2 N x5144 x5145 x5146 p5150 p5151 p5152 p5153 p5154 x5156 x5159 x5335 n5336 c5337 x5343 x5396 n (n5407 + 1) (IntKind.i64.wrap (x5408 + 1)) (IntKind.i64.wrap (x5409 + 1)) (c5410 ++ [(.int .i64 x5396), (.int .i64 x5409)])) (
          m40_L2 N x5144 x5145 x5146 p5150 p5151 p5152 p5153 p5154 x5156 x5159 x5335 n5336 c5337 x5343 x5396 n n5407 (IntKind.i64.wrap (x5408 + 1)) (IntKind.i64.wrap (x5409 + 1)) c5410)) (
        m40_L2 N x5144 x5145 x5146 p5150 p5151 p5152 p5153 p5154 x5156 x5159 x5335 n5336 c5337 x5343 x5396 n n5407 (IntKind.i64.wrap (x5408 + 1)) (IntKind.i64.wrap (x5409 + 1)) c5410)) (
      some (n5407, x5408, c5410))
def m40_L1 (N : Nat) (x5144 : Int) (x5145 : Int) (x5146 : Int) (p5150 : PV) (p5151 : PV) (p5152 : PV) (p5153 : PV) (p5154 : PV) (x5156 : Int) (x5159 : Int) (x5335 : Int) (n5336 : Nat) (c5337 : List PV) (x5343 : Int) : Nat → Nat → Int → Int → List PV → Option ((Nat × List PV))
  | 0, _, _, _, _ => none
  | n + 1, n5394, x5395, x5396, c5397 =>
    brn (decide (x5396 < (IntKind.i64.wrap (1 + (Int.tmod (IntKind.i64.wrap x5156) x5144))))) (
      bnd' (m40_L2 N x5144 x5145 x5146 p5150 p5151 p5152 p5153 p5154 x5156 x5159 x5335 n5336 c5337 x5343 x5396 N n5394 x5395 (IntKind.i64.wrap (x5396 + 1)) c5397) fun o =>
      match o with
      | (n5417, x5418, c5419) =>
        m40_L1 N x5144 x5145 x5146 p5150 p5151 p5152 p5153 p5154 x5156 x5159 x5335 n5336 c5337 x5343 n n5417 x5418 (IntKind.i64.wrap (x5396 + 1)) c5419) (
      some (n5394, c5397))
def m40_L0 (N : Nat) (x5144 : Int) (x5145 : Int) (x5146 : Int) (p5150 : PV) (p5151 : PV) (p5152 : PV) (p5153 : PV) (p5154 : PV) (x5156 : Int) (x5159 : Int) : Nat → Int → Nat → List PV → Option ((Nat × List PV))
  | 0, _, _, _ => none
  | n + 1, x5335, n5336, c5337 =>
    brn (decide (x5335 < (((Int.toNat (Int.tmod (IntKind.i64.wrap x5159) (IntKind.i64.wrap (x5145 + 1)))) : Nat) : Int))) (
      grd (0 ≤ x5335 ∧ x5335 < (((Int.toNat (Int.tmod (IntKind.i64.wrap x5159) (IntKind.i64.wrap (x5145 + 1)))) : Nat) : Int)) <|
      grd ((2 + (Int.toNat x5335)) < 7) <|
      getI .u16 (gp [(.int .u8 x5156), (.int .u8 x5159), p5150, p5151, p5152, p5153, p5154] (2 + (Int.toNat x5335))) fun x5343 =>
      bnd' (m40_L1 N x5144 x5145 x5146 p5150 p5151 p5152 p5153 p5154 x5156 x5159 x5335 n5336 c5337 x5343 N 0 0 0 []) fun o =>
      match o with
      | (n5420, c5421) =>
        grd ((n5336 + 1) ≤ 1099511627776) <|
        grd (List.length c5337 = n5336) <|
        grd (List.length c5421 = (n5420 * 2)) <|
        m40_L0 N x5144 x5145 x5146 p5150 p5151 p5152 p5153 p5154 x5156 x5159 n (IntKind.i64.wrap (x5335 + 1)) (n5336 + 1) (c5337 ++ [(.lst false n5420 c5421)])) (
      some (n5336, c5337))
def m40 (N : Nat) (p5143 : PV) (x5144 : Int) (x5145 : Int) (x5146 : Int) : Option (PV) :=
  getA7 p5143 fun p5148 p5149 p5150 p5151 p5152 p5153 p5154 =>
  getI .u8 p5148 fun x5156 =>
  grd (x5144 ≠ 0) <|
  getI .u8 p5149 fun x5159 =>
  grd ((IntKind.i64.wrap (x5145 + 1)) ≠ 0) <|
  grd (0 ≤ (Int.tmod (IntKind.i64.wrap x5159) (IntKind.i64.wrap (x5145 + 1))) ∧ (Int.tmod (IntKind.i64.wrap x5159) (IntKind.i64.wrap (x5145 + 1))) ≤ 5) <|
  bnd' (m40_L0 N x5144 x5145 x5146 p5150 p5151 p5152 p5153 p5154 x5156 x5159 N 0 0 []) fun o =>
  match o with
  | (n5425, c5426) =>
    grd (List.length c5426 = n5425) <|
    some (.agg [(.int .i64 (IntKind.i64.wrap (1 + (Int.tmod (IntKind.i64.wrap x5156) x5144)))), (.lst false n5425 c5426)])
theorem c40 (N : Nat) (p5143 : PV) (x5144 : Int) (x5145 : Int) (x5146 : Int) (r : PV)  (h : m40 N p5143 x5144 x5145 x5146 = some r) : FnP Tryd.prog 40 [p5143, (.int .i64 x5144), (.int .i64 x5145), (.int .i64 x5146)] r := by
  unfold m40 at h
  refine Fn_of (sz := 77) tab_ok [0, 1, 2, 3, 4, 8, 9, 11, 12, 13, 14, 15, 30, 31, 32, 33, 37, 38, 39, 46, 59] [.cell 8 24] Tryd.func40 rfl rfl rfl (by simp) ?_
  simp only [initSt, initEnv, List.map_cons, List.map_nil, List.getD_cons_zero, List.getD_cons_succ, List.getD_nil]
  have hh := getA7_some h; clear h; obtain ⟨p5148, p5149, p5150, p5151, p5152, p5153, p5154, h5147, h⟩ := hh
  have hh := getI_some h; clear h; obtain ⟨x5156, h5155, h⟩ := hh
  have hh := grd_some h; clear h; obtain ⟨g5157, h⟩ := hh
  have hh := getI_some h; clear h; obtain ⟨x5159, h5158, h⟩ := hh
  have hh := grd_some h; clear h; obtain ⟨g5160, h⟩ := hh
  have hh := grd_some h; clear h; obtain ⟨⟨g5161, g5162⟩, h⟩ := hh
  refine W_sound tab_ok mixed 31 _ _ _ ?_
  simp -implicitDefEqProofs only [go_sem, qa, qb, qc, qd, qe, qf, qg, qh, qi, qj, qk, ↓reduceIte, h5147, h5155, g5157, h5158, g5160, g5161, g5162]
  repeat with_reducible refine ⟨by first | kernel_rfl | decide, ?_⟩
  refine Wp_wkK Wk_norm rfl ?_
  simp -implicitDefEqProofs only [go_sem, qa, qb, qc, qd, qe, qf, qg, qh, qi, qj, qk, ↓reduceIte, normE, h5147, h5155, g5157, h5158, g5160, g5161, g5162]
  (try simp -implicitDefEqProofs only [go_sem, qa, qb, qc, qd, qe, qf, qg, qh, qi, qj, qk, ↓reduceIte, h5147, h5155, g5157, h5158, g5160, g5161, g5162])
  refine Wp_weaken (Wk_ownC 18 1 1 rfl rfl (by decide) (by decide)) ?_
  simp -implicitDefEqProofs only [go_sem, qa, qb, qc, qd, qe, qf, qg, qh, qi, qj, qk, ↓reduceIte, setO, h5147, h5155, g5157, h5158, g5160, g5161, g5162]
  have hh := bnd'_some h; clear h; obtain ⟨o5428, h5429, h5430⟩ := hh
  refine Wp_cut (fun s => ∃ n5425, ∃ c5426, (n5425, c5426) = o5428 ∧ s = ⟨[], [(0, .dead), (1, .dead), (2, .dead), (3, .dead), (4, .dead), (8, .ptr 0 0), (9, .ptr 1 0), (11, .dead), (12, .dead), (13, .dead), (14, .dead), (15, .dead), (30, .dead), (31, .dead), (32, .dead), (33, .dead), (37, .dead), (38, .dead), (39, .dead), (46, .dead), (59, .dead)], [(0, .p [(.int .i64 0), .nl]), (1, .r [.v (.int .i64 (IntKind.i64.wrap (1 + (Int.tmod (IntKind.i64.wrap x5156) x5144)))), .sl false 2 0 n5425 1]), (2, .p c5426)], 3, []⟩) ?_ ?_
  · refine Wp_block ?_
    refine Wp_loopG (fun n s => ∃ x5335, ∃ n5336, ∃ c5337, m40_L0 N x5144 x5145 x5146 p5150 p5151 p5152 p5153 p5154 x5156 x5159 n x5335 n5336 c5337 = some o5428 ∧ s = ⟨[], [(0, .dead), (1, .dead), (2, .dead), (3, .v (.int .i64 x5146)), (4, .dead), (8, .ptr 0 0), (9, .ptr 1 0), (11, .dead), (12, .dead), (13, .dead), (14, .dead), (15, .dead), (30, .sl false 2 2 (Int.toNat (Int.tmod (IntKind.i64.wrap x5159) (IntKind.i64.wrap (x5145 + 1)))) 1), (31, .v (.int .i64 (((Int.toNat (Int.tmod (IntKind.i64.wrap x5159) (IntKind.i64.wrap (x5145 + 1)))) : Nat) : Int))), (32, .v (.int .i64 x5335)), (33, .dead), (37, .dead), (38, .dead), (39, .dead), (46, .dead), (59, .dead)], [(0, .p [(.int .i64 0), .nl]), (1, .r [.v (.int .i64 (IntKind.i64.wrap (1 + (Int.tmod (IntKind.i64.wrap x5156) x5144)))), .sl false 3 0 n5336 1]), (2, .p [(.int .u8 x5156), (.int .u8 x5159), p5150, p5151, p5152, p5153, p5154]), (3, .p c5337)], 4, []⟩) N _ ((Wk_le (.k (.k (.k (.r (.k (.r (.r (.r (.r (.r (.r (.r (.r (.r (.r (.r (.r (.r (.r (.r (.r .nil))))))))))))))))))))) (OLe.refl _)).trans (cmpS_ok (st' := ⟨[], [(0, .dead), (1, .dead), (2, .dead), (3, .v (.int .i64 x5146)), (4, .dead), (8, .ptr 0 0), (9, .ptr 1 0), (11, .dead), (12, .dead), (13, .dead), (14, .dead), (15, .dead), (30, .sl false 2 2 (Int.toNat (Int.tmod (IntKind.i64.wrap x5159) (IntKind.i64.wrap (x5145 + 1)))) 1), (31, .v (.int .i64 (((Int.toNat (Int.tmod (IntKind.i64.wrap x5159) (IntKind.i64.wrap (x5145 + 1)))) : Nat) : Int))), (32, .v (.int .i64 0)), (33, .dead), (37, .dead), (38, .dead), (39, .dead), (46, .dead), (59, .dead)], [(0, .p [(.int .i64 0), .nl]), (1, .r [.v (.int .i64 (IntKind.i64.wrap (1 + (Int.tmod (IntKind.i64.wrap x5156) x5144)))), .sl false 3 0 0 1]), (2, .p [(.int .u8 x5156), (.int .u8 x5159), p5150, p5151, p5152, p5153, p5154]), (3, .p [])], 4, []⟩) (by kernel_rfl))) ⟨_, _, _, h5429, rfl⟩ ?_
    clear h5429
    rintro n _ ⟨x5335, n5336, c5337, h5429, rfl⟩
    cases n with
    | zero => cases h5429
    | succ n =>
      rw [m40_L0] at h5429
      have hh := brn_some h5429; clear h5429; rcases hh with ⟨h5338, h5429⟩ | ⟨h5338, h5429⟩
      · have hh := grd_some h5429; clear h5429; obtain ⟨⟨g5339, g5340⟩, h5429⟩ := hh
        have hh := grd_some h5429; clear h5429; obtain ⟨g5341, h5429⟩ := hh
        have hh := getI_some h5429; clear h5429; obtain ⟨x5343, h5342, h5429⟩ := hh
        refine W_sound tab_ok mixed 30 _ _ _ ?_
        simp -implicitDefEqProofs only [go_sem, qa, qb, qc, qd, qe, qf, qg, qh, qi, qj, qk, ↓reduceIte, h5147, h5155, g5157, h5158, g5160, g5161, g5162, h5338, g5339, g5340, g5341, h5342]
        repeat with_reducible refine ⟨by first | kernel_rfl | decide, ?_⟩
        refine Wp_weaken (Wk_ownS 12 2 rfl (by decide) (by decide)) ?_
        simp -implicitDefEqProofs only [go_sem, qa, qb, qc, qd, qe, qf, qg, qh, qi, qj, qk, ↓reduceIte, h5147, h5155, g5157, h5158, g5160, g5161, g5162, h5338, g5339, g5340, g5341, h5342]
        have hh := bnd'_some h5429; clear h5429; obtain ⟨o5431, h5432, h5433⟩ := hh
        refine Wp_cut (fun s => ∃ n5420, ∃ c5421, (n5420, c5421) = o5431 ∧ s = ⟨[], [(0, .dead), (1, .dead), (2, .dead), (3, .v (.int .i64 x5146)), (4, .dead), (8, .ptr 0 0), (9, .ptr 1 0), (11, .dead), (12, .sl false 2 0 n5420 2), (13, .dead), (14, .dead), (15, .dead), (30, .sl false 3 2 (Int.toNat (Int.tmod (IntKind.i64.wrap x5159) (IntKind.i64.wrap (x5145 + 1)))) 1), (31, .v (.int .i64 (((Int.toNat (Int.tmod (IntKind.i64.wrap x5159) (IntKind.i64.wrap (x5145 + 1)))) : Nat) : Int))), (32, .v (.int .i64 x5335)), (33, .dead), (37, .dead), (38, .dead), (39, .dead), (46, .dead), (59, .dead)], [(0, .p [(.int .i64 0), .nl]), (1, .r [.v (.int .i64 (IntKind.i64.wrap (1 + (Int.tmod (IntKind.i64.wrap x5156) x5144)))), .sl false 4 0 n5336 1]), (2, .p c5421), (3, .p [(.int .u8 x5156), (.int .u8 x5159), p5150, p5151, p5152, p5153, p5154]), (4, .p c5337)], 5, []⟩) ?_ ?_
        · refine Wp_block ?_
          refine Wp_loopG (fun n s => ∃ n5394, ∃ x5395, ∃ x5396, ∃ c5397, m40_L1 N x5144 x5145 x5146 p5150 p5151 p5152 p5153 p5154 x5156 x5159 x5335 n5336 c5337 x5343 n n5394 x5395 x5396 c5397 = some o5431 ∧ s = ⟨[], [(0, .dead), (1, .dead), (2, .dead), (3, .v (.int .i64 x5146)), (4, .dead), (8, .ptr 0 0), (9, .ptr 1 0), (11, .v (.int .u16 x5343)), (12, .sl false 2 0 n5394 2), (13, .v (.int .i64 x5395)), (14, .dead), (15, .dead), (30, .sl false 3 2 (Int.toNat (Int.tmod (IntKind.i64.wrap x5159) (IntKind.i64.wrap (x5145 + 1)))) 1), (31, .v (.int .i64 (((Int.toNat (Int.tmod (IntKind.i64.wrap x5159) (IntKind.i64.wrap (x5145 + 1)))) : Nat) : Int))), (32, .v (.int .i64 x5335)), (33, .dead), (37, .v (.int .i64 (IntKind.i64.wrap (1 + (Int.tmod (IntKind.i64.wrap x5156) x5144))))), (38, .v (.int .i64 x5396)), (39, .dead), (46, .dead), (59, .dead)], [(0, .p [(.int .i64 0), .nl]), (1, .r [.v (.int .i64 (IntKind.i64.wrap (1 + (Int.tmod (IntKind.i64.wrap x5156) x5144)))), .sl false 4 0 n5336 1]), (2, .p c5397), (3, .p [(.int .u8 x5156), (.int .u8 x5159), p5150, p5151, p5152, p5153, p5154]), (4, .p c5337)], 5, []⟩) N _ ((Wk_le (.r (.r (.r (.r (.r (.r (.r (.r (.r (.r (.r (.r (.r (.r (.r (.k (.r (.r (.r (.r (.r .nil))))))))))))))))))))) (OLe.refl _)).trans (cmpS_ok (st' := ⟨[], [(0, .dead), (1, .dead), (2, .dead), (3, .v (.int .i64 x5146)), (4, .dead), (8, .ptr 0 0), (9, .ptr 1 0), (11, .v (.int .u16 x5343)), (12, .sl false 2 0 0 2), (13, .v (.int .i64 0)), (14, .dead), (15, .dead), (30, .sl false 3 2 (Int.toNat (Int.tmod (IntKind.i64.wrap x5159) (IntKind.i64.wrap (x5145 + 1)))) 1), (31, .v (.int .i64 (((Int.toNat (Int.tmod (IntKind.i64.wrap x5159) (IntKind.i64.wrap (x5145 + 1)))) : Nat) : Int))), (32, .v (.int .i64 x5335)), (33, .dead), (37, .v (.int .i64 (IntKind.i64.wrap (1 + (Int.tmod (IntKind.i64.wrap x5156) x5144))))), (38, .v (.int .i64 0)), (39, .dead), (46, .dead), (59, .dead)], [(0, .p [(.int .i64 0), .nl]), (1, .r [.v (.int .i64 (IntKind.i64.wrap (1 + (Int.tmod (IntKind.i64.wrap x5156) x5144)))), .sl false 4 0 n5336 1]), (2, .p []), (3, .p [(.int .u8 x5156), (.int .u8 x5159), p5150, p5151, p5152, p5153, p5154]), (4, .p c5337)], 5, []⟩) (by kernel_rfl))) ⟨_, _, _, _, h5432, rfl⟩ ?_
          clear h5432
          rintro n _ ⟨n5394, x5395, x5396, c5397, h5432, rfl⟩
          cases n with
          | zero => cases h5432
          | succ n =>
            rw [m40_L1] at h5432
            have hh := brn_some h5432; clear h5432; rcases hh with ⟨h5398, h5432⟩ | ⟨h5398, h5432⟩
            · refine W_sound tab_ok mixed 20 _ _ _ ?_
              simp -implicitDefEqProofs only [go_sem, qa, qb, qc, qd, qe, qf, qg, qh, qi, qj, qk, ↓reduceIte, h5147, h5155, g5157, h5158, g5160, g5161, g5162, h5338, g5339, g5340, g5341, h5342, h5398]
              repeat with_reducible refine ⟨by first | kernel_rfl | decide, ?_⟩
              have hh := bnd'_some h5432; clear h5432; obtain ⟨o5434, h5435, h5436⟩ := hh
              refine Wp_cut (fun s => ∃ n5417, ∃ x5418, ∃ c5419, (n5417, x5418, c5419) = o5434 ∧ s = ⟨[], [(0, .dead), (1, .dead), (2, .dead), (3, .v (.int .i64 x5146)), (4, .dead), (8, .ptr 0 0), (9, .ptr 1 0), (11, .v (.int .u16 x5343)), (12, .sl false 2 0 n5417 2), (13, .v (.int .i64 x5418)), (14, .dead), (15, .dead), (30, .sl false 3 2 (Int.toNat (Int.tmod (IntKind.i64.wrap x5159) (IntKind.i64.wrap (x5145 + 1)))) 1), (31, .v (.int .i64 (((Int.toNat (Int.tmod (IntKind.i64.wrap x5159) (IntKind.i64.wrap (x5145 + 1)))) : Nat) : Int))), (32, .v (.int .i64 x5335)), (33, .dead), (37, .v (.int .i64 (IntKind.i64.wrap (1 + (Int.tmod (IntKind.i64.wrap x5156) x5144))))), (38, .v (.int .i64 x5396)), (39, .dead), (46, .dead), (59, .dead)], [(0, .p [(.int .i64 0), .nl]), (1, .r [.v (.int .i64 (IntKind.i64.wrap (1 + (Int.tmod (IntKind.i64.wrap x5156) x5144)))), .sl false 4 0 n5336 1]), (2, .p c5419), (3, .p [(.int .u8 x5156), (.int .u8 x5159), p5150, p5151, p5152, p5153, p5154]), (4, .p c5337)], 5, []⟩) ?_ ?_
              · refine Wp_block ?_
                refine Wp_loopG (fun n s => ∃ n5407, ∃ x5408, ∃ x5409, ∃ c5410, m40_L2 N x5144 x5145 x5146 p5150 p5151 p5152 p5153 p5154 x5156 x5159 x5335 n5336 c5337 x5343 x5396 n n5407 x5408 x5409 c5410 = some o5434 ∧ s = ⟨[], [(0, .dead), (1, .dead), (2, .dead), (3, .v (.int .i64 x5146)), (4, .dead), (8, .ptr 0 0), (9, .ptr 1 0), (11, .v (.int .u16 x5343)), (12, .sl false 2 0 n5407 2), (13, .v (.int .i64 x5408)), (14, .v (.int .i64 x5396)), (15, .v (.int .i64 x5409)), (30, .sl false 3 2 (Int.toNat (Int.tmod (IntKind.i64.wrap x5159) (IntKind.i64.wrap (x5145 + 1)))) 1), (31, .v (.int .i64 (((Int.toNat (Int.tmod (IntKind.i64.wrap x5159) (IntKind.i64.wrap (x5145 + 1)))) : Nat) : Int))), (32, .v (.int .i64 x5335)), (33, .dead), (37, .v (.int .i64 (IntKind.i64.wrap (1 + (Int.tmod (IntKind.i64.wrap x5156) x5144))))), (38, .v (.int .i64 x5396)), (39, .dead), (46, .dead), (59, .dead)], [(0, .p [(.int .i64 0), .nl]), (1, .r [.v (.int .i64 (IntKind.i64.wrap (1 + (Int.tmod (IntKind.i64.wrap x5156) x5144)))), .sl false 4 0 n5336 1]), (2, .p c5410), (3, .p [(.int .u8 x5156), (.int .u8 x5159), p5150, p5151, p5152, p5153, p5154]), (4, .p c5337)], 5, []⟩) N _ ((Wk_le (.r (.r (.r (.r (.r (.r (.r (.r (.r (.r (.r (.r (.r (.r (.r (.r (.r (.r (.k (.r (.r .nil))))))))))))))))))))) (OLe.refl _)).trans (cmpS_ok (st' := ⟨[], [(0, .dead), (1, .dead), (2, .dead), (3, .v (.int .i64 x5146)), (4, .dead), (8, .ptr 0 0), (9, .ptr 1 0), (11, .v (.int .u16 x5343)), (12, .sl false 2 0 n5394 2), (13, .v (.int .i64 x5395)), (14, .v (.int .i64 x5396)), (15, .v (.int .i64 (IntKind.i64.wrap (x5396 + 1)))), (30, .sl false 3 2 (Int.toNat (Int.tmod (IntKind.i64.wrap x5159) (IntKind.i64.wrap (x5145 + 1)))) 1), (31, .v (.int .i64 (((Int.toNat (Int.tmod (IntKind.i64.wrap x5159) (IntKind.i64.wrap (x5145 + 1)))) : Nat) : Int))), (32, .v (.int .i64 x5335)), (33, .dead), (37, .v (.int .i64 (IntKind.i64.wrap (1 + (Int.tmod (IntKind.i64.wrap x5156) x5144))))), (38, .v (.int .i64 x5396)), (39, .dead), (46, .dead), (59, .dead)], [(0, .p [(.int .i64 0), .nl]), (1, .r [.v (.int .i64 (IntKind.i64.wrap (1 + (Int.tmod (IntKind.i64.wrap x5156) x5144)))), .sl false 4 0 n5336 1]), (2, .p c5397), (3, .p [(.int .u8 x5156), (.int .u8 x5159), p5150, p5151, p5152, p5153, p5154]), (4, .p c5337)], 5, []⟩) (by kernel_rfl))) ⟨_, _, _, _, h5435, rfl⟩ ?_
                clear h5435
                rintro n _ ⟨n5407, x5408, x5409, c5410, h5435, rfl⟩
                cases n with
                | zero => cases h5435
                | succ n =>
                  rw [m40_L2] at h5435
                  have hh := brn_some h5435; clear h5435; rcases hh with ⟨h5411, h5435⟩ | ⟨h5411, h5435⟩
                  · have hh := grd_some h5435; clear h5435; obtain ⟨g5412, h5435⟩ := hh
                    have hh := brn_some h5435; clear h5435; rcases hh with ⟨h5413, h5435⟩ | ⟨h5413, h5435⟩
                    · have hh := brn_some h5435; clear h5435; rcases hh with ⟨h5414, h5435⟩ | ⟨h5414, h5435⟩
                      · have hh := grd_some h5435; clear h5435; obtain ⟨g5415, h5435⟩ := hh
                        have hh := grd_some h5435; clear h5435; obtain ⟨g5416, h5435⟩ := hh
                        refine W_sound tab_ok mixed 48 _ _ _ ?_
                        simp -implicitDefEqProofs only [go_sem, qa, qb, qc, qd, qe, qf, qg, qh, qi, qj, qk, ↓reduceIte, h5147, h5155, g5157, h5158, g5160, g5161, g5162, h5338, g5339, g5340, g5341, h5342, h5398, h5411, g5412, h5413, h5414, g5415, g5416]
                        repeat with_reducible refine ⟨by first | kernel_rfl | decide, ?_⟩
                        exact cutQ _ ((Wk_le (.r (.r (.r (.r (.r (.r (.r (.r (.r (.r (.r (.r (.r (.r (.r (.r (.r (.r (.r (.k (.k .nil))))))))))))))))))))) (OLe.refl _)).trans (cmpS_ok (st' := ⟨[], [(0, .dead), (1, .dead), (2, .dead), (3, .v (.int .i64 x5146)), (4, .dead), (8, .ptr 0 0), (9, .ptr 1 0), (11, .v (.int .u16 x5343)), (12, .sl false 2 0 (n5407 + 1) 2), (13, .v (.int .i64 (IntKind.i64.wrap (x5408 + 1)))), (14, .v (.int .i64 x5396)), (15, .v (.int .i64 (IntKind.i64.wrap (x5409 + 1)))), (30, .sl false 3 2 (Int.toNat (Int.tmod (IntKind.i64.wrap x5159) (IntKind.i64.wrap (x5145 + 1)))) 1), (31, .v (.int .i64 (((Int.toNat (Int.tmod (IntKind.i64.wrap x5159) (IntKind.i64.wrap (x5145 + 1)))) : Nat) : Int))), (32, .v (.int .i64 x5335)), (33, .dead), (37, .v (.int .i64 (IntKind.i64.wrap (1 + (Int.tmod (IntKind.i64.wrap x5156) x5144))))), (38, .v (.int .i64 x5396)), (39, .dead), (46, .dead), (59, .dead)], [(0, .p [(.int .i64 0), .nl]), (1, .r [.v (.int .i64 (IntKind.i64.wrap (1 + (Int.tmod (IntKind.i64.wrap x5156) x5144)))), .sl false 4 0 n5336 1]), (2, .p (c5410 ++ [(.int .i64 x5396), (.int .i64 x5409)])), (3, .p [(.int .u8 x5156), (.int .u8 x5159), p5150, p5151, p5152, p5153, p5154]), (4, .p c5337)], 5, []⟩) (by kernel_rfl))) ⟨n, Nat.lt_succ_self n, _, _, _, _, h5435, rfl⟩
                      · refine W_sound tab_ok mixed 40 _ _ _ ?_
                        simp -implicitDefEqProofs only [go_sem, qa, qb, qc, qd, qe, qf, qg, qh, qi, qj, qk, ↓reduceIte, h5147, h5155, g5157, h5158, g5160, g5161, g5162, h5338, g5339, g5340, g5341, h5342, h5398, h5411, g5412, h5413, h5414]
                        repeat with_reducible refine ⟨by first | kernel_rfl | decide, ?_⟩
                        exact cutQ _ ((Wk_le (.r (.r (.r (.r (.r (.r (.r (.r (.r (.r (.r (.r (.r (.r (.r (.r (.r (.r (.r (.k (.k .nil))))))))))))))))))))) (OLe.refl _)).trans (cmpS_ok (st' := ⟨[], [(0, .dead), (1, .dead), (2, .dead), (3, .v (.int .i64 x5146)), (4, .dead), (8, .ptr 0 0), (9, .ptr 1 0), (11, .v (.int .u16 x5343)), (12, .sl false 2 0 n5407 2), (13, .v (.int .i64 (IntKind.i64.wrap (x5408 + 1)))), (14, .v (.int .i64 x5396)), (15, .v (.int .i64 (IntKind.i64.wrap (x5409 + 1)))), (30, .sl false 3 2 (Int.toNat (Int.tmod (IntKind.i64.wrap x5159) (IntKind.i64.wrap (x5145 + 1)))) 1), (31, .v (.int .i64 (((Int.toNat (Int.tmod (IntKind.i64.wrap x5159) (IntKind.i64.wrap (x5145 + 1)))) : Nat) : Int))), (32, .v (.int .i64 x5335)), (33, .dead), (37, .v (.int .i64 (IntKind.i64.wrap (1 + (Int.tmod (IntKind.i64.wrap x5156) x5144))))), (38, .v (.int .i64 x5396)), (39, .dead), (46, .dead), (59, .dead)], [(0, .p [(.int .i64 0), .nl]), (1, .r [.v (.int .i64 (IntKind.i64.wrap (1 + (Int.tmod (IntKind.i64.wrap x5156) x5144)))), .sl false 4 0 n5336 1]), (2, .p c5410), (3, .p [(.int .u8 x5156), (.int .u8 x5159), p5150, p5151, p5152, p5153, p5154]), (4, .p c5337)], 5, []⟩) (by kernel_rfl))) ⟨n, Nat.lt_succ_self n, _, _, _, _, h5435, rfl⟩
                    · refine W_sound tab_ok mixed 40 _ _ _ ?_
                      simp -implicitDefEqProofs only [go_sem, qa, qb, qc, qd, qe, qf, qg, qh, qi, qj, qk, ↓reduceIte, h5147, h5155, g5157, h5158, g5160, g5161, g5162, h5338, g5339, g5340, g5341, h5342, h5398, h5411, g5412, h5413]
                      repeat with_reducible refine ⟨by first | kernel_rfl | decide, ?_⟩
                      exact cutQ _ ((Wk_le (.r (.r (.r (.r (.r (.r (.r (.r (.r (.r (.r (.r (.r (.r (.r (.r (.r (.r (.r (.k (.k .nil))))))))))))))))))))) (OLe.refl _)).trans (cmpS_ok (st' := ⟨[], [(0, .dead), (1, .dead), (2, .dead), (3, .v (.int .i64 x5146)), (4, .dead), (8, .ptr 0 0), (9, .ptr 1 0), (11, .v (.int .u16 x5343)), (12, .sl false 2 0 n5407 2), (13, .v (.int .i64 (IntKind.i64.wrap (x5408 + 1)))), (14, .v (.int .i64 x5396)), (15, .v (.int .i64 (IntKind.i64.wrap (x5409 + 1)))), (30, .sl false 3 2 (Int.toNat (Int.tmod (IntKind.i64.wrap x5159) (IntKind.i64.wrap (x5145 + 1)))) 1), (31, .v (.int .i64 (((Int.toNat (Int.tmod (IntKind.i64.wrap x5159) (IntKind.i64.wrap (x5145 + 1)))) : Nat) : Int))), (32, .v (.int .i64 x5335)), (33, .dead), (37, .v (.int .i64 (IntKind.i64.wrap (1 + (Int.tmod (IntKind.i64.wrap x5156) x5144))))), (38, .v (.int .i64 x5396)), (39, .dead), (46, .dead), (59, .dead)], [(0, .p [(.int .i64 0), .nl]), (1, .r [.v (.int .i64 (IntKind.i64.wrap (1 + (Int.tmod (IntKind.i64.wrap x5156) x5144)))), .sl false 4 0 n5336 1]), (2, .p c5410), (3, .p [(.int .u8 x5156), (.int .u8 x5159), p5150, p5151, p5152, p5153, p5154]), (4, .p c5337)], 5, []⟩) (by kernel_rfl))) ⟨n, Nat.lt_succ_self n, _, _, _, _, h5435, rfl⟩
                  · refine W_sound tab_ok mixed 10 _ _ _ ?_
                    simp -implicitDefEqProofs only [go_sem, qa, qb, qc, qd, qe, qf, qg, qh, qi, qj, qk, ↓reduceIte, h5147, h5155, g5157, h5158, g5160, g5161, g5162, h5338, g5339, g5340, g5341, h5342, h5398, h5411]
                    repeat with_reducible refine ⟨by first | kernel_rfl | decide, ?_⟩
                    obtain rfl := Option.some.inj h5435
                    exact cutQ _ ((Wk_le (.r (.r (.r (.r (.r (.r (.r (.r (.r (.r (.k (.k (.r (.r (.r (.r (.r (.r (.r (.k (.r .nil))))))))))))))))))))) (OLe.refl _)).trans (cmpS_ok (st' := ⟨[], [(0, .dead), (1, .dead), (2, .dead), (3, .v (.int .i64 x5146)), (4, .dead), (8, .ptr 0 0), (9, .ptr 1 0), (11, .v (.int .u16 x5343)), (12, .sl false 2 0 n5407 2), (13, .v (.int .i64 x5408)), (14, .dead), (15, .dead), (30, .sl false 3 2 (Int.toNat (Int.tmod (IntKind.i64.wrap x5159) (IntKind.i64.wrap (x5145 + 1)))) 1), (31, .v (.int .i64 (((Int.toNat (Int.tmod (IntKind.i64.wrap x5159) (IntKind.i64.wrap (x5145 + 1)))) : Nat) : Int))), (32, .v (.int .i64 x5335)), (33, .dead), (37, .v (.int .i64 (IntKind.i64.wrap (1 + (Int.tmod (IntKind.i64.wrap x5156) x5144))))), (38, .v (.int .i64 x5396)), (39, .dead), (46, .dead), (59, .dead)], [(0, .p [(.int .i64 0), .nl]), (1, .r [.v (.int .i64 (IntKind.i64.wrap (1 + (Int.tmod (IntKind.i64.wrap x5156) x5144)))), .sl false 4 0 n5336 1]), (2, .p c5410), (3, .p [(.int .u8 x5156), (.int .u8 x5159), p5150, p5151, p5152, p5153, p5154]), (4, .p c5337)], 5, []⟩) (by kernel_rfl))) ⟨_, _, _, rfl, rfl⟩
              · rintro _ ⟨n5417, x5418, c5419, rfl, rfl⟩
                (try dsimp only at h5436)
                refine W_sound tab_ok mixed 5 _ _ _ ?_
                simp -implicitDefEqProofs only [go_sem, qa, qb, qc, qd, qe, qf, qg, qh, qi, qj, qk, ↓reduceIte, h5147, h5155, g5157, h5158, g5160, g5161, g5162, h5338, g5339, g5340, g5341, h5342, h5398]
                repeat with_reducible refine ⟨by first | kernel_rfl | decide, ?_⟩
                exact cutQ _ ((Wk_le (.r (.r (.r (.r (.r (.r (.r (.r (.r (.r (.r (.r (.r (.r (.r (.r (.r (.r (.r (.r (.r .nil))))))))))))))))))))) (OLe.refl _)).trans (cmpS_ok (st' := ⟨[], [(0, .dead), (1, .dead), (2, .dead), (3, .v (.int .i64 x5146)), (4, .dead), (8, .ptr 0 0), (9, .ptr 1 0), (11, .v (.int .u16 x5343)), (12, .sl false 2 0 n5417 2), (13, .v (.int .i64 x5418)), (14, .dead), (15, .dead), (30, .sl false 3 2 (Int.toNat (Int.tmod (IntKind.i64.wrap x5159) (IntKind.i64.wrap (x5145 + 1)))) 1), (31, .v (.int .i64 (((Int.toNat (Int.tmod (IntKind.i64.wrap x5159) (IntKind.i64.wrap (x5145 + 1)))) : Nat) : Int))), (32, .v (.int .i64 x5335)), (33, .dead), (37, .v (.int .i64 (IntKind.i64.wrap (1 + (Int.tmod (IntKind.i64.wrap x5156) x5144))))), (38, .v (.int .i64 (IntKind.i64.wrap (x5396 + 1)))), (39, .dead), (46, .dead), (59, .dead)], [(0, .p [(.int .i64 0), .nl]), (1, .r [.v (.int .i64 (IntKind.i64.wrap (1 + (Int.tmod (IntKind.i64.wrap x5156) x5144)))), .sl false 4 0 n5336 1]), (2, .p c5419), (3, .p [(.int .u8 x5156), (.int .u8 x5159), p5150, p5151, p5152, p5153, p5154]), (4, .p c5337)], 5, []⟩) (by kernel_rfl))) ⟨n, Nat.lt_succ_self n, _, _, _, _, h5436, rfl⟩
            · refine W_sound tab_ok mixed 7 _ _ _ ?_
              simp -implicitDefEqProofs only [go_sem, qa, qb, qc, qd, qe, qf, qg, qh, qi, qj, qk, ↓reduceIte, h5147, h5155, g5157, h5158, g5160, g5161, g5162, h5338, g5339, g5340, g5341, h5342, h5398]
              repeat with_reducible refine ⟨by first | kernel_rfl | decide, ?_⟩
              obtain rfl := Option.some.inj h5432
              exact cutQ _ ((Wk_le (.r (.r (.r (.r (.r (.r (.r (.k (.r (.k (.r (.r (.r (.r (.r (.r (.k (.k (.k (.r (.r .nil))))))))))))))))))))) (OLe.refl _)).trans (cmpS_ok (st' := ⟨[], [(0, .dead), (1, .dead), (2, .dead), (3, .v (.int .i64 x5146)), (4, .dead), (8, .ptr 0 0), (9, .ptr 1 0), (11, .dead), (12, .sl false 2 0 n5394 2), (13, .dead), (14, .dead), (15, .dead), (30, .sl false 3 2 (Int.toNat (Int.tmod (IntKind.i64.wrap x5159) (IntKind.i64.wrap (x5145 + 1)))) 1), (31, .v (.int .i64 (((Int.toNat (Int.tmod (IntKind.i64.wrap x5159) (IntKind.i64.wrap (x5145 + 1)))) : Nat) : Int))), (32, .v (.int .i64 x5335)), (33, .dead), (37, .dead), (38, .dead), (39, .dead), (46, .dead), (59, .dead)], [(0, .p [(.int .i64 0), .nl]), (1, .r [.v (.int .i64 (IntKind.i64.wrap (1 + (Int.tmod (IntKind.i64.wrap x5156) x5144)))), .sl false 4 0 n5336 1]), (2, .p c5397), (3, .p [(.int .u8 x5156), (.int .u8 x5159), p5150, p5151, p5152, p5153, p5154]), (4, .p c5337)], 5, []⟩) (by kernel_rfl))) ⟨_, _, rfl, rfl⟩
        · rintro _ ⟨n5420, c5421, rfl, rfl⟩
          (try dsimp only at h5433)
          have hh := grd_some h5433; clear h5433; obtain ⟨g5422, h5433⟩ := hh
          have hh := grd_some h5433; clear h5433; obtain ⟨g5423, h5433⟩ := hh
          refine W_sound tab_ok mixed 9 _ _ _ ?_
          simp -implicitDefEqProofs only [go_sem, qa, qb, qc, qd, qe, qf, qg, qh, qi, qj, qk, ↓reduceIte, h5147, h5155, g5157, h5158, g5160, g5161, g5162, h5338, g5339, g5340, g5341, h5342, g5422, g5423]
          repeat with_reducible refine ⟨by first | kernel_rfl | decide, ?_⟩
          have hh := grd_some h5433; clear h5433; obtain ⟨g5424, h5433⟩ := hh
          refine Wp_wkK (Wk_freeze 2 c5421 (by rfl) (by decide) (by decide)) rfl ?_
          simp -implicitDefEqProofs only [go_sem, qa, qb, qc, qd, qe, qf, qg, qh, qi, qj, qk, ↓reduceIte, h5147, h5155, g5157, h5158, g5160, g5161, g5162, h5338, g5339, g5340, g5341, h5342, g5422, g5423, g5424]
          refine W_sound tab_ok mixed 5 _ _ _ ?_
          simp -implicitDefEqProofs only [go_sem, qa, qb, qc, qd, qe, qf, qg, qh, qi, qj, qk, ↓reduceIte, h5147, h5155, g5157, h5158, g5160, g5161, g5162, h5338, g5339, g5340, g5341, h5342, g5422, g5423, g5424]
          repeat with_reducible refine ⟨by first | kernel_rfl | decide, ?_⟩
          exact cutQ _ ((Wk_le (.r (.r (.r (.r (.r (.r (.r (.r (.k (.r (.r (.r (.r (.r (.r (.r (.r (.r (.r (.r (.r .nil))))))))))))))))))))) (OLe.refl _)).trans (cmpS_ok (st' := ⟨[], [(0, .dead), (1, .dead), (2, .dead), (3, .v (.int .i64 x5146)), (4, .dead), (8, .ptr 0 0), (9, .ptr 1 0), (11, .dead), (12, .dead), (13, .dead), (14, .dead), (15, .dead), (30, .sl false 2 2 (Int.toNat (Int.tmod (IntKind.i64.wrap x5159) (IntKind.i64.wrap (x5145 + 1)))) 1), (31, .v (.int .i64 (((Int.toNat (Int.tmod (IntKind.i64.wrap x5159) (IntKind.i64.wrap (x5145 + 1)))) : Nat) : Int))), (32, .v (.int .i64 (IntKind.i64.wrap (x5335 + 1)))), (33, .dead), (37, .dead), (38, .dead), (39, .dead), (46, .dead), (59, .dead)], [(0, .p [(.int .i64 0), .nl]), (1, .r [.v (.int .i64 (IntKind.i64.wrap (1 + (Int.tmod (IntKind.i64.wrap x5156) x5144)))), .sl false 3 0 (n5336 + 1) 1]), (2, .p [(.int .u8 x5156), (.int .u8 x5159), p5150, p5151, p5152, p5153, p5154]), (3, .p (c5337 ++ [(.lst false n5420 c5421)]))], 4, []⟩) (by kernel_rfl))) ⟨n, Nat.lt_succ_self n, _, _, _, h5433, rfl⟩
      · refine W_sound tab_ok mixed 7 _ _ _ ?_
        simp -implicitDefEqProofs only [go_sem, qa, qb, qc, qd, qe, qf, qg, qh, qi, qj, qk, ↓reduceIte, h5147, h5155, g5157, h5158, g5160, g5161, g5162, h5338]
        repeat with_reducible refine ⟨by first | kernel_rfl | decide, ?_⟩
        obtain rfl := Option.some.inj h5429
        exact cutQ _ ((Wk_le (.r (.r (.r (.k (.r (.r (.r (.r (.r (.r (.r (.r (.k (.k (.k (.k (.r (.r (.r (.r (.r .nil))))))))))))))))))))) (OLe.refl _)).trans (cmpS_ok (st' := ⟨[], [(0, .dead), (1, .dead), (2, .dead), (3, .dead), (4, .dead), (8, .ptr 0 0), (9, .ptr 1 0), (11, .dead), (12, .dead), (13, .dead), (14, .dead), (15, .dead), (30, .dead), (31, .dead), (32, .dead), (33, .dead), (37, .dead), (38, .dead), (39, .dead), (46, .dead), (59, .dead)], [(0, .p [(.int .i64 0), .nl]), (1, .r [.v (.int .i64 (IntKind.i64.wrap (1 + (Int.tmod (IntKind.i64.wrap x5156) x5144)))), .sl false 2 0 n5336 1]), (2, .p c5337)], 3, []⟩) (by kernel_rfl))) ⟨_, _, rfl, rfl⟩
  · rintro _ ⟨n5425, c5426, rfl, rfl⟩
    (try dsimp only at h5430)
    refine W_sound tab_ok mixed 7 _ _ _ ?_
    simp -implicitDefEqProofs only [go_sem, qa, qb, qc, qd, qe, qf, qg, qh, qi, qj, qk, ↓reduceIte, h5147, h5155, g5157, h5158, g5160, g5161, g5162]
    repeat with_reducible refine ⟨by first | kernel_rfl | decide, ?_⟩
    have hh := grd_some h5430; clear h5430; obtain ⟨g5427, h5430⟩ := hh
    refine FinQ_wk (Wk_freeze 2 c5426 (by rfl) (by decide) (by decide)) ?_
    simp -implicitDefEqProofs only [go_sem, qa, qb, qc, qd, qe, qf, qg, qh, qi, qj, qk, ↓reduceIte, h5147, h5155, g5157, h5158, g5160, g5161, g5162, g5427]
    refine FinQ_wk (Wk_freeze 0 [(.int .i64 (IntKind.i64.wrap (1 + (Int.tmod (IntKind.i64.wrap x5156) x5144)))), (.lst false n5425 c5426)] (by rfl) (by decide) (by decide)) ?_
    simp -implicitDefEqProofs only [go_sem, qa, qb, qc, qd, qe, qf, qg, qh, qi, qj, qk, ↓reduceIte, h5147, h5155, g5157, h5158, g5160, g5161, g5162, g5427]
    obtain rfl := Option.some.inj h5430
    exact finC [(8, .v (.ipt [(.int .i64 (IntKind.i64.wrap (1 + (Int.tmod (IntKind.i64.wrap x5156) x5144)))), (.lst false n5425 c5426)]))] [(8, .v (.ipt [(.int .i64 (IntKind.i64.wrap (1 + (Int.tmod (IntKind.i64.wrap x5156) x5144)))), (.lst false n5425 c5426)]))] (by simp [leE, lk_cons]) (.cons _ _ _ _ _ (.v _ _ (.refl _)) .nil) (by rfl) (by simp [leE, lk_cons]) (by decide) (by decide) rfl (by simp only [go_sem, qa, qb, qc, qd, qe, qf, qg, qh, qi, qj, qk, ↓reduceIte, resQ_tmp, resQ_cell, resQ_nil, retD_one, retD_two, retD_three, retD_none]; try simp [R.val, retD_one, retD_two, retD_three, retD_none])
def m42 (N : Nat) (p5437 : PV) : Option (PV) :=
  getA2 p5437 fun p5439 p5440 =>
  getL p5440 fun n5442 c5443 =>
  grd (0 ≤ ((n5442 : Nat) : Int)) <|
  some (.int .u64 (IntKind.u64.wrap ((IntKind.u64.wrap (1 * 2 ^ (min n5442 64))) - 1)))
theorem c42 (N : Nat) (p5437 : PV) (r : PV)  (h : m42 N p5437 = some r) : FnP Tryd.prog 42 [p5437] r := by
  unfold m42 at h
  refine Fn_of (sz := 8) tab_ok [0, 1, 2] [.tmp 2] Tryd.func42 rfl rfl rfl (by simp) ?_
  simp only [initSt, initEnv, List.map_cons, List.map_nil, List.getD_cons_zero, List.getD_cons_succ, List.getD_nil]
  have hh := getA2_some h; clear h; obtain ⟨p5439, p5440, h5438, h⟩ := hh
  have hh := getL_some h; clear h; obtain ⟨n5442, c5443, h5441, h⟩ := hh
  have hh := grd_some h; clear h; obtain ⟨g5444, h⟩ := hh
  refine W_sound tab_ok mixed 16 _ _ _ ?_
  simp -implicitDefEqProofs only [go_sem, qa, qb, qc, qd, qe, qf, qg, qh, qi, qj, qk, ↓reduceIte, h5438, h5441, g5444]
  repeat with_reducible refine ⟨by first | kernel_rfl | decide, ?_⟩
  obtain rfl := Option.some.inj h
  exact finC [(2, .v (.int .u64 (IntKind.u64.wrap ((IntKind.u64.wrap (1 * 2 ^ (min n5442 64))) - 1))))] [(2, .v (.int .u64 (IntKind.u64.wrap ((IntKind.u64.wrap (1 * 2 ^ (min n5442 64))) - 1))))] (by simp [leE, lk_cons]) (.cons _ _ _ _ _ (.v _ _ (.refl _)) .nil) (by rfl) (by simp [leE, lk_cons]) (by decide) (by decide) rfl (by simp only [go_sem, qa, qb, qc, qd, qe, qf, qg, qh, qi, qj, qk, ↓reduceIte, resQ_tmp, resQ_cell, resQ_nil, retD_one, retD_two, retD_three, retD_none]; try simp [R.val, retD_one, retD_two, retD_three, retD_none])
def m45_L0 (N : Nat)  : Nat → Int → Nat → List PV → Option ((Nat × List PV))
  | 0, _, _, _ => none
  | n + 1, x5458, n5459, c5460 =>
    brn (x5458 != 0) (
      bnd' (m90 N x5458) fun p5462 =>
      getI .i64 p5462 fun x5465 =>
      grd ((n5459 + 1) ≤ 1099511627776) <|
      grd (List.length c5460 = n5459) <|
      m45_L0 N  n (bitsI .and .u64 x5458 (IntKind.u64.wrap (x5458 - 1))) (n5459 + 1) (c5460 ++ [(.int .i64 x5465)])) (
      some (n5459, c5460))
def m45 (N : Nat) (x5445 : Int) : Option (PV) :=
  bnd' (m45_L0 N  N x5445 0 []) fun o =>
  match o with
  | (n5468, c5469) =>
    grd (List.length c5469 = n5468) <|
    some (.lst false n5468 c5469)
theorem c45 (N : Nat) (x5445 : Int) (r : PV)  (h : m45 N x5445 = some r) : FnP Tryd.prog 45 [(.int .u64 x5445)] r := by
  unfold m45 at h
  refine Fn_of (sz := 16) tab_ok [0, 2, 3, 5] [.tmp 2] Tryd.func45 rfl rfl rfl (by simp) ?_
  simp only [initSt, initEnv, List.map_cons, List.map_nil, List.getD_cons_zero, List.getD_cons_succ, List.getD_nil]
  refine W_sound tab_ok mixed 9 _ _ _ ?_
  simp -implicitDefEqProofs only [go_sem, qa, qb, qc, qd, qe, qf, qg, qh, qi, qj, qk, ↓reduceIte]
  repeat with_reducible refine ⟨by first | kernel_rfl | decide, ?_⟩
  refine Wp_weaken (Wk_ownS 3 1 rfl (by decide) (by decide)) ?_
  simp -implicitDefEqProofs only [go_sem, qa, qb, qc, qd, qe, qf, qg, qh, qi, qj, qk, ↓reduceIte]
  have hh := bnd'_some h; clear h; obtain ⟨o5471, h5472, h5473⟩ := hh
  refine Wp_cut (fun s => ∃ n5468, ∃ c5469, (n5468, c5469) = o5471 ∧ s = ⟨[], [(0, .dead), (2, .dead), (3, .sl false 0 0 n5468 1), (5, .dead)], [(0, .p c5469)], 1, []⟩) ?_ ?_
  · refine Wp_block ?_
    refine Wp_loopG (fun n s => ∃ x5458, ∃ n5459, ∃ c5460, m45_L0 N  n x5458 n5459 c5460 = some o5471 ∧ s = ⟨[], [(0, .v (.int .u64 x5458)), (2, .dead), (3, .sl false 0 0 n5459 1), (5, .dead)], [(0, .p c5460)], 1, []⟩) N _ ((Wk_le (.r (.k (.r (.r .nil)))) (OLe.refl _)).trans (cmpS_ok rfl)) ⟨_, _, _, h5472, rfl⟩ ?_
    clear h5472
    rintro n _ ⟨x5458, n5459, c5460, h5472, rfl⟩
    cases n with
    | zero => cases h5472
    | succ n =>
      rw [m45_L0] at h5472
      have hh := brn_some h5472; clear h5472; rcases hh with ⟨h5461, h5472⟩ | ⟨h5461, h5472⟩
      · have hh := bnd'_some h5472; clear h5472; obtain ⟨p5462, h5463, h5472⟩ := hh
        refine W_sound tab_ok mixed 13 _ _ _ ?_
        simp -implicitDefEqProofs only [go_sem, qa, qb, qc, qd, qe, qf, qg, qh, qi, qj, qk, ↓reduceIte, h5461]
        repeat with_reducible refine ⟨by first | kernel_rfl | decide, ?_⟩
        refine Wp_callP (c90 N _ _ h5463) (by kernel_rfl) rfl rfl rfl rfl (by decide) ?_
        have hh := getI_some h5472; clear h5472; obtain ⟨x5465, h5464, h5472⟩ := hh
        have hh := grd_some h5472; clear h5472; obtain ⟨g5466, h5472⟩ := hh
        have hh := grd_some h5472; clear h5472; obtain ⟨g5467, h5472⟩ := hh
        refine W_sound tab_ok mixed 12 _ _ _ ?_
        simp -implicitDefEqProofs only [go_sem, qa, qb, qc, qd, qe, qf, qg, qh, qi, qj, qk, ↓reduceIte, h5461, h5464, g5466, g5467]
        repeat with_reducible refine ⟨by first | kernel_rfl | decide, ?_⟩
        exact cutQ _ ((Wk_le (.r (.r (.r (.k .nil)))) (OLe.refl _)).trans (cmpS_ok rfl)) ⟨n, Nat.lt_succ_self n, _, _, _, h5472, rfl⟩
      · refine W_sound tab_ok mixed 8 _ _ _ ?_
        simp -implicitDefEqProofs only [go_sem, qa, qb, qc, qd, qe, qf, qg, qh, qi, qj, qk, ↓reduceIte, h5461]
        repeat with_reducible refine ⟨by first | kernel_rfl | decide, ?_⟩
        obtain rfl := Option.some.inj h5472
        exact cutQ _ ((Wk_le (.k (.r (.r (.k .nil)))) (OLe.refl _)).trans (cmpS_ok rfl)) ⟨_, _, rfl, rfl⟩
  · rintro _ ⟨n5468, c5469, rfl, rfl⟩
    (try dsimp only at h5473)
    refine W_sound tab_ok mixed 7 _ _ _ ?_
    simp -implicitDefEqProofs only [go_sem, qa, qb, qc, qd, qe, qf, qg, qh, qi, qj, qk, ↓reduceIte]
    repeat with_reducible refine ⟨by first | kernel_rfl | decide, ?_⟩
    have hh := grd_some h5473; clear h5473; obtain ⟨g5470, h5473⟩ := hh
    refine FinQ_wk (Wk_freeze 0 c5469 (by rfl) (by decide) (by decide)) ?_
    simp -implicitDefEqProofs only [go_sem, qa, qb, qc, qd, qe, qf, qg, qh, qi, qj, qk, ↓reduceIte, g5470]
    obtain rfl := Option.some.inj h5473
    exact finC [(2, .v (.lst false n5468 c5469))] [(2, .v (.lst false n5468 c5469))] (by simp [leE, lk_cons]) (.cons _ _ _ _ _ (.v _ _ (.refl _)) .nil) (by rfl) (by simp [leE, lk_cons]) (by decide) (by decide) rfl (by simp only [go_sem, qa, qb, qc, qd, qe, qf, qg, qh, qi, qj, qk, ↓reduceIte, resQ_tmp, resQ_cell, resQ_nil, retD_one, retD_two, retD_three, retD_none]; try simp [R.val, retD_one, retD_two, retD_three, retD_none])
def m49_L1 (N : Nat) (n5476 : Nat) (c5477 : List PV) (x5521 : Int) (x5536 : Int) (x5543 : Int) : Nat → Int → List PV → Option (List PV)
  | 0, _, _ => none
  | n + 1, x5554, c5555 =>
    brn (decide (x5554 < 5)) (
      grd (0 ≤ x5554 ∧ x5554 < 5) <|
      grd ((Int.toNat x5554) < List.length c5555) <|
      getI .i64 (gp c5555 (Int.toNat x5554)) fun x5561 =>
      brn (x5561 == x5536) (
        grd (((Int.toNat x5554) + 1) ≤ List.length c5555) <|
        m49_L1 N n5476 c5477 x5521 x5536 x5543 n (IntKind.i64.wrap (x5554 + 1)) (List.set c5555 (Int.toNat x5554) (.int .i64 x5543))) (
        m49_L1 N n5476 c5477 x5521 x5536 x5543 n (IntKind.i64.wrap (x5554 + 1)) c5555)) (
      some c5555)
def m49_L0 (N : Nat) (n5476 : Nat) (c5477 : List PV) : Nat → Int → List PV → Option ((PV ⊕ Unit))
  | 0, _, _ => none
  | n + 1, x5521, c5522 =>
    brn (decide (x5521 < ((n5476 : Nat) : Int))) (
      grd (0 ≤ x5521 ∧ x5521 < ((n5476 : Nat) : Int)) <|
      grd (2 ≤ List.length (List.drop ((Int.toNat x5521) * 2) c5477)) <|
      getA2 (.agg (List.take 2 (List.drop ((Int.toNat x5521) * 2) c5477))) fun p5528 p5529 =>
      getI .i64 p5528 fun x5531 =>
      grd (0 ≤ x5531 ∧ x5531 < 5) <|
      grd ((Int.toNat x5531) < List.length c5522) <|
      getI .i64 (gp c5522 (Int.toNat x5531)) fun x5536 =>
      getI .i64 p5529 fun x5538 =>
      grd (0 ≤ x5538 ∧ x5538 < 5) <|
      grd ((Int.toNat x5538) < List.length c5522) <|
      getI .i64 (gp c5522 (Int.toNat x5538)) fun x5543 =>
      brn (x5536 == x5543) (
        some (.inl (.bool false))) (
        bnd' (m49_L1 N n5476 c5477 x5521 x5536 x5543 N 0 c5522) fun c5564 =>
        m49_L0 N n5476 c5477 n (IntKind.i64.wrap (x5521 + 1)) c5564)) (
      some (.inr ()))
def m49 (N : Nat) (p5474 : PV) : Option (PV) :=
  getL p5474 fun n5476 c5477 =>
  bnd' (m49_L0 N n5476 c5477 N 0 [(.int .i64 0), (.int .i64 1), (.int .i64 2), (.int .i64 3), (.int .i64 4)]) fun o =>
  match o with
  | .inl p5565 =>
    some p5565
  | .inr () =>
    some (.bool true)
theorem c49 (N : Nat) (p5474 : PV) (r : PV)  (h : m49 N p5474 = some r) : FnP Tryd.prog 49 [p5474] r := by
  unfold m49 at h
  refine Fn_of (sz := 46) tab_ok [0, 2, 3, 5, 6, 7, 8, 9, 11, 12, 13, 14, 29, 30, 31, 32, 33, 39] [.tmp 2] Tryd.func49 rfl rfl rfl (by simp) ?_
  simp only [initSt, initEnv, List.map_cons, List.map_nil, List.getD_cons_zero, List.getD_cons_succ, List.getD_nil]
  have hh := getL_some h; clear h; obtain ⟨n5476, c5477, h5475, h⟩ := hh
  refine W_sound tab_ok mixed 16 _ _ _ ?_
  simp -implicitDefEqProofs only [go_sem, qa, qb, qc, qd, qe, qf, qg, qh, qi, qj, qk, ↓reduceIte, h5475]
  repeat with_reducible refine ⟨by first | kernel_rfl | decide, ?_⟩
  have hh := bnd'_some h; clear h; obtain ⟨o5566, h5567, h5568⟩ := hh
  refine Wp_cut (fun s => (.inr ()) = o5566 ∧ s = ⟨[], [(0, .dead), (2, .dead), (3, .dead), (5, .dead), (6, .dead), (7, .dead), (8, .dead), (9, .dead), (11, .dead), (12, .dead), (13, .dead), (14, .dead), (29, .dead), (30, .dead), (31, .dead), (32, .dead), (33, .dead), (39, .dead)], [], 0, []⟩) ?_ ?_
  · refine Wp_block ?_
    refine Wp_loopG (fun n s => ∃ x5521, ∃ c5522, m49_L0 N n5476 c5477 n x5521 c5522 = some o5566 ∧ s = ⟨[], [(0, .dead), (2, .dead), (3, .sl true 0 0 5 1), (5, .dead), (6, .dead), (7, .dead), (8, .dead), (9, .dead), (11, .v (.lst false n5476 c5477)), (12, .v (.int .i64 ((n5476 : Nat) : Int))), (13, .v (.int .i64 x5521)), (14, .dead), (29, .dead), (30, .dead), (31, .dead), (32, .dead), (33, .dead), (39, .dead)], [(0, .p c5522)], 1, []⟩) N _ ((Wk_le (.k (.k (.r (.r (.r (.r (.r (.r (.r (.r (.r (.r (.r (.r (.r (.r (.r (.r .nil)))))))))))))))))) (OLe.refl _)).trans (cmpS_ok (st' := ⟨[], [(0, .dead), (2, .dead), (3, .sl true 0 0 5 1), (5, .dead), (6, .dead), (7, .dead), (8, .dead), (9, .dead), (11, .v (.lst false n5476 c5477)), (12, .v (.int .i64 ((n5476 : Nat) : Int))), (13, .v (.int .i64 0)), (14, .dead), (29, .dead), (30, .dead), (31, .dead), (32, .dead), (33, .dead), (39, .dead)], [(0, .p [(.int .i64 0), (.int .i64 1), (.int .i64 2), (.int .i64 3), (.int .i64 4)])], 1, []⟩) (by kernel_rfl))) ⟨_, _, h5567, rfl⟩ ?_
    clear h5567
    rintro n _ ⟨x5521, c5522, h5567, rfl⟩
    cases n with
    | zero => cases h5567
    | succ n =>
      rw [m49_L0] at h5567
      have hh := brn_some h5567; clear h5567; rcases hh with ⟨h5523, h5567⟩ | ⟨h5523, h5567⟩
      · have hh := grd_some h5567; clear h5567; obtain ⟨⟨g5524, g5525⟩, h5567⟩ := hh
        have hh := grd_some h5567; clear h5567; obtain ⟨g5526, h5567⟩ := hh
        have hh := getA2_some h5567; clear h5567; obtain ⟨p5528, p5529, h5527, h5567⟩ := hh
        injection h5527 with h5527
        have hh := getI_some h5567; clear h5567; obtain ⟨x5531, h5530, h5567⟩ := hh
        have hh := grd_some h5567; clear h5567; obtain ⟨⟨g5532, g5533⟩, h5567⟩ := hh
        have hh := grd_some h5567; clear h5567; obtain ⟨g5534, h5567⟩ := hh
        have hh := getI_some h5567; clear h5567; obtain ⟨x5536, h5535, h5567⟩ := hh
        have hh := getI_some h5567; clear h5567; obtain ⟨x5538, h5537, h5567⟩ := hh
        have hh := grd_some h5567; clear h5567; obtain ⟨⟨g5539, g5540⟩, h5567⟩ := hh
        have hh := grd_some h5567; clear h5567; obtain ⟨g5541, h5567⟩ := hh
        have hh := getI_some h5567; clear h5567; obtain ⟨x5543, h5542, h5567⟩ := hh
        have hh := brn_some h5567; clear h5567; rcases hh with ⟨h5544, h5567⟩ | ⟨h5544, h5567⟩
        · refine W_sound tab_ok mixed 45 _ _ _ ?_
          simp -implicitDefEqProofs only [go_sem, qa, qb, qc, qd, qe, qf, qg, qh, qi, qj, qk, ↓reduceIte, h5475, h5523, g5524, g5525, g5526, h5527, h5530, g5532, g5533, g5534, h5535, h5537, g5539, g5540, g5541, h5542, h5544]
          repeat with_reducible refine ⟨by first | kernel_rfl | decide, ?_⟩
          obtain rfl := Option.some.inj h5567
          (try dsimp only at h5568)
          obtain rfl := Option.some.inj h5568
          exact finC [(2, .v (.bool false))] [(2, .v (.bool false))] (by simp [leE, lk_cons]) (.cons _ _ _ _ _ (.v _ _ (.refl _)) .nil) (by rfl) (by simp [leE, lk_cons]) (by decide) (by decide) rfl (by simp only [go_sem, qa, qb, qc, qd, qe, qf, qg, qh, qi, qj, qk, ↓reduceIte, resQ_tmp, resQ_cell, resQ_nil, retD_one, retD_two, retD_three, retD_none]; try simp [R.val, retD_one, retD_two, retD_three, retD_none])
        · refine W_sound tab_ok mixed 46 _ _ _ ?_
          simp -implicitDefEqProofs only [go_sem, qa, qb, qc, qd, qe, qf, qg, qh, qi, qj, qk, ↓reduceIte, h5475, h5523, g5524, g5525, g5526, h5527, h5530, g5532, g5533, g5534, h5535, h5537, g5539, g5540, g5541, h5542, h5544]
          repeat with_reducible refine ⟨by first | kernel_rfl | decide, ?_⟩
          have hh := bnd'_some h5567; clear h5567; obtain ⟨o5569, h5570, h5571⟩ := hh
          refine Wp_cut (fun s => ∃ c5564, c5564 = o5569 ∧ s = ⟨[], [(0, .dead), (2, .dead), (3, .sl true 0 0 5 1), (5, .dead), (6, .dead), (7, .dead), (8, .dead), (9, .dead), (11, .v (.lst false n5476 c5477)), (12, .v (.int .i64 ((n5476 : Nat) : Int))), (13, .v (.int .i64 x5521)), (14, .dead), (29, .dead), (30, .dead), (31, .dead), (32, .dead), (33, .dead), (39, .dead)], [(0, .p c5564)], 1, []⟩) ?_ ?_
          · refine Wp_block ?_
            refine Wp_loopG (fun n s => ∃ x5554, ∃ c5555, m49_L1 N n5476 c5477 x5521 x5536 x5543 n x5554 c5555 = some o5569 ∧ s = ⟨[], [(0, .dead), (2, .dead), (3, .sl true 0 0 5 1), (5, .dead), (6, .v (.int .i64 x5536)), (7, .v (.int .i64 x5543)), (8, .dead), (9, .dead), (11, .v (.lst false n5476 c5477)), (12, .v (.int .i64 ((n5476 : Nat) : Int))), (13, .v (.int .i64 x5521)), (14, .dead), (29, .dead), (30, .sl true 0 0 5 1), (31, .v (.int .i64 5)), (32, .v (.int .i64 x5554)), (33, .dead), (39, .dead)], [(0, .p c5555)], 1, []⟩) N _ ((Wk_le (.r (.r (.r (.k (.r (.r (.r (.r (.r (.r (.r (.k (.k (.r (.r (.r (.r (.r .nil)))))))))))))))))) (OLe.refl _)).trans (cmpS_ok (st' := ⟨[], [(0, .dead), (2, .dead), (3, .sl true 0 0 5 1), (5, .dead), (6, .v (.int .i64 x5536)), (7, .v (.int .i64 x5543)), (8, .dead), (9, .dead), (11, .v (.lst false n5476 c5477)), (12, .v (.int .i64 ((n5476 : Nat) : Int))), (13, .v (.int .i64 x5521)), (14, .dead), (29, .dead), (30, .sl true 0 0 5 1), (31, .v (.int .i64 5)), (32, .v (.int .i64 0)), (33, .dead), (39, .dead)], [(0, .p c5522)], 1, []⟩) (by kernel_rfl))) ⟨_, _, h5570, rfl⟩ ?_
            clear h5570
            rintro n _ ⟨x5554, c5555, h5570, rfl⟩
            cases n with
            | zero => cases h5570
            | succ n =>
              rw [m49_L1] at h5570
              have hh := brn_some h5570; clear h5570; rcases hh with ⟨h5556, h5570⟩ | ⟨h5556, h5570⟩
              · have hh := grd_some h5570; clear h5570; obtain ⟨⟨g5557, g5558⟩, h5570⟩ := hh
                have hh := grd_some h5570; clear h5570; obtain ⟨g5559, h5570⟩ := hh
                have hh := getI_some h5570; clear h5570; obtain ⟨x5561, h5560, h5570⟩ := hh
                have hh := brn_some h5570; clear h5570; rcases hh with ⟨h5562, h5570⟩ | ⟨h5562, h5570⟩
                · have hh := grd_some h5570; clear h5570; obtain ⟨g5563, h5570⟩ := hh
                  refine W_sound tab_ok mixed 36 _ _ _ ?_
                  simp -implicitDefEqProofs only [go_sem, qa, qb, qc, qd, qe, qf, qg, qh, qi, qj, qk, ↓reduceIte, h5475, h5523, g5524, g5525, g5526, h5527, h5530, g5532, g5533, g5534, h5535, h5537, g5539, g5540, g5541, h5542, h5544, h5556, g5557, g5558, g5559, h5560, h5562, g5563]
                  repeat with_reducible refine ⟨by first | kernel_rfl | decide, ?_⟩
                  exact cutQ _ ((Wk_le (.r (.r (.r (.r (.r (.r (.k (.k (.r (.r (.r (.r (.r (.r (.r (.r (.k (.k .nil)))))))))))))))))) (OLe.refl _)).trans (cmpS_ok (st' := ⟨[], [(0, .dead), (2, .dead), (3, .sl true 0 0 5 1), (5, .dead), (6, .v (.int .i64 x5536)), (7, .v (.int .i64 x5543)), (8, .dead), (9, .dead), (11, .v (.lst false n5476 c5477)), (12, .v (.int .i64 ((n5476 : Nat) : Int))), (13, .v (.int .i64 x5521)), (14, .dead), (29, .dead), (30, .sl true 0 0 5 1), (31, .v (.int .i64 5)), (32, .v (.int .i64 (IntKind.i64.wrap (x5554 + 1)))), (33, .dead), (39, .dead)], [(0, .p (List.set c5555 (Int.toNat x5554) (.int .i64 x5543)))], 1, []⟩) (by kernel_rfl))) ⟨n, Nat.lt_succ_self n, _, _, h5570, rfl⟩
                · refine W_sound tab_ok mixed 30 _ _ _ ?_
                  simp -implicitDefEqProofs only [go_sem, qa, qb, qc, qd, qe, qf, qg, qh, qi, qj, qk, ↓reduceIte, h5475, h5523, g5524, g5525, g5526, h5527, h5530, g5532, g5533, g5534, h5535, h5537, g5539, g5540, g5541, h5542, h5544, h5556, g5557, g5558, g5559, h5560, h5562]
                  repeat with_reducible refine ⟨by first | kernel_rfl | decide, ?_⟩
                  exact cutQ _ ((Wk_le (.r (.r (.r (.r (.r (.r (.k (.k (.r (.r (.r (.r (.r (.r (.r (.r (.k (.k .nil)))))))))))))))))) (OLe.refl _)).trans (cmpS_ok (st' := ⟨[], [(0, .dead), (2, .dead), (3, .sl true 0 0 5 1), (5, .dead), (6, .v (.int .i64 x5536)), (7, .v (.int .i64 x5543)), (8, .dead), (9, .dead), (11, .v (.lst false n5476 c5477)), (12, .v (.int .i64 ((n5476 : Nat) : Int))), (13, .v (.int .i64 x5521)), (14, .dead), (29, .dead), (30, .sl true 0 0 5 1), (31, .v (.int .i64 5)), (32, .v (.int .i64 (IntKind.i64.wrap (x5554 + 1)))), (33, .dead), (39, .dead)], [(0, .p c5555)], 1, []⟩) (by kernel_rfl))) ⟨n, Nat.lt_succ_self n, _, _, h5570, rfl⟩
              · refine W_sound tab_ok mixed 7 _ _ _ ?_
                simp -implicitDefEqProofs only [go_sem, qa, qb, qc, qd, qe, qf, qg, qh, qi, qj, qk, ↓reduceIte, h5475, h5523, g5524, g5525, g5526, h5527, h5530, g5532, g5533, g5534, h5535, h5537, g5539, g5540, g5541, h5542, h5544, h5556]
                repeat with_reducible refine ⟨by first | kernel_rfl | decide, ?_⟩
                obtain rfl := Option.some.inj h5570
                exact cutQ _ ((Wk_le (.r (.r (.r (.r (.k (.k (.r (.r (.r (.r (.r (.r (.r (.k (.k (.k (.k (.r .nil)))))))))))))))))) (OLe.refl _)).trans (cmpS_ok (st' := ⟨[], [(0, .dead), (2, .dead), (3, .sl true 0 0 5 1), (5, .dead), (6, .dead), (7, .dead), (8, .dead), (9, .dead), (11, .v (.lst false n5476 c5477)), (12, .v (.int .i64 ((n5476 : Nat) : Int))), (13, .v (.int .i64 x5521)), (14, .dead), (29, .dead), (30, .dead), (31, .dead), (32, .dead), (33, .dead), (39, .dead)], [(0, .p c5555)], 1, []⟩) (by kernel_rfl))) ⟨_, rfl, rfl⟩
          · rintro _ ⟨c5564, rfl, rfl⟩
            refine W_sound tab_ok mixed 5 _ _ _ ?_
            simp -implicitDefEqProofs only [go_sem, qa, qb, qc, qd, qe, qf, qg, qh, qi, qj, qk, ↓reduceIte, h5475, h5523, g5524, g5525, g5526, h5527, h5530, g5532, g5533, g5534, h5535, h5537, g5539, g5540, g5541, h5542, h5544]
            repeat with_reducible refine ⟨by first | kernel_rfl | decide, ?_⟩
            exact cutQ _ ((Wk_le (.r (.r (.r (.r (.r (.r (.r (.r (.r (.r (.r (.r (.r (.r (.r (.r (.r (.r .nil)))))))))))))))))) (OLe.refl _)).trans (cmpS_ok (st' := ⟨[], [(0, .dead), (2, .dead), (3, .sl true 0 0 5 1), (5, .dead), (6, .dead), (7, .dead), (8, .dead), (9, .dead), (11, .v (.lst false n5476 c5477)), (12, .v (.int .i64 ((n5476 : Nat) : Int))), (13, .v (.int .i64 (IntKind.i64.wrap (x5521 + 1)))), (14, .dead), (29, .dead), (30, .dead), (31, .dead), (32, .dead), (33, .dead), (39, .dead)], [(0, .p c5564)], 1, []⟩) (by kernel_rfl))) ⟨n, Nat.lt_succ_self n, _, _, h5571, rfl⟩
      · refine W_sound tab_ok mixed 7 _ _ _ ?_
        simp -implicitDefEqProofs only [go_sem, qa, qb, qc, qd, qe, qf, qg, qh, qi, qj, qk, ↓reduceIte, h5475, h5523]
        repeat with_reducible refine ⟨by first | kernel_rfl | decide, ?_⟩
        obtain rfl := Option.some.inj h5567
        exact cutQ _ ((Wk_le (.r (.r (.k (.r (.r (.r (.r (.r (.k (.k (.k (.k (.r (.r (.r (.r (.r (.r .nil)))))))))))))))))) (OLe.refl _)).trans (cmpS_ok (st' := ⟨[], [(0, .dead), (2, .dead), (3, .dead), (5, .dead), (6, .dead), (7, .dead), (8, .dead), (9, .dead), (11, .dead), (12, .dead), (13, .dead), (14, .dead), (29, .dead), (30, .dead), (31, .dead), (32, .dead), (33, .dead), (39, .dead)], [], 0, []⟩) (by kernel_rfl))) ⟨rfl, rfl⟩
  · rintro _ ⟨rfl, rfl⟩
    (try dsimp only at h5568)
    refine W_sound tab_ok mixed 6 _ _ _ ?_
    simp -implicitDefEqProofs only [go_sem, qa, qb, qc, qd, qe, qf, qg, qh, qi, qj, qk, ↓reduceIte, h5475]
    repeat with_reducible refine ⟨by first | kernel_rfl | decide, ?_⟩
    obtain rfl := Option.some.inj h5568
    exact finC [(2, .v (.bool true))] [(2, .v (.bool true))] (by simp [leE, lk_cons]) (.cons _ _ _ _ _ (.v _ _ (.refl _)) .nil) (by rfl) (by simp [leE, lk_cons]) (by decide) (by decide) rfl (by simp only [go_sem, qa, qb, qc, qd, qe, qf, qg, qh, qi, qj, qk, ↓reduceIte, resQ_tmp, resQ_cell, resQ_nil, retD_one, retD_two, retD_three, retD_none]; try simp [R.val, retD_one, retD_two, retD_three, retD_none])
end Go.Proofs.YtnponojgpkbagaaDoor
namespace Go.Proofs.YtnponojgpkbagaaDoor
open Go.V
def domC : Nat → List Nat := fun n => if n = 44 ∨ n = 50 ∨ n = 52 then [0, 2, 4] else []
theorem cloneN {f : FuncId} (h1 : runE Tryd.prog tab domC (fun _ => false) ⟨[], []⟩ 100 f ([.nl].map .v) = some .nl) (h2 : runE Tryd.prog tab domC (fun _ => false) ⟨[], []⟩ 100 f ([nnP].map .v) = some (.lst true 0 [])) : FnP Tryd.prog f [.lst false 0 []] (.lst true 0 []) :=
  FnP_nil (FnP_le (runE_ok tab_ok mixed KnOk.nil h1) (.cons _ _ _ _ (.refl _) .nil) (.nl true)) (runE_ok tab_ok mixed KnOk.nil h2)
theorem ofZ {f : FuncId} (h : FnP Tryd.prog f [.lst false 0 []] (.lst true 0 [])) {n k : Nat} {c : List PV} (hn : decide (0 < n) = false) (hc : c.length = n * k) : FnP Tryd.prog f [.lst false n c] (.lst true 0 []) := by
  have e : n = 0 := by simpa using hn
  subst e
  have : c = [] := List.eq_nil_of_length_eq_zero (by simpa using hc)
  subst this
  exact h
theorem e44 : FnP Tryd.prog 44 [.lst false 0 []] (.lst true 0 []) := cloneN (by kernel_rfl) (by kernel_rfl)
theorem e44' {n : Nat} {c : List PV} (hn : decide (0 < n) = false) (hc : c.length = n) : FnP Tryd.prog 44 [.lst false n c] (.lst true 0 []) := ofZ (k := 1) e44 hn (by omega)
end Go.Proofs.YtnponojgpkbagaaDoor
