/-
  The first of the shortest lists that have a property: best, as Ring calls it.
-/
import Derived.Test.YtnponojgpkbagaaDoorQMostA
import Derived.Test.YtnponojgpkbagaaDoorQV35
import Derived.Test.YtnponojgpkbagaaDoorQV36
namespace Go.Proofs.YtnponojgpkbagaaDoor
open Go.V
open Nat renaming reduceBEq → qa, reduceAdd → qb, reduceSub → qc, reduceMul → qd, reduceLT → qe, reduceLeDiff → qf
open Int renaming reduceLE → qg, reduceLT → qh, reduceToNat → qi, reduceBEq → qj, reduceBNe → qk
set_option maxRecDepth 100000
set_option maxHeartbeats 4000000
set_option linter.unusedSimpArgs false
set_option linter.unusedVariables false
attribute [local go_sem] tl1 tl2 tl3 tl4 tl5 tl9 tl17 tl21 tl22 tl23 tl24 tl25 tl26 tl27 tl28 tl29 tl31 tl32 tl34 tl35 tl36 tl37 tl38 tl39 tl40 tl41 tl42 tl43 tl44 tl45 tl47 tl48 tl49 tl50 tl51 tl52 tl53 tl54 tl55 tl56 tl57 tl58 tl59 tl60 tl61 tl62 tl63 tl64 tl65 tl66 tl67 tl68 tl69 tl70 tl71 tl72 tl73 tl74 tl75 tl76 tl77 tl78 tl79 tl80 tl81 tl82 tl83 tl84 tl85 tl86 tl87 tl88 tl89 tl90 tl92 tl94 tl95 tl96 tl97 tl98 tl99 tl100 tl101 tl102 tl103 tl104 tl105 tl106 tl107 tl108 tl109 tl110 tl111 tl112 tl113 tl114 tl115 tl116 tl118 tl119 tl121 tl122 tl123 tl124 tl125 tl126 tl127 tl128 tl129 tl131 tl133 tl134 tl135 tl136 tl142 tl146
def getA7 {α : Type} (p : PV) (k : PV → PV → PV → PV → PV → PV → PV → Option α) : Option α := match p with | .agg [a0, a1, a2, a3, a4, a5, a6] => k a0 a1 a2 a3 a4 a5 a6 | _ => none
theorem getA7_some {α : Type} {p : PV} {k : PV → PV → PV → PV → PV → PV → PV → Option α} {r : α} (h : getA7 p k = some r) : ∃ a0 a1 a2 a3 a4 a5 a6, p = .agg [a0, a1, a2, a3, a4, a5, a6] ∧ k a0 a1 a2 a3 a4 a5 a6 = some r := by
  unfold getA7 at h; split at h
  · exact ⟨_, _, _, _, _, _, _, rfl, h⟩
  · cases h
def m40_L2 (N : Nat) (x5144 : Int) (x5145 : Int) (x5146 : Int) (p5150 : PV) (p5151 : PV) (p5152 : PV) (p5153 : PV) (p5154 : PV) (x5156 : Int) (x5159 : Int) (x5335 : Int) (n5336 : Nat) (c5337 : List PV) (x5343 : Int) (x5396 : Int) : Nat → Nat → Int → Int → List PV → Option ((Nat × Int × List PV))
  | 0, _, _, _, _ => none
  | n + 1, n5407, x5408, x5409, c5410 =>
    brn (decide (x5409 < (IntKind.i64.wrap (1 + (Int.tmod (IntKind.i64.wrap x5156) x5144))))) (
      grd (0 ≤ x5408) <|
      brn ((bitsI .and .u16 (Int.fdiv x5343 (2 ^ (min (Int.toNat x5408) 16))) 1) == 1) (
        brn (decide (((n5407 : Nat) : Int) < x5146)) (
          grd ((n5407 + 1) ≤ 1099511627776) <|
          grd (List.length c5410 = (n5407 * 2)) <|
          m40_L2 N x5144 x5145 x5146 p5150 p5151 p5152 p5153 p5154 x5156 x5159 x5335 n5336 c5337 x5343 x5396 n (n5407 + 1) (IntKind.i64.wrap (x5408 + 1)) (IntKind.i64.wrap (x5409 + 1)) (c5410 ++ [(.int .i64 x5396), (.int .i64 x5409)])) (
          m40_L2 N x5144 x5145 x5146 p5150 p5151 p5152 p5153 p5154 x5156 x5159 x5335 n5336 c5337 x5343 x5396 n n5407 (IntKind.i64.wrap (x5408 + 1)) (IntKind.i64.wrap (x5409 + 1)) c5410)) (
        m40_L2 N x5144 x5145 x5146 p5150 p5151 p5152 p5153 p5154 x5156 x5159 x5335 n5336 c5337 x5343 x5396 n n5407 (IntKind.i64.wrap (x5408 + 1)) (IntKind.i64.wrap (x5409 + 1)) c5410)) (
      some (n5407, x5408, c5410))
def m40_L1 (N : Nat) (x5144 : Int) (x5145 : Int) (x5146 : Int) (p5150 : PV) (p5151 : PV) (p5152 : PV) (p5153 : PV) (p5154 : PV) (x5156 : Int) (x5159 : Int) (x5335 : Int) (n5336 : Nat) (c5337 : List PV) (x5343 : Int) : Nat → Nat → Int → Int → List PV → Option ((Nat × List PV))
  | 0, _, _, _, _ => none
  | n + 1, n5394, x5395, x5396, c5397 =>
    brn (decide (x5396 < (IntKind.i64.wrap (1 + (Int.tmod (IntKind.i64.wrap x5156) x5144))))) (
      bnd' (m40_L2 N x5144 x5145 x5146 p5150 p5151 p5152 p5153 p5154 x5156 x5159 x5335 n5336 c5337 x5343 x5396 N n5394 x5395 (IntKind.i64.wrap (x5396 + 1)) c5397) fun o =>
      match o with
      | (n5417, x5418, c5419) =>
        m40_L1 N x5144 x5145 x5146 p5150 p5151 p5152 p5153 p5154 x5156 x5159 x5335 n5336 c5337 x5343 n n5417 x5418 (IntKind.i64.wrap (x5396 + 1)) c5419) (
      some (n5394, c5397))
def m40_L0 (N : Nat) (x5144 : Int) (x5145 : Int) (x5146 : Int) (p5150 : PV) (p5151 : PV) (p5152 : PV) (p5153 : PV) (p5154 : PV) (x5156 : Int) (x5159 : Int) : Nat → Int → Nat → List PV → Option ((Nat × List PV))
  | 0, _, _, _ => none
  | n + 1, x5335, n5336, c5337 =>
    brn (decide (x5335 < (((Int.toNat (Int.tmod (IntKind.i64.wrap x5159) (IntKind.i64.wrap (x5145 + 1)))) : Nat) : Int))) (
      grd (0 ≤ x5335 ∧ x5335 < (((Int.toNat (Int.tmod (IntKind.i64.wrap x5159) (IntKind.i64.wrap (x5145 + 1)))) : Nat) : Int)) <|
      grd ((2 + (Int.toNat x5335)) < 7) <|
      getI .u16 (gp [(.int .u8 x5156), (.int .u8 x5159), p5150, p5151, p5152, p5153, p5154] (2 + (Int.toNat x5335))) fun x5343 =>
      bnd' (m40_L1 N x5144 x5145 x5146 p5150 p5151 p5152 p5153 p5154 x5156 x5159 x5335 n5336 c5337 x5343 N 0 0 0 []) fun o =>
      match o with
      | (n5420, c5421) =>
        grd ((n5336 + 1) ≤ 1099511627776) <|
        grd (List.length c5337 = n5336) <|
        grd (List.length c5421 = (n5420 * 2)) <|
        m40_L0 N x5144 x5145 x5146 p5150 p5151 p5152 p5153 p5154 x5156 x5159 n (IntKind.i64.wrap (x5335 + 1)) (n5336 + 1) (c5337 ++ [(.lst false n5420 c5421)])) (
      some (n5336, c5337))
def m40 (N : Nat) (p5143 : PV) (x5144 : Int) (x5145 : Int) (x5146 : Int) : Option (PV) :=
  getA7 p5143 fun p5148 p5149 p5150 p5151 p5152 p5153 p5154 =>
  getI .u8 p5148 fun x5156 =>
  grd (x5144 ≠ 0) <|
  getI .u8 p5149 fun x5159 =>
  grd ((IntKind.i64.wrap (x5145 + 1)) ≠ 0) <|
  grd (0 ≤ (Int.tmod (IntKind.i64.wrap x5159) (IntKind.i64.wrap (x5145 + 1))) ∧ (Int.tmod (IntKind.i64.wrap x5159) (IntKind.i64.wrap (x5145 + 1))) ≤ 5) <|
  bnd' (m40_L0 N x5144 x5145 x5146 p5150 p5151 p5152 p5153 p5154 x5156 x5159 N 0 0 []) fun o =>
  match o with
  | (n5425, c5426) =>
    grd (List.length c5426 = n5425) <|
    some (.agg [(.int .i64 (IntKind.i64.wrap (1 + (Int.tmod (IntKind.i64.wrap x5156) x5144)))), (.lst false n5425 c5426)])
theorem c40 (N : Nat) (p5143 : PV) (x5144 : Int) (x5145 : Int) (x5146 : Int) (r : PV)  (h : m40 N p5143 x5144 x5145 x5146 = some r) : FnP Tryd.prog 40 [p5143, (.int .i64 x5144), (.int .i64 x5145), (.int .i64 x5146)] r := by
  unfold m40 at h
  refine Fn_of (sz := 77) tab_ok [0, 1, 2, 3, 4, 8, 9, 11, 12, 13, 14, 15, 30, 31, 32, 33, 37, 38, 39, 46, 59] [.cell 8 24] Tryd.func40 rfl rfl rfl (by simp) ?_
  simp only [initSt, initEnv, List.map_cons, List.map_nil, List.getD_cons_zero, List.getD_cons_succ, List.getD_nil]
  have hh := getA7_some h; clear h; obtain ⟨p5148, p5149, p5150, p5151, p5152, p5153, p5154, h5147, h⟩ := hh
  have hh := getI_some h; clear h; obtain ⟨x5156, h5155, h⟩ := hh
  have hh := grd_some h; clear h; obtain ⟨g5157, h⟩ := hh
  have hh := getI_some h; clear h; obtain ⟨x5159, h5158, h⟩ := hh
  have hh := grd_some h; clear h; obtain ⟨g5160, h⟩ := hh
  have hh := grd_some h; clear h; obtain ⟨⟨g5161, g5162⟩, h⟩ := hh
  refine W_sound tab_ok mixed 31 _ _ _ ?_
  simp -implicitDefEqProofs only [go_sem, qa, qb, qc, qd, qe, qf, qg, qh, qi, qj, qk, ↓reduceIte, h5147, h5155, g5157, h5158, g5160, g5161, g5162]
  repeat with_reducible refine ⟨by first | kernel_rfl | decide, ?_⟩
  refine Wp_wkK Wk_norm rfl ?_
  simp -implicitDefEqProofs only [go_sem, qa, qb, qc, qd, qe, qf, qg, qh, qi, qj, qk, ↓reduceIte, normE, h5147, h5155, g5157, h5158, g5160, g5161, g5162]
  (try simp -implicitDefEqProofs only [go_sem, qa, qb, qc, qd, qe, qf, qg, qh, qi, qj, qk, ↓reduceIte, h5147, h5155, g5157, h5158, g5160, g5161, g5162])
  refine Wp_weaken (Wk_ownC 18 1 1 rfl rfl (by decide) (by decide)) ?_
  simp -implicitDefEqProofs only [go_sem, qa, qb, qc, qd, qe, qf, qg, qh, qi, qj, qk, ↓reduceIte, setO, h5147, h5155, g5157, h5158, g5160, g5161, g5162]
  have hh := bnd'_some h; clear h; obtain ⟨o5428, h5429, h5430⟩ := hh
  refine Wp_cut (fun s => ∃ n5425, ∃ c5426, (n5425, c5426) = o5428 ∧ s = ⟨[], [(0, .dead), (1, .dead), (2, .dead), (3, .dead), (4, .dead), (8, .ptr 0 0), (9, .ptr 1 0), (11, .dead), (12, .dead), (13, .dead), (14, .dead), (15, .dead), (30, .dead), (31, .dead), (32, .dead), (33, .dead), (37, .dead), (38, .dead), (39, .dead), (46, .dead), (59, .dead)], [(0, .p [(.int .i64 0), .nl]), (1, .r [.v (.int .i64 (IntKind.i64.wrap (1 + (Int.tmod (IntKind.i64.wrap x5156) x5144)))), .sl false 2 0 n5425 1]), (2, .p c5426)], 3, []⟩) ?_ ?_
  · refine Wp_block ?_
    refine Wp_loopG (fun n s => ∃ x5335, ∃ n5336, ∃ c5337, m40_L0 N x5144 x5145 x5146 p5150 p5151 p5152 p5153 p5154 x5156 x5159 n x5335 n5336 c5337 = some o5428 ∧ s = ⟨[], [(0, .dead), (1, .dead), (2, .dead), (3, .v (.int .i64 x5146)), (4, .dead), (8, .ptr 0 0), (9, .ptr 1 0), (11, .dead), (12, .dead), (13, .dead), (14, .dead), (15, .dead), (30, .sl false 2 2 (Int.toNat (Int.tmod (IntKind.i64.wrap x5159) (IntKind.i64.wrap (x5145 + 1)))) 1), (31, .v (.int .i64 (((Int.toNat (Int.tmod (IntKind.i64.wrap x5159) (IntKind.i64.wrap (x5145 + 1)))) : Nat) : Int))), (32, .v (.int .i64 x5335)), (33, .dead), (37, .dead), (38, .dead), (39, .dead), (46, .dead), (59, .dead)], [(0, .p [(.int .i64 0), .nl]), (1, .r [.v (.int .i64 (IntKind.i64.wrap (1 + (Int.tmod (IntKind.i64.wrap x5156) x5144)))), .sl false 3 0 n5336 1]), (2, .p [(.int .u8 x5156), (.int .u8 x5159), p5150, p5151, p5152, p5153, p5154]), (3, .p c5337)], 4, []⟩) N _ ((Wk_le (.k (.k (.k (.r (.k (.r (.r (.r (.r (.r (.r (.r (.r (.r (.r (.r (.r (.r (.r (.r (.r .nil))))))))))))))))))))) (OLe.refl _)).trans (cmpS_ok (st' := ⟨[], [(0, .dead), (1, .dead), (2, .dead), (3, .v (.int .i64 x5146)), (4, .dead), (8, .ptr 0 0), (9, .ptr 1 0), (11, .dead), (12, .dead), (13, .dead), (14, .dead), (15, .dead), (30, .sl false 2 2 (Int.toNat (Int.tmod (IntKind.i64.wrap x5159) (IntKind.i64.wrap (x5145 + 1)))) 1), (31, .v (.int .i64 (((Int.toNat (Int.tmod (IntKind.i64.wrap x5159) (IntKind.i64.wrap (x5145 + 1)))) : Nat) : Int))), (32, .v (.int .i64 0)), (33, .dead), (37, .dead), (38, .dead), (39, .dead), (46, .dead), (59, .dead)], [(0, .p [(.int .i64 0), .nl]), (1, .r [.v (.int .i64 (IntKind.i64.wrap (1 + (Int.tmod (IntKind.i64.wrap x5156) x5144)))), .sl false 3 0 0 1]), (2, .p [(.int .u8 x5156), (.int .u8 x5159), p5150, p5151, p5152, p5153, p5154]), (3, .p [])], 4, []⟩) (by kernel_rfl))) ⟨_, _, _, h5429, rfl⟩ ?_
    clear h5429
    rintro n _ ⟨x5335, n5336, c5337, h5429, rfl⟩
    cases n with
    | zero => cases h5429
    | succ n =>
      rw [m40_L0] at h5429
      have hh := brn_some h5429; clear h5429; rcases hh with ⟨h5338, h5429⟩ | ⟨h5338, h5429⟩
      · have hh := grd_some h5429; clear h5429; obtain ⟨⟨g5339, g5340⟩, h5429⟩ := hh
        have hh := grd_some h5429; clear h5429; obtain ⟨g5341, h5429⟩ := hh
        have hh := getI_some h5429; clear h5429; obtain ⟨x5343, h5342, h5429⟩ := hh
        refine W_sound tab_ok mixed 30 _ _ _ ?_
        simp -implicitDefEqProofs only [go_sem, qa, qb, qc, qd, qe, qf, qg, qh, qi, qj, qk, ↓reduceIte, h5147, h5155, g5157, h5158, g5160, g5161, g5162, h5338, g5339, g5340, g5341, h5342]
        repeat with_reducible refine ⟨by first | kernel_rfl | decide, ?_⟩
        refine Wp_weaken (Wk_ownS 12 2 rfl (by decide) (by decide)) ?_
        simp -implicitDefEqProofs only [go_sem, qa, qb, qc, qd, qe, qf, qg, qh, qi, qj, qk, ↓reduceIte, h5147, h5155, g5157, h5158, g5160, g5161, g5162, h5338, g5339, g5340, g5341, h5342]
        have hh := bnd'_some h5429; clear h5429; obtain ⟨o5431, h5432, h5433⟩ := hh
        refine Wp_cut (fun s => ∃ n5420, ∃ c5421, (n5420, c5421) = o5431 ∧ s = ⟨[], [(0, .dead), (1, .dead), (2, .dead), (3, .v (.int .i64 x5146)), (4, .dead), (8, .ptr 0 0), (9, .ptr 1 0), (11, .dead), (12, .sl false 2 0 n5420 2), (13, .dead), (14, .dead), (15, .dead), (30, .sl false 3 2 (Int.toNat (Int.tmod (IntKind.i64.wrap x5159) (IntKind.i64.wrap (x5145 + 1)))) 1), (31, .v (.int .i64 (((Int.toNat (Int.tmod (IntKind.i64.wrap x5159) (IntKind.i64.wrap (x5145 + 1)))) : Nat) : Int))), (32, .v (.int .i64 x5335)), (33, .dead), (37, .dead), (38, .dead), (39, .dead), (46, .dead), (59, .dead)], [(0, .p [(.int .i64 0), .nl]), (1, .r [.v (.int .i64 (IntKind.i64.wrap (1 + (Int.tmod (IntKind.i64.wrap x5156) x5144)))), .sl false 4 0 n5336 1]), (2, .p c5421), (3, .p [(.int .u8 x5156), (.int .u8 x5159), p5150, p5151, p5152, p5153, p5154]), (4, .p c5337)], 5, []⟩) ?_ ?_
        · refine Wp_block ?_
          refine Wp_loopG (fun n s => ∃ n5394, ∃ x5395, ∃ x5396, ∃ c5397, m40_L1 N x5144 x5145 x5146 p5150 p5151 p5152 p5153 p5154 x5156 x5159 x5335 n5336 c5337 x5343 n n5394 x5395 x5396 c5397 = some o5431 ∧ s = ⟨[], [(0, .dead), (1, .dead), (2, .dead), (3, .v (.int .i64 x5146)), (4, .dead), (8, .ptr 0 0), (9, .ptr 1 0), (11, .v (.int .u16 x5343)), (12, .sl false 2 0 n5394 2), (13, .v (.int .i64 x5395)), (14, .dead), (15, .dead), (30, .sl false 3 2 (Int.toNat (Int.tmod (IntKind.i64.wrap x5159) (IntKind.i64.wrap (x5145 + 1)))) 1), (31, .v (.int .i64 (((Int.toNat (Int.tmod (IntKind.i64.wrap x5159) (IntKind.i64.wrap (x5145 + 1)))) : Nat) : Int))), (32, .v (.int .i64 x5335)), (33, .dead), (37, .v (.int .i64 (IntKind.i64.wrap (1 + (Int.tmod (IntKind.i64.wrap x5156) x5144))))), (38, .v (.int .i64 x5396)), (39, .dead), (46, .dead), (59, .dead)], [(0, .p [(.int .i64 0), .nl]), (1, .r [.v (.int .i64 (IntKind.i64.wrap (1 + (Int.tmod (IntKind.i64.wrap x5156) x5144)))), .sl false 4 0 n5336 1]), (2, .p c5397), (3, .p [(.int .u8 x5156), (.int .u8 x5159), p5150, p5151, p5152, p5153, p5154]), (4, .p c5337)], 5, []⟩) N _ ((Wk_le (.r (.r (.r (.r (.r (.r (.r (.r (.r (.r (.r (.r (.r (.r (.r (.k (.r (.r (.r (.r (.r .nil))))))))))))))))))))) (OLe.refl _)).trans (cmpS_ok (st' := ⟨[], [(0, .dead), (1, .dead), (2, .dead), (3, .v (.int .i64 x5146)), (4, .dead), (8, .ptr 0 0), (9, .ptr 1 0), (11, .v (.int .u16 x5343)), (12, .sl false 2 0 0 2), (13, .v (.int .i64 0)), (14, .dead), (15, .dead), (30, .sl false 3 2 (Int.toNat (Int.tmod (IntKind.i64.wrap x5159) (IntKind.i64.wrap (x5145 + 1)))) 1), (31, .v (.int .i64 (((Int.toNat (Int.tmod (IntKind.i64.wrap x5159) (IntKind.i64.wrap (x5145 + 1)))) : Nat) : Int))), (32, .v (.int .i64 x5335)), (33, .dead), (37, .v (.int .i64 (IntKind.i64.wrap (1 + (Int.tmod (IntKind.i64.wrap x5156) x5144))))), (38, .v (.int .i64 0)), (39, .dead), (46, .dead), (59, .dead)], [(0, .p [(.int .i64 0), .nl]), (1, .r [.v (.int .i64 (IntKind.i64.wrap (1 + (Int.tmod (IntKind.i64.wrap x5156) x5144)))), .sl false 4 0 n5336 1]), (2, .p []), (3, .p [(.int .u8 x5156), (.int .u8 x5159), p5150, p5151, p5152, p5153, p5154]), (4, .p c5337)], 5, []⟩) (by kernel_rfl))) ⟨_, _, _, _, h5432, rfl⟩ ?_
          clear h5432
          rintro n _ ⟨n5394, x5395, x5396, c5397, h5432, rfl⟩
          cases n with
          | zero => cases h5432
          | succ n =>
            rw [m40_L1] at h5432
            have hh := brn_some h5432; clear h5432; rcases hh with ⟨h5398, h5432⟩ | ⟨h5398, h5432⟩
            · refine W_sound tab_ok mixed 20 _ _ _ ?_
              simp -implicitDefEqProofs only [go_sem, qa, qb, qc, qd, qe, qf, qg, qh, qi, qj, qk, ↓reduceIte, h5147, h5155, g5157, h5158, g5160, g5161, g5162, h5338, g5339, g5340, g5341, h5342, h5398]
              repeat with_reducible refine ⟨by first | kernel_rfl | decide, ?_⟩
              have hh := bnd'_some h5432; clear h5432; obtain ⟨o5434, h5435, h5436⟩ := hh
              refine Wp_cut (fun s => ∃ n5417, ∃ x5418, ∃ c5419, (n5417, x5418, c5419) = o5434 ∧ s = ⟨[], [(0, .dead), (1, .dead), (2, .dead), (3, .v (.int .i64 x5146)), (4, .dead), (8, .ptr 0 0), (9, .ptr 1 0), (11, .v (.int .u16 x5343)), (12, .sl false 2 0 n5417 2), (13, .v (.int .i64 x5418)), (14, .dead), (15, .dead), (30, .sl false 3 2 (Int.toNat (Int.tmod (IntKind.i64.wrap x5159) (IntKind.i64.wrap (x5145 + 1)))) 1), (31, .v (.int .i64 (((Int.toNat (Int.tmod (IntKind.i64.wrap x5159) (IntKind.i64.wrap (x5145 + 1)))) : Nat) : Int))), (32, .v (.int .i64 x5335)), (33, .dead), (37, .v (.int .i64 (IntKind.i64.wrap (1 + (Int.tmod (IntKind.i64.wrap x5156) x5144))))), (38, .v (.int .i64 x5396)), (39, .dead), (46, .dead), (59, .dead)], [(0, .p [(.int .i64 0), .nl]), (1, .r [.v (.int .i64 (IntKind.i64.wrap (1 + (Int.tmod (IntKind.i64.wrap x5156) x5144)))), .sl false 4 0 n5336 1]), (2, .p c5419), (3, .p [(.int .u8 x5156), (.int .u8 x5159), p5150, p5151, p5152, p5153, p5154]), (4, .p c5337)], 5, []⟩) ?_ ?_
              · refine Wp_block ?_
                refine Wp_loopG (fun n s => ∃ n5407, ∃ x5408, ∃ x5409, ∃ c5410, m40_L2 N x5144 x5145 x5146 p5150 p5151 p5152 p5153 p5154 x5156 x5159 x5335 n5336 c5337 x5343 x5396 n n5407 x5408 x5409 c5410 = some o5434 ∧ s = ⟨[], [(0, .dead), (1, .dead), (2, .dead), (3, .v (.int .i64 x5146)), (4, .dead), (8, .ptr 0 0), (9, .ptr 1 0), (11, .v (.int .u16 x5343)), (12, .sl false 2 0 n5407 2), (13, .v (.int .i64 x5408)), (14, .v (.int .i64 x5396)), (15, .v (.int .i64 x5409)), (30, .sl false 3 2 (Int.toNat (Int.tmod (IntKind.i64.wrap x5159) (IntKind.i64.wrap (x5145 + 1)))) 1), (31, .v (.int .i64 (((Int.toNat (Int.tmod (IntKind.i64.wrap x5159) (IntKind.i64.wrap (x5145 + 1)))) : Nat) : Int))), (32, .v (.int .i64 x5335)), (33, .dead), (37, .v (.int .i64 (IntKind.i64.wrap (1 + (Int.tmod (IntKind.i64.wrap x5156) x5144))))), (38, .v (.int .i64 x5396)), (39, .dead), (46, .dead), (59, .dead)], [(0, .p [(.int .i64 0), .nl]), (1, .r [.v (.int .i64 (IntKind.i64.wrap (1 + (Int.tmod (IntKind.i64.wrap x5156) x5144)))), .sl false 4 0 n5336 1]), (2, .p c5410), (3, .p [(.int .u8 x5156), (.int .u8 x5159), p5150, p5151, p5152, p5153, p5154]), (4, .p c5337)], 5, []⟩) N _ ((Wk_le (.r (.r (.r (.r (.r (.r (.r (.r (.r (.r (.r (.r (.r (.r (.r (.r (.r (.r (.k (.r (.r .nil))))))))))))))))))))) (OLe.refl _)).trans (cmpS_ok (st' := ⟨[], [(0, .dead), (1, .dead), (2, .dead), (3, .v (.int .i64 x5146)), (4, .dead), (8, .ptr 0 0), (9, .ptr 1 0), (11, .v (.int .u16 x5343)), (12, .sl false 2 0 n5394 2), (13, .v (.int .i64 x5395)), (14, .v (.int .i64 x5396)), (15, .v (.int .i64 (IntKind.i64.wrap (x5396 + 1)))), (30, .sl false 3 2 (Int.toNat (Int.tmod (IntKind.i64.wrap x5159) (IntKind.i64.wrap (x5145 + 1)))) 1), (31, .v (.int .i64 (((Int.toNat (Int.tmod (IntKind.i64.wrap x5159) (IntKind.i64.wrap (x5145 + 1)))) : Nat) : Int))), (32, .v (.int .i64 x5335)), (33, .dead), (37, .v (.int .i64 (IntKind.i64.wrap (1 + (Int.tmod (IntKind.i64.wrap x5156) x5144))))), (38, .v (.int .i64 x5396)), (39, .dead), (46, .dead), (59, .dead)], [(0, .p [(.int .i64 0), .nl]), (1, .r [.v (.int .i64 (IntKind.i64.wrap (1 + (Int.tmod (IntKind.i64.wrap x5156) x5144)))), .sl false 4 0 n5336 1]), (2, .p c5397), (3, .p [(.int .u8 x5156), (.int .u8 x5159), p5150, p5151, p5152, p5153, p5154]), (4, .p c5337)], 5, []⟩) (by kernel_rfl))) ⟨_, _, _, _, h5435, rfl⟩ ?_
                clear h5435
                rintro n _ ⟨n5407, x5408, x5409, c5410, h5435, rfl⟩
                cases n with
                | zero => cases h5435
                | succ n =>
                  rw [m40_L2] at h5435
                  have hh := brn_some h5435; clear h5435; rcases hh with ⟨h5411, h5435⟩ | ⟨h5411, h5435⟩
                  · have hh := grd_some h5435; clear h5435; obtain ⟨g5412, h5435⟩ := hh
                    have hh := brn_some h5435; clear h5435; rcases hh with ⟨h5413, h5435⟩ | ⟨h5413, h5435⟩
                    · have hh := brn_some h5435; clear h5435; rcases hh with ⟨h5414, h5435⟩ | ⟨h5414, h5435⟩
                      · have hh := grd_some h5435; clear h5435; obtain ⟨g5415, h5435⟩ := hh
                        have hh := grd_some h5435; clear h5435; obtain ⟨g5416, h5435⟩ := hh
                        refine W_sound tab_ok mixed 48 _ _ _ ?_
                        simp -implicitDefEqProofs only [go_sem, qa, qb, qc, qd, qe, qf, qg, qh, qi, qj, qk, ↓reduceIte, h5147, h5155, g5157, h5158, g5160, g5161, g5162, h5338, g5339, g5340, g5341, h5342, h5398, h5411, g5412, h5413, h5414, g5415, g5416]
                        repeat with_reducible refine ⟨by first | kernel_rfl | decide, ?_⟩
                        exact cutQ _ ((Wk_le (.r (.r (.r (.r (.r (.r (.r (.r (.r (.r (.r (.r (.r (.r (.r (.r (.r (.r (.r (.k (.k .nil))))))))))))))))))))) (OLe.refl _)).trans (cmpS_ok (st' := ⟨[], [(0, .dead), (1, .dead), (2, .dead), (3, .v (.int .i64 x5146)), (4, .dead), (8, .ptr 0 0), (9, .ptr 1 0), (11, .v (.int .u16 x5343)), (12, .sl false 2 0 (n5407 + 1) 2), (13, .v (.int .i64 (IntKind.i64.wrap (x5408 + 1)))), (14, .v (.int .i64 x5396)), (15, .v (.int .i64 (IntKind.i64.wrap (x5409 + 1)))), (30, .sl false 3 2 (Int.toNat (Int.tmod (IntKind.i64.wrap x5159) (IntKind.i64.wrap (x5145 + 1)))) 1), (31, .v (.int .i64 (((Int.toNat (Int.tmod (IntKind.i64.wrap x5159) (IntKind.i64.wrap (x5145 + 1)))) : Nat) : Int))), (32, .v (.int .i64 x5335)), (33, .dead), (37, .v (.int .i64 (IntKind.i64.wrap (1 + (Int.tmod (IntKind.i64.wrap x5156) x5144))))), (38, .v (.int .i64 x5396)), (39, .dead), (46, .dead), (59, .dead)], [(0, .p [(.int .i64 0), .nl]), (1, .r [.v (.int .i64 (IntKind.i64.wrap (1 + (Int.tmod (IntKind.i64.wrap x5156) x5144)))), .sl false 4 0 n5336 1]), (2, .p (c5410 ++ [(.int .i64 x5396), (.int .i64 x5409)])), (3, .p [(.int .u8 x5156), (.int .u8 x5159), p5150, p5151, p5152, p5153, p5154]), (4, .p c5337)], 5, []⟩) (by kernel_rfl))) ⟨n, Nat.lt_succ_self n, _, _, _, _, h5435, rfl⟩
                      · refine W_sound tab_ok mixed 40 _ _ _ ?_
                        simp -implicitDefEqProofs only [go_sem, qa, qb, qc, qd, qe, qf, qg, qh, qi, qj, qk, ↓reduceIte, h5147, h5155, g5157, h5158, g5160, g5161, g5162, h5338, g5339, g5340, g5341, h5342, h5398, h5411, g5412, h5413, h5414]
                        repeat with_reducible refine ⟨by first | kernel_rfl | decide, ?_⟩
                        exact cutQ _ ((Wk_le (.r (.r (.r (.r (.r (.r (.r (.r (.r (.r (.r (.r (.r (.r (.r (.r (.r (.r (.r (.k (.k .nil))))))))))))))))))))) (OLe.refl _)).trans (cmpS_ok (st' := ⟨[], [(0, .dead), (1, .dead), (2, .dead), (3, .v (.int .i64 x5146)), (4, .dead), (8, .ptr 0 0), (9, .ptr 1 0), (11, .v (.int .u16 x5343)), (12, .sl false 2 0 n5407 2), (13, .v (.int .i64 (IntKind.i64.wrap (x5408 + 1)))), (14, .v (.int .i64 x5396)), (15, .v (.int .i64 (IntKind.i64.wrap (x5409 + 1)))), (30, .sl false 3 2 (Int.toNat (Int.tmod (IntKind.i64.wrap x5159) (IntKind.i64.wrap (x5145 + 1)))) 1), (31, .v (.int .i64 (((Int.toNat (Int.tmod (IntKind.i64.wrap x5159) (IntKind.i64.wrap (x5145 + 1)))) : Nat) : Int))), (32, .v (.int .i64 x5335)), (33, .dead), (37, .v (.int .i64 (IntKind.i64.wrap (1 + (Int.tmod (IntKind.i64.wrap x5156) x5144))))), (38, .v (.int .i64 x5396)), (39, .dead), (46, .dead), (59, .dead)], [(0, .p [(.int .i64 0), .nl]), (1, .r [.v (.int .i64 (IntKind.i64.wrap (1 + (Int.tmod (IntKind.i64.wrap x5156) x5144)))), .sl false 4 0 n5336 1]), (2, .p c5410), (3, .p [(.int .u8 x5156), (.int .u8 x5159), p5150, p5151, p5152, p5153, p5154]), (4, .p c5337)], 5, []⟩) (by kernel_rfl))) ⟨n, Nat.lt_succ_self n, _, _, _, _, h5435, rfl⟩
                    · refine W_sound tab_ok mixed 40 _ _ _ ?_
                      simp -implicitDefEqProofs only [go_sem, qa, qb, qc, qd, qe, qf, qg, qh, qi, qj, qk, ↓reduceIte, h5147, h5155, g5157, h5158, g5160, g5161, g5162, h5338, g5339, g5340, g5341, h5342, h5398, h5411, g5412, h5413]
                      repeat with_reducible refine ⟨by first | kernel_rfl | decide, ?_⟩
                      exact cutQ _ ((Wk_le (.r (.r (.r (.r (.r (.r (.r (.r (.r (.r (.r (.r (.r (.r (.r (.r (.r (.r (.r (.k (.k .nil))))))))))))))))))))) (OLe.refl _)).trans (cmpS_ok (st' := ⟨[], [(0, .dead), (1, .dead), (2, .dead), (3, .v (.int .i64 x5146)), (4, .dead), (8, .ptr 0 0), (9, .ptr 1 0), (11, .v (.int .u16 x5343)), (12, .sl false 2 0 n5407 2), (13, .v (.int .i64 (IntKind.i64.wrap (x5408 + 1)))), (14, .v (.int .i64 x5396)), (15, .v (.int .i64 (IntKind.i64.wrap (x5409 + 1)))), (30, .sl false 3 2 (Int.toNat (Int.tmod (IntKind.i64.wrap x5159) (IntKind.i64.wrap (x5145 + 1)))) 1), (31, .v (.int .i64 (((Int.toNat (Int.tmod (IntKind.i64.wrap x5159) (IntKind.i64.wrap (x5145 + 1)))) : Nat) : Int))), (32, .v (.int .i64 x5335)), (33, .dead), (37, .v (.int .i64 (IntKind.i64.wrap (1 + (Int.tmod (IntKind.i64.wrap x5156) x5144))))), (38, .v (.int .i64 x5396)), (39, .dead), (46, .dead), (59, .dead)], [(0, .p [(.int .i64 0), .nl]), (1, .r [.v (.int .i64 (IntKind.i64.wrap (1 + (Int.tmod (IntKind.i64.wrap x5156) x5144)))), .sl false 4 0 n5336 1]), (2, .p c5410), (3, .p [(.int .u8 x5156), (.int .u8 x5159), p5150, p5151, p5152, p5153, p5154]), (4, .p c5337)], 5, []⟩) (by kernel_rfl))) ⟨n, Nat.lt_succ_self n, _, _, _, _, h5435, rfl⟩
                  · refine W_sound tab_ok mixed 10 _ _ _ ?_
                    simp -implicitDefEqProofs only [go_sem, qa, qb, qc, qd, qe, qf, qg, qh, qi, qj, qk, ↓reduceIte, h5147, h5155, g5157, h5158, g5160, g5161, g5162, h5338, g5339, g5340, g5341, h5342, h5398, h5411]
                    repeat with_reducible refine ⟨by first | kernel_rfl | decide, ?_⟩
                    obtain rfl := Option.some.inj h5435
                    exact cutQ _ ((Wk_le (.r (.r (.r (.r (.r (.r (.r (.r (.r (.r (.k (.k (.r (.r (.r (.r (.r (.r (.r (.k (.r .nil))))))))))))))))))))) (OLe.refl _)).trans (cmpS_ok (st' := ⟨[], [(0, .dead), (1, .dead), (2, .dead), (3, .v (.int .i64 x5146)), (4, .dead), (8, .ptr 0 0), (9, .ptr 1 0), (11, .v (.int .u16 x5343)), (12, .sl false 2 0 n5407 2), (13, .v (.int .i64 x5408)), (14, .dead), (15, .dead), (30, .sl false 3 2 (Int.toNat (Int.tmod (IntKind.i64.wrap x5159) (IntKind.i64.wrap (x5145 + 1)))) 1), (31, .v (.int .i64 (((Int.toNat (Int.tmod (IntKind.i64.wrap x5159) (IntKind.i64.wrap (x5145 + 1)))) : Nat) : Int))), (32, .v (.int .i64 x5335)), (33, .dead), (37, .v (.int .i64 (IntKind.i64.wrap (1 + (Int.tmod (IntKind.i64.wrap x5156) x5144))))), (38, .v (.int .i64 x5396)), (39, .dead), (46, .dead), (59, .dead)], [(0, .p [(.int .i64 0), .nl]), (1, .r [.v (.int .i64 (IntKind.i64.wrap (1 + (Int.tmod (IntKind.i64.wrap x5156) x5144)))), .sl false 4 0 n5336 1]), (2, .p c5410), (3, .p [(.int .u8 x5156), (.int .u8 x5159), p5150, p5151, p5152, p5153, p5154]), (4, .p c5337)], 5, []⟩) (by kernel_rfl))) ⟨_, _, _, rfl, rfl⟩
              · rintro _ ⟨n5417, x5418, c5419, rfl, rfl⟩
                (try dsimp only at h5436)
                refine W_sound tab_ok mixed 5 _ _ _ ?_
                simp -implicitDefEqProofs only [go_sem, qa, qb, qc, qd, qe, qf, qg, qh, qi, qj, qk, ↓reduceIte, h5147, h5155, g5157, h5158, g5160, g5161, g5162, h5338, g5339, g5340, g5341, h5342, h5398]
                repeat with_reducible refine ⟨by first | kernel_rfl | decide, ?_⟩
                exact cutQ _ ((Wk_le (.r (.r (.r (.r (.r (.r (.r (.r (.r (.r (.r (.r (.r (.r (.r (.r (.r (.r (.r (.r (.r .nil))))))))))))))))))))) (OLe.refl _)).trans (cmpS_ok (st' := ⟨[], [(0, .dead), (1, .dead), (2, .dead), (3, .v (.int .i64 x5146)), (4, .dead), (8, .ptr 0 0), (9, .ptr 1 0), (11, .v (.int .u16 x5343)), (12, .sl false 2 0 n5417 2), (13, .v (.int .i64 x5418)), (14, .dead), (15, .dead), (30, .sl false 3 2 (Int.toNat (Int.tmod (IntKind.i64.wrap x5159) (IntKind.i64.wrap (x5145 + 1)))) 1), (31, .v (.int .i64 (((Int.toNat (Int.tmod (IntKind.i64.wrap x5159) (IntKind.i64.wrap (x5145 + 1)))) : Nat) : Int))), (32, .v (.int .i64 x5335)), (33, .dead), (37, .v (.int .i64 (IntKind.i64.wrap (1 + (Int.tmod (IntKind.i64.wrap x5156) x5144))))), (38, .v (.int .i64 (IntKind.i64.wrap (x5396 + 1)))), (39, .dead), (46, .dead), (59, .dead)], [(0, .p [(.int .i64 0), .nl]), (1, .r [.v (.int .i64 (IntKind.i64.wrap (1 + (Int.tmod (IntKind.i64.wrap x5156) x5144)))), .sl false 4 0 n5336 1]), (2, .p c5419), (3, .p [(.int .u8 x5156), (.int .u8 x5159), p5150, p5151, p5152, p5153, p5154]), (4, .p c5337)], 5, []⟩) (by kernel_rfl))) ⟨n, Nat.lt_succ_self n, _, _, _, _, h5436, rfl⟩
            · refine W_sound tab_ok mixed 7 _ _ _ ?_
              simp -implicitDefEqProofs only [go_sem, qa, qb, qc, qd, qe, qf, qg, qh, qi, qj, qk, ↓reduceIte, h5147, h5155, g5157, h5158, g5160, g5161, g5162, h5338, g5339, g5340, g5341, h5342, h5398]
              repeat with_reducible refine ⟨by first | kernel_rfl | decide, ?_⟩
              obtain rfl := Option.some.inj h5432
              exact cutQ _ ((Wk_le (.r (.r (.r (.r (.r (.r (.r (.k (.r (.k (.r (.r (.r (.r (.r (.r (.k (.k (.k (.r (.r .nil))))))))))))))))))))) (OLe.refl _)).trans (cmpS_ok (st' := ⟨[], [(0, .dead), (1, .dead), (2, .dead), (3, .v (.int .i64 x5146)), (4, .dead), (8, .ptr 0 0), (9, .ptr 1 0), (11, .dead), (12, .sl false 2 0 n5394 2), (13, .dead), (14, .dead), (15, .dead), (30, .sl false 3 2 (Int.toNat (Int.tmod (IntKind.i64.wrap x5159) (IntKind.i64.wrap (x5145 + 1)))) 1), (31, .v (.int .i64 (((Int.toNat (Int.tmod (IntKind.i64.wrap x5159) (IntKind.i64.wrap (x5145 + 1)))) : Nat) : Int))), (32, .v (.int .i64 x5335)), (33, .dead), (37, .dead), (38, .dead), (39, .dead), (46, .dead), (59, .dead)], [(0, .p [(.int .i64 0), .nl]), (1, .r [.v (.int .i64 (IntKind.i64.wrap (1 + (Int.tmod (IntKind.i64.wrap x5156) x5144)))), .sl false 4 0 n5336 1]), (2, .p c5397), (3, .p [(.int .u8 x5156), (.int .u8 x5159), p5150, p5151, p5152, p5153, p5154]), (4, .p c5337)], 5, []⟩) (by kernel_rfl))) ⟨_, _, rfl, rfl⟩
        · rintro _ ⟨n5420, c5421, rfl, rfl⟩
          (try dsimp only at h5433)
          have hh := grd_some h5433; clear h5433; obtain ⟨g5422, h5433⟩ := hh
          have hh := grd_some h5433; clear h5433; obtain ⟨g5423, h5433⟩ := hh
          refine W_sound tab_ok mixed 9 _ _ _ ?_
          simp -implicitDefEqProofs only [go_sem, qa, qb, qc, qd, qe, qf, qg, qh, qi, qj, qk, ↓reduceIte, h5147, h5155, g5157, h5158, g5160, g5161, g5162, h5338, g5339, g5340, g5341, h5342, g5422, g5423]
          repeat with_reducible refine ⟨by first | kernel_rfl | decide, ?_⟩
          have hh := grd_some h5433; clear h5433; obtain ⟨g5424, h5433⟩ := hh
          refine Wp_wkK (Wk_freeze 2 c5421 (by rfl) (by decide) (by decide)) rfl ?_
          simp -implicitDefEqProofs only [go_sem, qa, qb, qc, qd, qe, qf, qg, qh, qi, qj, qk, ↓reduceIte, h5147, h5155, g5157, h5158, g5160, g5161, g5162, h5338, g5339, g5340, g5341, h5342, g5422, g5423, g5424]
          refine W_sound tab_ok mixed 5 _ _ _ ?_
          simp -implicitDefEqProofs only [go_sem, qa, qb, qc, qd, qe, qf, qg, qh, qi, qj, qk, ↓reduceIte, h5147, h5155, g5157, h5158, g5160, g5161, g5162, h5338, g5339, g5340, g5341, h5342, g5422, g5423, g5424]
          repeat with_reducible refine ⟨by first | kernel_rfl | decide, ?_⟩
          exact cutQ _ ((Wk_le (.r (.r (.r (.r (.r (.r (.r (.r (.k (.r (.r (.r (.r (.r (.r (.r (.r (.r (.r (.r (.r .nil))))))))))))))))))))) (OLe.refl _)).trans (cmpS_ok (st' := ⟨[], [(0, .dead), (1, .dead), (2, .dead), (3, .v (.int .i64 x5146)), (4, .dead), (8, .ptr 0 0), (9, .ptr 1 0), (11, .dead), (12, .dead), (13, .dead), (14, .dead), (15, .dead), (30, .sl false 2 2 (Int.toNat (Int.tmod (IntKind.i64.wrap x5159) (IntKind.i64.wrap (x5145 + 1)))) 1), (31, .v (.int .i64 (((Int.toNat (Int.tmod (IntKind.i64.wrap x5159) (IntKind.i64.wrap (x5145 + 1)))) : Nat) : Int))), (32, .v (.int .i64 (IntKind.i64.wrap (x5335 + 1)))), (33, .dead), (37, .dead), (38, .dead), (39, .dead), (46, .dead), (59, .dead)], [(0, .p [(.int .i64 0), .nl]), (1, .r [.v (.int .i64 (IntKind.i64.wrap (1 + (Int.tmod (IntKind.i64.wrap x5156) x5144)))), .sl false 3 0 (n5336 + 1) 1]), (2, .p [(.int .u8 x5156), (.int .u8 x5159), p5150, p5151, p5152, p5153, p5154]), (3, .p (c5337 ++ [(.lst false n5420 c5421)]))], 4, []⟩) (by kernel_rfl))) ⟨n, Nat.lt_succ_self n, _, _, _, h5433, rfl⟩
      · refine W_sound tab_ok mixed 7 _ _ _ ?_
        simp -implicitDefEqProofs only [go_sem, qa, qb, qc, qd, qe, qf, qg, qh, qi, qj, qk, ↓reduceIte, h5147, h5155, g5157, h5158, g5160, g5161, g5162, h5338]
        repeat with_reducible refine ⟨by first | kernel_rfl | decide, ?_⟩
        obtain rfl := Option.some.inj h5429
        exact cutQ _ ((Wk_le (.r (.r (.r (.k (.r (.r (.r (.r (.r (.r (.r (.r (.k (.k (.k (.k (.r (.r (.r (.r (.r .nil))))))))))))))))))))) (OLe.refl _)).trans (cmpS_ok (st' := ⟨[], [(0, .dead), (1, .dead), (2, .dead), (3, .dead), (4, .dead), (8, .ptr 0 0), (9, .ptr 1 0), (11, .dead), (12, .dead), (13, .dead), (14, .dead), (15, .dead), (30, .dead), (31, .dead), (32, .dead), (33, .dead), (37, .dead), (38, .dead), (39, .dead), (46, .dead), (59, .dead)], [(0, .p [(.int .i64 0), .nl]), (1, .r [.v (.int .i64 (IntKind.i64.wrap (1 + (Int.tmod (IntKind.i64.wrap x5156) x5144)))), .sl false 2 0 n5336 1]), (2, .p c5337)], 3, []⟩) (by kernel_rfl))) ⟨_, _, rfl, rfl⟩
  · rintro _ ⟨n5425, c5426, rfl, rfl⟩
    (try dsimp only at h5430)
    refine W_sound tab_ok mixed 7 _ _ _ ?_
    simp -implicitDefEqProofs only [go_sem, qa, qb, qc, qd, qe, qf, qg, qh, qi, qj, qk, ↓reduceIte, h5147, h5155, g5157, h5158, g5160, g5161, g5162]
    repeat with_reducible refine ⟨by first | kernel_rfl | decide, ?_⟩
    have hh := grd_some h5430; clear h5430; obtain ⟨g5427, h5430⟩ := hh
    refine FinQ_wk (Wk_freeze 2 c5426 (by rfl) (by decide) (by decide)) ?_
    simp -implicitDefEqProofs only [go_sem, qa, qb, qc, qd, qe, qf, qg, qh, qi, qj, qk, ↓reduceIte, h5147, h5155, g5157, h5158, g5160, g5161, g5162, g5427]
    refine FinQ_wk (Wk_freeze 0 [(.int .i64 (IntKind.i64.wrap (1 + (Int.tmod (IntKind.i64.wrap x5156) x5144)))), (.lst false n5425 c5426)] (by rfl) (by decide) (by decide)) ?_
    simp -implicitDefEqProofs only [go_sem, qa, qb, qc, qd, qe, qf, qg, qh, qi, qj, qk, ↓reduceIte, h5147, h5155, g5157, h5158, g5160, g5161, g5162, g5427]
    obtain rfl := Option.some.inj h5430
    exact finC [(8, .v (.ipt [(.int .i64 (IntKind.i64.wrap (1 + (Int.tmod (IntKind.i64.wrap x5156) x5144)))), (.lst false n5425 c5426)]))] [(8, .v (.ipt [(.int .i64 (IntKind.i64.wrap (1 + (Int.tmod (IntKind.i64.wrap x5156) x5144)))), (.lst false n5425 c5426)]))] (by simp [leE, lk_cons]) (.cons _ _ _ _ _ (.v _ _ (.refl _)) .nil) (by rfl) (by simp [leE, lk_cons]) (by decide) (by decide) rfl (by simp only [go_sem, qa, qb, qc, qd, qe, qf, qg, qh, qi, qj, qk, ↓reduceIte, resQ_tmp, resQ_cell, resQ_nil, retD_one, retD_two, retD_three, retD_none]; try simp [R.val, retD_one, retD_two, retD_three, retD_none])
def m42 (N : Nat) (p5437 : PV) : Option (PV) :=
  getA2 p5437 fun p5439 p5440 =>
  getL p5440 fun n5442 c5443 =>
  grd (0 ≤ ((n5442 : Nat) : Int)) <|
  some (.int .u64 (IntKind.u64.wrap ((IntKind.u64.wrap (1 * 2 ^ (min n5442 64))) - 1)))
theorem c42 (N : Nat) (p5437 : PV) (r : PV)  (h : m42 N p5437 = some r) : FnP Tryd.prog 42 [p5437] r := by
  unfold m42 at h
  refine Fn_of (sz := 8) tab_ok [0, 1, 2] [.tmp 2] Tryd.func42 rfl rfl rfl (by simp) ?_
  simp only [initSt, initEnv, List.map_cons, List.map_nil, List.getD_cons_zero, List.getD_cons_succ, List.getD_nil]
  have hh := getA2_some h; clear h; obtain ⟨p5439, p5440, h5438, h⟩ := hh
  have hh := getL_some h; clear h; obtain ⟨n5442, c5443, h5441, h⟩ := hh
  have hh := grd_some h; clear h; obtain ⟨g5444, h⟩ := hh
  refine W_sound tab_ok mixed 16 _ _ _ ?_
  simp -implicitDefEqProofs only [go_sem, qa, qb, qc, qd, qe, qf, qg, qh, qi, qj, qk, ↓reduceIte, h5438, h5441, g5444]
  repeat with_reducible refine ⟨by first | kernel_rfl | decide, ?_⟩
  obtain rfl := Option.some.inj h
  exact finC [(2, .v (.int .u64 (IntKind.u64.wrap ((IntKind.u64.wrap (1 * 2 ^ (min n5442 64))) - 1))))] [(2, .v (.int .u64 (IntKind.u64.wrap ((IntKind.u64.wrap (1 * 2 ^ (min n5442 64))) - 1))))] (by simp [leE, lk_cons]) (.cons _ _ _ _ _ (.v _ _ (.refl _)) .nil) (by rfl) (by simp [leE, lk_cons]) (by decide) (by decide) rfl (by simp only [go_sem, qa, qb, qc, qd, qe, qf, qg, qh, qi, qj, qk, ↓reduceIte, resQ_tmp, resQ_cell, resQ_nil, retD_one, retD_two, retD_three, retD_none]; try simp [R.val, retD_one, retD_two, retD_three, retD_none])
def m45_L0 (N : Nat)  : Nat → Int → Nat → List PV → Option ((Nat × List PV))
  | 0, _, _, _ => none
  | n + 1, x5458, n5459, c5460 =>
    brn (x5458 != 0) (
      bnd' (m90 N x5458) fun p5462 =>
      getI .i64 p5462 fun x5465 =>
      grd ((n5459 + 1) ≤ 1099511627776) <|
      grd (List.length c5460 = n5459) <|
      m45_L0 N  n (bitsI .and .u64 x5458 (IntKind.u64.wrap (x5458 - 1))) (n5459 + 1) (c5460 ++ [(.int .i64 x5465)])) (
      some (n5459, c5460))
def m45 (N : Nat) (x5445 : Int) : Option (PV) :=
  bnd' (m45_L0 N  N x5445 0 []) fun o =>
  match o with
  | (n5468, c5469) =>
    grd (List.length c5469 = n5468) <|
    some (.lst false n5468 c5469)
theorem c45 (N : Nat) (x5445 : Int) (r : PV)  (h : m45 N x5445 = some r) : FnP Tryd.prog 45 [(.int .u64 x5445)] r := by
  unfold m45 at h
  refine Fn_of (sz := 16) tab_ok [0, 2, 3, 5] [.tmp 2] Tryd.func45 rfl rfl rfl (by simp) ?_
  simp only [initSt, initEnv, List.map_cons, List.map_nil, List.getD_cons_zero, List.getD_cons_succ, List.getD_nil]
  refine W_sound tab_ok mixed 9 _ _ _ ?_
  simp -implicitDefEqProofs only [go_sem, qa, qb, qc, qd, qe, qf, qg, qh, qi, qj, qk, ↓reduceIte]
  repeat with_reducible refine ⟨by first | kernel_rfl | decide, ?_⟩
  refine Wp_weaken (Wk_ownS 3 1 rfl (by decide) (by decide)) ?_
  simp -implicitDefEqProofs only [go_sem, qa, qb, qc, qd, qe, qf, qg, qh, qi, qj, qk, ↓reduceIte]
  have hh := bnd'_some h; clear h; obtain ⟨o5471, h5472, h5473⟩ := hh
  refine Wp_cut (fun s => ∃ n5468, ∃ c5469, (n5468, c5469) = o5471 ∧ s = ⟨[], [(0, .dead), (2, .dead), (3, .sl false 0 0 n5468 1), (5, .dead)], [(0, .p c5469)], 1, []⟩) ?_ ?_
  · refine Wp_block ?_
    refine Wp_loopG (fun n s => ∃ x5458, ∃ n5459, ∃ c5460, m45_L0 N  n x5458 n5459 c5460 = some o5471 ∧ s = ⟨[], [(0, .v (.int .u64 x5458)), (2, .dead), (3, .sl false 0 0 n5459 1), (5, .dead)], [(0, .p c5460)], 1, []⟩) N _ ((Wk_le (.r (.k (.r (.r .nil)))) (OLe.refl _)).trans (cmpS_ok rfl)) ⟨_, _, _, h5472, rfl⟩ ?_
    clear h5472
    rintro n _ ⟨x5458, n5459, c5460, h5472, rfl⟩
    cases n with
    | zero => cases h5472
    | succ n =>
      rw [m45_L0] at h5472
      have hh := brn_some h5472; clear h5472; rcases hh with ⟨h5461, h5472⟩ | ⟨h5461, h5472⟩
      · have hh := bnd'_some h5472; clear h5472; obtain ⟨p5462, h5463, h5472⟩ := hh
        refine W_sound tab_ok mixed 13 _ _ _ ?_
        simp -implicitDefEqProofs only [go_sem, qa, qb, qc, qd, qe, qf, qg, qh, qi, qj, qk, ↓reduceIte, h5461]
        repeat with_reducible refine ⟨by first | kernel_rfl | decide, ?_⟩
        refine Wp_callP (c90 N _ _ h5463) (by kernel_rfl) rfl rfl rfl rfl (by decide) ?_
        have hh := getI_some h5472; clear h5472; obtain ⟨x5465, h5464, h5472⟩ := hh
        have hh := grd_some h5472; clear h5472; obtain ⟨g5466, h5472⟩ := hh
        have hh := grd_some h5472; clear h5472; obtain ⟨g5467, h5472⟩ := hh
        refine W_sound tab_ok mixed 12 _ _ _ ?_
        simp -implicitDefEqProofs only [go_sem, qa, qb, qc, qd, qe, qf, qg, qh, qi, qj, qk, ↓reduceIte, h5461, h5464, g5466, g5467]
        repeat with_reducible refine ⟨by first | kernel_rfl | decide, ?_⟩
        exact cutQ _ ((Wk_le (.r (.r (.r (.k .nil)))) (OLe.refl _)).trans (cmpS_ok rfl)) ⟨n, Nat.lt_succ_self n, _, _, _, h5472, rfl⟩
      · refine W_sound tab_ok mixed 8 _ _ _ ?_
        simp -implicitDefEqProofs only [go_sem, qa, qb, qc, qd, qe, qf, qg, qh, qi, qj, qk, ↓reduceIte, h5461]
        repeat with_reducible refine ⟨by first | kernel_rfl | decide, ?_⟩
        obtain rfl := Option.some.inj h5472
        exact cutQ _ ((Wk_le (.k (.r (.r (.k .nil)))) (OLe.refl _)).trans (cmpS_ok rfl)) ⟨_, _, rfl, rfl⟩
  · rintro _ ⟨n5468, c5469, rfl, rfl⟩
    (try dsimp only at h5473)
    refine W_sound tab_ok mixed 7 _ _ _ ?_
    simp -implicitDefEqProofs only [go_sem, qa, qb, qc, qd, qe, qf, qg, qh, qi, qj, qk, ↓reduceIte]
    repeat with_reducible refine ⟨by first | kernel_rfl | decide, ?_⟩
    have hh := grd_some h5473; clear h5473; obtain ⟨g5470, h5473⟩ := hh
    refine FinQ_wk (Wk_freeze 0 c5469 (by rfl) (by decide) (by decide)) ?_
    simp -implicitDefEqProofs only [go_sem, qa, qb, qc, qd, qe, qf, qg, qh, qi, qj, qk, ↓reduceIte, g5470]
    obtain rfl := Option.some.inj h5473
    exact finC [(2, .v (.lst false n5468 c5469))] [(2, .v (.lst false n5468 c5469))] (by simp [leE, lk_cons]) (.cons _ _ _ _ _ (.v _ _ (.refl _)) .nil) (by rfl) (by simp [leE, lk_cons]) (by decide) (by decide) rfl (by simp only [go_sem, qa, qb, qc, qd, qe, qf, qg, qh, qi, qj, qk, ↓reduceIte, resQ_tmp, resQ_cell, resQ_nil, retD_one, retD_two, retD_three, retD_none]; try simp [R.val, retD_one, retD_two, retD_three, retD_none])
def m49_L1 (N : Nat) (n5476 : Nat) (c5477 : List PV) (x5521 : Int) (x5536 : Int) (x5543 : Int) : Nat → Int → List PV → Option (List PV)
  | 0, _, _ => none
  | n + 1, x5554, c5555 =>
    brn (decide (x5554 < 5)) (
      grd (0 ≤ x5554 ∧ x5554 < 5) <|
      grd ((Int.toNat x5554) < List.length c5555) <|
      getI .i64 (gp c5555 (Int.toNat x5554)) fun x5561 =>
      brn (x5561 == x5536) (
        grd (((Int.toNat x5554) + 1) ≤ List.length c5555) <|
        m49_L1 N n5476 c5477 x5521 x5536 x5543 n (IntKind.i64.wrap (x5554 + 1)) (List.set c5555 (Int.toNat x5554) (.int .i64 x5543))) (
        m49_L1 N n5476 c5477 x5521 x5536 x5543 n (IntKind.i64.wrap (x5554 + 1)) c5555)) (
      some c5555)
def m49_L0 (N : Nat) (n5476 : Nat) (c5477 : List PV) : Nat → Int → List PV → Option ((PV ⊕ Unit))
  | 0, _, _ => none
  | n + 1, x5521, c5522 =>
    brn (decide (x5521 < ((n5476 : Nat) : Int))) (
      grd (0 ≤ x5521 ∧ x5521 < ((n5476 : Nat) : Int)) <|
      grd (2 ≤ List.length (List.drop ((Int.toNat x5521) * 2) c5477)) <|
      getA2 (.agg (List.take 2 (List.drop ((Int.toNat x5521) * 2) c5477))) fun p5528 p5529 =>
      getI .i64 p5528 fun x5531 =>
      grd (0 ≤ x5531 ∧ x5531 < 5) <|
      grd ((Int.toNat x5531) < List.length c5522) <|
      getI .i64 (gp c5522 (Int.toNat x5531)) fun x5536 =>
      getI .i64 p5529 fun x5538 =>
      grd (0 ≤ x5538 ∧ x5538 < 5) <|
      grd ((Int.toNat x5538) < List.length c5522) <|
      getI .i64 (gp c5522 (Int.toNat x5538)) fun x5543 =>
      brn (x5536 == x5543) (
        some (.inl (.bool false))) (
        bnd' (m49_L1 N n5476 c5477 x5521 x5536 x5543 N 0 c5522) fun c5564 =>
        m49_L0 N n5476 c5477 n (IntKind.i64.wrap (x5521 + 1)) c5564)) (
      some (.inr ()))
def m49 (N : Nat) (p5474 : PV) : Option (PV) :=
  getL p5474 fun n5476 c5477 =>
  bnd' (m49_L0 N n5476 c5477 N 0 [(.int .i64 0), (.int .i64 1), (.int .i64 2), (.int .i64 3), (.int .i64 4)]) fun o =>
  match o with
  | .inl p5565 =>
    some p5565
  | .inr () =>
    some (.bool true)
theorem c49 (N : Nat) (p5474 : PV) (r : PV)  (h : m49 N p5474 = some r) : FnP Tryd.prog 49 [p5474] r := by
  unfold m49 at h
  refine Fn_of (sz := 46) tab_ok [0, 2, 3, 5, 6, 7, 8, 9, 11, 12, 13, 14, 29, 30, 31, 32, 33, 39] [.tmp 2] Tryd.func49 rfl rfl rfl (by simp) ?_
  simp only [initSt, initEnv, List.map_cons, List.map_nil, List.getD_cons_zero, List.getD_cons_succ, List.getD_nil]
  have hh := getL_some h; clear h; obtain ⟨n5476, c5477, h5475, h⟩ := hh
  refine W_sound tab_ok mixed 16 _ _ _ ?_
  simp -implicitDefEqProofs only [go_sem, qa, qb, qc, qd, qe, qf, qg, qh, qi, qj, qk, ↓reduceIte, h5475]
  repeat with_reducible refine ⟨by first | kernel_rfl | decide, ?_⟩
  have hh := bnd'_some h; clear h; obtain ⟨o5566, h5567, h5568⟩ := hh
  refine Wp_cut (fun s => (.inr ()) = o5566 ∧ s = ⟨[], [(0, .dead), (2, .dead), (3, .dead), (5, .dead), (6, .dead), (7, .dead), (8, .dead), (9, .dead), (11, .dead), (12, .dead), (13, .dead), (14, .dead), (29, .dead), (30, .dead), (31, .dead), (32, .dead), (33, .dead), (39, .dead)], [], 0, []⟩) ?_ ?_
  · refine Wp_block ?_
    refine Wp_loopG (fun n s => ∃ x5521, ∃ c5522, m49_L0 N n5476 c5477 n x5521 c5522 = some o5566 ∧ s = ⟨[], [(0, .dead), (2, .dead), (3, .sl true 0 0 5 1), (5, .dead), (6, .dead), (7, .dead), (8, .dead), (9, .dead), (11, .v (.lst false n5476 c5477)), (12, .v (.int .i64 ((n5476 : Nat) : Int))), (13, .v (.int .i64 x5521)), (14, .dead), (29, .dead), (30, .dead), (31, .dead), (32, .dead), (33, .dead), (39, .dead)], [(0, .p c5522)], 1, []⟩) N _ ((Wk_le (.k (.k (.r (.r (.r (.r (.r (.r (.r (.r (.r (.r (.r (.r (.r (.r (.r (.r .nil)))))))))))))))))) (OLe.refl _)).trans (cmpS_ok (st' := ⟨[], [(0, .dead), (2, .dead), (3, .sl true 0 0 5 1), (5, .dead), (6, .dead), (7, .dead), (8, .dead), (9, .dead), (11, .v (.lst false n5476 c5477)), (12, .v (.int .i64 ((n5476 : Nat) : Int))), (13, .v (.int .i64 0)), (14, .dead), (29, .dead), (30, .dead), (31, .dead), (32, .dead), (33, .dead), (39, .dead)], [(0, .p [(.int .i64 0), (.int .i64 1), (.int .i64 2), (.int .i64 3), (.int .i64 4)])], 1, []⟩) (by kernel_rfl))) ⟨_, _, h5567, rfl⟩ ?_
    clear h5567
    rintro n _ ⟨x5521, c5522, h5567, rfl⟩
    cases n with
    | zero => cases h5567
    | succ n =>
      rw [m49_L0] at h5567
      have hh := brn_some h5567; clear h5567; rcases hh with ⟨h5523, h5567⟩ | ⟨h5523, h5567⟩
      · have hh := grd_some h5567; clear h5567; obtain ⟨⟨g5524, g5525⟩, h5567⟩ := hh
        have hh := grd_some h5567; clear h5567; obtain ⟨g5526, h5567⟩ := hh
        have hh := getA2_some h5567; clear h5567; obtain ⟨p5528, p5529, h5527, h5567⟩ := hh
        injection h5527 with h5527
        have hh := getI_some h5567; clear h5567; obtain ⟨x5531, h5530, h5567⟩ := hh
        have hh := grd_some h5567; clear h5567; obtain ⟨⟨g5532, g5533⟩, h5567⟩ := hh
        have hh := grd_some h5567; clear h5567; obtain ⟨g5534, h5567⟩ := hh
        have hh := getI_some h5567; clear h5567; obtain ⟨x5536, h5535, h5567⟩ := hh
        have hh := getI_some h5567; clear h5567; obtain ⟨x5538, h5537, h5567⟩ := hh
        have hh := grd_some h5567; clear h5567; obtain ⟨⟨g5539, g5540⟩, h5567⟩ := hh
        have hh := grd_some h5567; clear h5567; obtain ⟨g5541, h5567⟩ := hh
        have hh := getI_some h5567; clear h5567; obtain ⟨x5543, h5542, h5567⟩ := hh
        have hh := brn_some h5567; clear h5567; rcases hh with ⟨h5544, h5567⟩ | ⟨h5544, h5567⟩
        · refine W_sound tab_ok mixed 45 _ _ _ ?_
          simp -implicitDefEqProofs only [go_sem, qa, qb, qc, qd, qe, qf, qg, qh, qi, qj, qk, ↓reduceIte, h5475, h5523, g5524, g5525, g5526, h5527, h5530, g5532, g5533, g5534, h5535, h5537, g5539, g5540, g5541, h5542, h5544]
          repeat with_reducible refine ⟨by first | kernel_rfl | decide, ?_⟩
          obtain rfl := Option.some.inj h5567
          (try dsimp only at h5568)
          obtain rfl := Option.some.inj h5568
          exact finC [(2, .v (.bool false))] [(2, .v (.bool false))] (by simp [leE, lk_cons]) (.cons _ _ _ _ _ (.v _ _ (.refl _)) .nil) (by rfl) (by simp [leE, lk_cons]) (by decide) (by decide) rfl (by simp only [go_sem, qa, qb, qc, qd, qe, qf, qg, qh, qi, qj, qk, ↓reduceIte, resQ_tmp, resQ_cell, resQ_nil, retD_one, retD_two, retD_three, retD_none]; try simp [R.val, retD_one, retD_two, retD_three, retD_none])
        · refine W_sound tab_ok mixed 46 _ _ _ ?_
          simp -implicitDefEqProofs only [go_sem, qa, qb, qc, qd, qe, qf, qg, qh, qi, qj, qk, ↓reduceIte, h5475, h5523, g5524, g5525, g5526, h5527, h5530, g5532, g5533, g5534, h5535, h5537, g5539, g5540, g5541, h5542, h5544]
          repeat with_reducible refine ⟨by first | kernel_rfl | decide, ?_⟩
          have hh := bnd'_some h5567; clear h5567; obtain ⟨o5569, h5570, h5571⟩ := hh
          refine Wp_cut (fun s => ∃ c5564, c5564 = o5569 ∧ s = ⟨[], [(0, .dead), (2, .dead), (3, .sl true 0 0 5 1), (5, .dead), (6, .dead), (7, .dead), (8, .dead), (9, .dead), (11, .v (.lst false n5476 c5477)), (12, .v (.int .i64 ((n5476 : Nat) : Int))), (13, .v (.int .i64 x5521)), (14, .dead), (29, .dead), (30, .dead), (31, .dead), (32, .dead), (33, .dead), (39, .dead)], [(0, .p c5564)], 1, []⟩) ?_ ?_
          · refine Wp_block ?_
            refine Wp_loopG (fun n s => ∃ x5554, ∃ c5555, m49_L1 N n5476 c5477 x5521 x5536 x5543 n x5554 c5555 = some o5569 ∧ s = ⟨[], [(0, .dead), (2, .dead), (3, .sl true 0 0 5 1), (5, .dead), (6, .v (.int .i64 x5536)), (7, .v (.int .i64 x5543)), (8, .dead), (9, .dead), (11, .v (.lst false n5476 c5477)), (12, .v (.int .i64 ((n5476 : Nat) : Int))), (13, .v (.int .i64 x5521)), (14, .dead), (29, .dead), (30, .sl true 0 0 5 1), (31, .v (.int .i64 5)), (32, .v (.int .i64 x5554)), (33, .dead), (39, .dead)], [(0, .p c5555)], 1, []⟩) N _ ((Wk_le (.r (.r (.r (.k (.r (.r (.r (.r (.r (.r (.r (.k (.k (.r (.r (.r (.r (.r .nil)))))))))))))))))) (OLe.refl _)).trans (cmpS_ok (st' := ⟨[], [(0, .dead), (2, .dead), (3, .sl true 0 0 5 1), (5, .dead), (6, .v (.int .i64 x5536)), (7, .v (.int .i64 x5543)), (8, .dead), (9, .dead), (11, .v (.lst false n5476 c5477)), (12, .v (.int .i64 ((n5476 : Nat) : Int))), (13, .v (.int .i64 x5521)), (14, .dead), (29, .dead), (30, .sl true 0 0 5 1), (31, .v (.int .i64 5)), (32, .v (.int .i64 0)), (33, .dead), (39, .dead)], [(0, .p c5522)], 1, []⟩) (by kernel_rfl))) ⟨_, _, h5570, rfl⟩ ?_
            clear h5570
            rintro n _ ⟨x5554, c5555, h5570, rfl⟩
            cases n with
            | zero => cases h5570
            | succ n =>
              rw [m49_L1] at h5570
              have hh := brn_some h5570; clear h5570; rcases hh with ⟨h5556, h5570⟩ | ⟨h5556, h5570⟩
              · have hh := grd_some h5570; clear h5570; obtain ⟨⟨g5557, g5558⟩, h5570⟩ := hh
                have hh := grd_some h5570; clear h5570; obtain ⟨g5559, h5570⟩ := hh
                have hh := getI_some h5570; clear h5570; obtain ⟨x5561, h5560, h5570⟩ := hh
                have hh := brn_some h5570; clear h5570; rcases hh with ⟨h5562, h5570⟩ | ⟨h5562, h5570⟩
                · have hh := grd_some h5570; clear h5570; obtain ⟨g5563, h5570⟩ := hh
                  refine W_sound tab_ok mixed 36 _ _ _ ?_
                  simp -implicitDefEqProofs only [go_sem, qa, qb, qc, qd, qe, qf, qg, qh, qi, qj, qk, ↓reduceIte, h5475, h5523, g5524, g5525, g5526, h5527, h5530, g5532, g5533, g5534, h5535, h5537, g5539, g5540, g5541, h5542, h5544, h5556, g5557, g5558, g5559, h5560, h5562, g5563]
                  repeat with_reducible refine ⟨by first | kernel_rfl | decide, ?_⟩
                  exact cutQ _ ((Wk_le (.r (.r (.r (.r (.r (.r (.k (.k (.r (.r (.r (.r (.r (.r (.r (.r (.k (.k .nil)))))))))))))))))) (OLe.refl _)).trans (cmpS_ok (st' := ⟨[], [(0, .dead), (2, .dead), (3, .sl true 0 0 5 1), (5, .dead), (6, .v (.int .i64 x5536)), (7, .v (.int .i64 x5543)), (8, .dead), (9, .dead), (11, .v (.lst false n5476 c5477)), (12, .v (.int .i64 ((n5476 : Nat) : Int))), (13, .v (.int .i64 x5521)), (14, .dead), (29, .dead), (30, .sl true 0 0 5 1), (31, .v (.int .i64 5)), (32, .v (.int .i64 (IntKind.i64.wrap (x5554 + 1)))), (33, .dead), (39, .dead)], [(0, .p (List.set c5555 (Int.toNat x5554) (.int .i64 x5543)))], 1, []⟩) (by kernel_rfl))) ⟨n, Nat.lt_succ_self n, _, _, h5570, rfl⟩
                · refine W_sound tab_ok mixed 30 _ _ _ ?_
                  simp -implicitDefEqProofs only [go_sem, qa, qb, qc, qd, qe, qf, qg, qh, qi, qj, qk, ↓reduceIte, h5475, h5523, g5524, g5525, g5526, h5527, h5530, g5532, g5533, g5534, h5535, h5537, g5539, g5540, g5541, h5542, h5544, h5556, g5557, g5558, g5559, h5560, h5562]
                  repeat with_reducible refine ⟨by first | kernel_rfl | decide, ?_⟩
                  exact cutQ _ ((Wk_le (.r (.r (.r (.r (.r (.r (.k (.k (.r (.r (.r (.r (.r (.r (.r (.r (.k (.k .nil)))))))))))))))))) (OLe.refl _)).trans (cmpS_ok (st' := ⟨[], [(0, .dead), (2, .dead), (3, .sl true 0 0 5 1), (5, .dead), (6, .v (.int .i64 x5536)), (7, .v (.int .i64 x5543)), (8, .dead), (9, .dead), (11, .v (.lst false n5476 c5477)), (12, .v (.int .i64 ((n5476 : Nat) : Int))), (13, .v (.int .i64 x5521)), (14, .dead), (29, .dead), (30, .sl true 0 0 5 1), (31, .v (.int .i64 5)), (32, .v (.int .i64 (IntKind.i64.wrap (x5554 + 1)))), (33, .dead), (39, .dead)], [(0, .p c5555)], 1, []⟩) (by kernel_rfl))) ⟨n, Nat.lt_succ_self n, _, _, h5570, rfl⟩
              · refine W_sound tab_ok mixed 7 _ _ _ ?_
                simp -implicitDefEqProofs only [go_sem, qa, qb, qc, qd, qe, qf, qg, qh, qi, qj, qk, ↓reduceIte, h5475, h5523, g5524, g5525, g5526, h5527, h5530, g5532, g5533, g5534, h5535, h5537, g5539, g5540, g5541, h5542, h5544, h5556]
                repeat with_reducible refine ⟨by first | kernel_rfl | decide, ?_⟩
                obtain rfl := Option.some.inj h5570
                exact cutQ _ ((Wk_le (.r (.r (.r (.r (.k (.k (.r (.r (.r (.r (.r (.r (.r (.k (.k (.k (.k (.r .nil)))))))))))))))))) (OLe.refl _)).trans (cmpS_ok (st' := ⟨[], [(0, .dead), (2, .dead), (3, .sl true 0 0 5 1), (5, .dead), (6, .dead), (7, .dead), (8, .dead), (9, .dead), (11, .v (.lst false n5476 c5477)), (12, .v (.int .i64 ((n5476 : Nat) : Int))), (13, .v (.int .i64 x5521)), (14, .dead), (29, .dead), (30, .dead), (31, .dead), (32, .dead), (33, .dead), (39, .dead)], [(0, .p c5555)], 1, []⟩) (by kernel_rfl))) ⟨_, rfl, rfl⟩
          · rintro _ ⟨c5564, rfl, rfl⟩
            refine W_sound tab_ok mixed 5 _ _ _ ?_
            simp -implicitDefEqProofs only [go_sem, qa, qb, qc, qd, qe, qf, qg, qh, qi, qj, qk, ↓reduceIte, h5475, h5523, g5524, g5525, g5526, h5527, h5530, g5532, g5533, g5534, h5535, h5537, g5539, g5540, g5541, h5542, h5544]
            repeat with_reducible refine ⟨by first | kernel_rfl | decide, ?_⟩
            exact cutQ _ ((Wk_le (.r (.r (.r (.r (.r (.r (.r (.r (.r (.r (.r (.r (.r (.r (.r (.r (.r (.r .nil)))))))))))))))))) (OLe.refl _)).trans (cmpS_ok (st' := ⟨[], [(0, .dead), (2, .dead), (3, .sl true 0 0 5 1), (5, .dead), (6, .dead), (7, .dead), (8, .dead), (9, .dead), (11, .v (.lst false n5476 c5477)), (12, .v (.int .i64 ((n5476 : Nat) : Int))), (13, .v (.int .i64 (IntKind.i64.wrap (x5521 + 1)))), (14, .dead), (29, .dead), (30, .dead), (31, .dead), (32, .dead), (33, .dead), (39, .dead)], [(0, .p c5564)], 1, []⟩) (by kernel_rfl))) ⟨n, Nat.lt_succ_self n, _, _, h5571, rfl⟩
      · refine W_sound tab_ok mixed 7 _ _ _ ?_
        simp -implicitDefEqProofs only [go_sem, qa, qb, qc, qd, qe, qf, qg, qh, qi, qj, qk, ↓reduceIte, h5475, h5523]
        repeat with_reducible refine ⟨by first | kernel_rfl | decide, ?_⟩
        obtain rfl := Option.some.inj h5567
        exact cutQ _ ((Wk_le (.r (.r (.k (.r (.r (.r (.r (.r (.k (.k (.k (.k (.r (.r (.r (.r (.r (.r .nil)))))))))))))))))) (OLe.refl _)).trans (cmpS_ok (st' := ⟨[], [(0, .dead), (2, .dead), (3, .dead), (5, .dead), (6, .dead), (7, .dead), (8, .dead), (9, .dead), (11, .dead), (12, .dead), (13, .dead), (14, .dead), (29, .dead), (30, .dead), (31, .dead), (32, .dead), (33, .dead), (39, .dead)], [], 0, []⟩) (by kernel_rfl))) ⟨rfl, rfl⟩
  · rintro _ ⟨rfl, rfl⟩
    (try dsimp only at h5568)
    refine W_sound tab_ok mixed 6 _ _ _ ?_
    simp -implicitDefEqProofs only [go_sem, qa, qb, qc, qd, qe, qf, qg, qh, qi, qj, qk, ↓reduceIte, h5475]
    repeat with_reducible refine ⟨by first | kernel_rfl | decide, ?_⟩
    obtain rfl := Option.some.inj h5568
    exact finC [(2, .v (.bool true))] [(2, .v (.bool true))] (by simp [leE, lk_cons]) (.cons _ _ _ _ _ (.v _ _ (.refl _)) .nil) (by rfl) (by simp [leE, lk_cons]) (by decide) (by decide) rfl (by simp only [go_sem, qa, qb, qc, qd, qe, qf, qg, qh, qi, qj, qk, ↓reduceIte, resQ_tmp, resQ_cell, resQ_nil, retD_one, retD_two, retD_three, retD_none]; try simp [R.val, retD_one, retD_two, retD_three, retD_none])
def m67_2_L0 (N : Nat) (n5860 : Nat) (c5861 : List PV) (p5863 : PV) (n5871 : Nat) (c5872 : List PV) : Nat → Nat → Int → List PV → Option ((PV ⊕ (Nat × List PV)))
  | 0, _, _, _ => none
  | n + 1, n5914, x5915, c5916 =>
    brn (decide (x5915 < ((n5860 : Nat) : Int))) (
      grd (0 ≤ x5915 ∧ x5915 < ((n5860 : Nat) : Int)) <|
      grd ((Int.toNat x5915) < List.length c5861) <|
      getI .i64 (gp c5861 (Int.toNat x5915)) fun x5922 =>
      brn (decide (x5922 < 0)) (
        some (.inl (.tup [(.lst false 0 []), (.int .i64 2)]))) (
        grd (x5915 < ((n5871 : Nat) : Int)) <|
        grd (0 < List.length (List.drop (Int.toNat x5915) c5872)) <|
        getL (gp c5872 (Int.toNat x5915)) fun n5927 c5928 =>
        brn (decide (x5922 ≥ ((n5927 : Nat) : Int))) (
          some (.inl (.tup [(.lst false 0 []), (.int .i64 2)]))) (
          grd (0 ≤ x5922 ∧ x5922 < ((n5927 : Nat) : Int)) <|
          grd (2 ≤ List.length (List.drop ((Int.toNat x5922) * 2) c5928)) <|
          getA2 (.agg (List.take 2 (List.drop ((Int.toNat x5922) * 2) c5928))) fun p5934 p5935 =>
          grd ((n5914 + 1) ≤ 1099511627776) <|
          grd (List.length c5916 = (n5914 * 2)) <|
          m67_2_L0 N n5860 c5861 p5863 n5871 c5872 n (n5914 + 1) (IntKind.i64.wrap (x5915 + 1)) (c5916 ++ [p5934, p5935])))) (
      some (.inr (n5914, c5916)))
def m67_2 (N : Nat) (p5859 : PV) (n5860 : Nat) (c5861 : List PV) : Option (PV) :=
  getA2 p5859 fun p5863 p5864 =>
  bnd' (m22 N (.agg [p5863, p5864])) fun p5865 =>
  getI .i64 p5865 fun x5868 =>
  brn (x5868 != 0) (
    some (.tup [(.lst false 0 []), (.int .i64 x5868)])) (
    getL p5864 fun n5871 c5872 =>
    brn (((n5860 : Nat) : Int) != ((n5871 : Nat) : Int)) (
      some (.tup [(.lst false 0 []), (.int .i64 5)])) (
      bnd' (m67_2_L0 N n5860 c5861 p5863 n5871 c5872 N 0 0 []) fun o =>
      match o with
      | .inl p5938 =>
        some p5938
      | .inr (n5939, c5940) =>
        grd (List.length c5940 = (n5939 * 2)) <|
        some (.tup [(.lst false n5939 c5940), (.int .i64 0)])))
theorem c67_2 (N : Nat) (p5859 : PV) (n5860 : Nat) (c5861 : List PV) (r : PV)  (h : m67_2 N p5859 n5860 c5861 = some r) : V.Fn Tryd.prog 67 1 [.v p5859, .sl false 0 0 n5860 1] [(0, .p c5861)] (fun d ob' => d = .v r ∧ ob' = [(0, .p c5861)]) := by
  unfold m67_2 at h
  refine Fn_of (sz := 55) tab_ok [0, 1, 2, 4, 5, 6, 7, 8, 9, 12, 16, 23, 24, 25, 26, 41] [.tmp 4, .tmp 5] Tryd.func67 rfl rfl rfl (by simp) ?_
  simp only [initSt, initEnv, List.map_cons, List.map_nil, List.getD_cons_zero, List.getD_cons_succ, List.getD_nil]
  have hh := getA2_some h; clear h; obtain ⟨p5863, p5864, h5862, h⟩ := hh
  have hh := bnd'_some h; clear h; obtain ⟨p5865, h5866, h⟩ := hh
  refine W_sound tab_ok mixed 9 _ _ _ ?_
  simp -implicitDefEqProofs only [go_sem, qa, qb, qc, qd, qe, qf, qg, qh, qi, qj, qk, ↓reduceIte, h5862]
  repeat with_reducible refine ⟨by first | kernel_rfl | decide, ?_⟩
  refine Wp_callP (c22 N _ _ h5866) (by kernel_rfl) rfl rfl rfl rfl (by decide) ?_
  have hh := getI_some h; clear h; obtain ⟨x5868, h5867, h⟩ := hh
  have hh := brn_some h; clear h; rcases hh with ⟨h5869, h⟩ | ⟨h5869, h⟩
  · refine W_sound tab_ok mixed 19 _ _ _ ?_
    simp -implicitDefEqProofs only [go_sem, qa, qb, qc, qd, qe, qf, qg, qh, qi, qj, qk, ↓reduceIte, h5862, h5867, h5869]
    repeat with_reducible refine ⟨by first | kernel_rfl | decide, ?_⟩
    obtain rfl := Option.some.inj h
    exact finD (e2 := [(0, .dead), (1, .dead), (2, .dead), (4, .v (.lst false 0 [])), (5, .v (.int .i64 x5868)), (6, .dead), (7, .dead), (8, .dead), (9, .dead), (12, .dead), (16, .dead), (23, .dead), (24, .dead), (25, .dead), (26, .dead), (41, .dead)]) (ob2 := [(0, .p c5861), (3, .p [p5863, p5864])]) (st' := ⟨[], [(0, .dead), (1, .dead), (2, .dead), (4, .v (.lst false 0 [])), (5, .v (.int .i64 x5868)), (6, .dead), (7, .dead), (8, .dead), (9, .dead), (12, .dead), (16, .dead), (23, .dead), (24, .dead), (25, .dead), (26, .dead), (41, .dead)], [(0, .p c5861)], 1, []⟩) (.k (.k (.k (.cons _ _ _ _ _ (.v _ _ (.nl false)) (.r (.k (.r (.r (.r (.k (.r (.r (.r (.r (.r (.r .nil)))))))))))))))) (.cons _ _ _ _ _ (DLes.refl _) (.cons _ _ _ _ _ (DLes.refl _) .nil)) (by kernel_rfl) (by simp only [go_sem, qa, qb, qc, qd, qe, qf, qg, qh, qi, qj, qk, ↓reduceIte, resQ_tmp, resQ_cell, resQ_nil, retD_one, retD_two, retD_three, retD_none]; try simp [R.val, retD_one, retD_two, retD_three, retD_none])
  · have hh := getL_some h; clear h; obtain ⟨n5871, c5872, h5870, h⟩ := hh
    have hh := brn_some h; clear h; rcases hh with ⟨h5873, h⟩ | ⟨h5873, h⟩
    · refine W_sound tab_ok mixed 29 _ _ _ ?_
      simp -implicitDefEqProofs only [go_sem, qa, qb, qc, qd, qe, qf, qg, qh, qi, qj, qk, ↓reduceIte, h5862, h5867, h5869, h5870, h5873]
      repeat with_reducible refine ⟨by first | kernel_rfl | decide, ?_⟩
      obtain rfl := Option.some.inj h
      exact finD (e2 := [(0, .dead), (1, .dead), (2, .dead), (4, .v (.lst false 0 [])), (5, .v (.int .i64 5)), (6, .dead), (7, .dead), (8, .dead), (9, .dead), (12, .dead), (16, .dead), (23, .dead), (24, .dead), (25, .dead), (26, .dead), (41, .dead)]) (ob2 := [(0, .p c5861), (3, .p [p5863, (.lst false n5871 c5872)])]) (st' := ⟨[], [(0, .dead), (1, .dead), (2, .dead), (4, .v (.lst false 0 [])), (5, .v (.int .i64 5)), (6, .dead), (7, .dead), (8, .dead), (9, .dead), (12, .dead), (16, .dead), (23, .dead), (24, .dead), (25, .dead), (26, .dead), (41, .dead)], [(0, .p c5861)], 1, []⟩) (.k (.k (.k (.cons _ _ _ _ _ (.v _ _ (.nl false)) (.r (.k (.r (.r (.r (.k (.k (.r (.r (.r (.r (.r .nil)))))))))))))))) (.cons _ _ _ _ _ (DLes.refl _) (.cons _ _ _ _ _ (DLes.refl _) .nil)) (by kernel_rfl) (by simp only [go_sem, qa, qb, qc, qd, qe, qf, qg, qh, qi, qj, qk, ↓reduceIte, resQ_tmp, resQ_cell, resQ_nil, retD_one, retD_two, retD_three, retD_none]; try simp [R.val, retD_one, retD_two, retD_three, retD_none])
    · refine W_sound tab_ok mixed 35 _ _ _ ?_
      simp -implicitDefEqProofs only [go_sem, qa, qb, qc, qd, qe, qf, qg, qh, qi, qj, qk, ↓reduceIte, h5862, h5867, h5869, h5870, h5873]
      repeat with_reducible refine ⟨by first | kernel_rfl | decide, ?_⟩
      refine Wp_weaken (Wk_ownS 7 2 rfl (by decide) (by decide)) ?_
      simp -implicitDefEqProofs only [go_sem, qa, qb, qc, qd, qe, qf, qg, qh, qi, qj, qk, ↓reduceIte, h5862, h5867, h5869, h5870, h5873]
      have hh := bnd'_some h; clear h; obtain ⟨o5942, h5943, h5944⟩ := hh
      refine Wp_cut (fun s => ∃ n5939, ∃ c5940, (.inr (n5939, c5940)) = o5942 ∧ s = ⟨[], [(0, .dead), (1, .dead), (2, .dead), (4, .dead), (5, .dead), (6, .dead), (7, .sl false 1 0 n5939 2), (8, .dead), (9, .dead), (12, .dead), (16, .dead), (23, .dead), (24, .dead), (25, .dead), (26, .dead), (41, .dead)], [(0, .p c5861), (1, .p c5940)], 2, []⟩) ?_ ?_
      · refine Wp_block ?_
        refine Wp_loopG (fun n s => ∃ n5914, ∃ x5915, ∃ c5916, m67_2_L0 N n5860 c5861 p5863 n5871 c5872 n n5914 x5915 c5916 = some o5942 ∧ s = ⟨[], [(0, .dead), (1, .dead), (2, .ptr 1 0), (4, .dead), (5, .dead), (6, .dead), (7, .sl false 2 0 n5914 2), (8, .dead), (9, .dead), (12, .dead), (16, .dead), (23, .sl false 0 0 n5860 1), (24, .v (.int .i64 ((n5860 : Nat) : Int))), (25, .v (.int .i64 x5915)), (26, .dead), (41, .dead)], [(0, .p c5861), (1, .p [p5863, (.lst false n5871 c5872)]), (2, .p c5916)], 3, []⟩) N _ ((Wk_le (.k (.k (.r (.k (.k (.k (.r (.r (.r (.k (.k (.r (.r (.r (.r (.r .nil)))))))))))))))) (OLe.refl _)).trans (cmpS_ok (st' := ⟨[], [(0, .dead), (1, .dead), (2, .ptr 1 0), (4, .dead), (5, .dead), (6, .dead), (7, .sl false 2 0 0 2), (8, .dead), (9, .dead), (12, .dead), (16, .dead), (23, .sl false 0 0 n5860 1), (24, .v (.int .i64 ((n5860 : Nat) : Int))), (25, .v (.int .i64 0)), (26, .dead), (41, .dead)], [(0, .p c5861), (1, .p [p5863, (.lst false n5871 c5872)]), (2, .p [])], 3, []⟩) (by kernel_rfl))) ⟨_, _, _, h5943, rfl⟩ ?_
        clear h5943
        rintro n _ ⟨n5914, x5915, c5916, h5943, rfl⟩
        cases n with
        | zero => cases h5943
        | succ n =>
          rw [m67_2_L0] at h5943
          have hh := brn_some h5943; clear h5943; rcases hh with ⟨h5917, h5943⟩ | ⟨h5917, h5943⟩
          · have hh := grd_some h5943; clear h5943; obtain ⟨⟨g5918, g5919⟩, h5943⟩ := hh
            have hh := grd_some h5943; clear h5943; obtain ⟨g5920, h5943⟩ := hh
            have hh := getI_some h5943; clear h5943; obtain ⟨x5922, h5921, h5943⟩ := hh
            have hh := brn_some h5943; clear h5943; rcases hh with ⟨h5923, h5943⟩ | ⟨h5923, h5943⟩
            · refine W_sound tab_ok mixed 41 _ _ _ ?_
              simp -implicitDefEqProofs only [go_sem, qa, qb, qc, qd, qe, qf, qg, qh, qi, qj, qk, ↓reduceIte, h5862, h5867, h5869, h5870, h5873, h5917, g5918, g5919, g5920, h5921, h5923]
              repeat with_reducible refine ⟨by first | kernel_rfl | decide, ?_⟩
              obtain rfl := Option.some.inj h5943
              (try dsimp only at h5944)
              obtain rfl := Option.some.inj h5944
              exact finD (e2 := [(0, .dead), (1, .dead), (2, .dead), (4, .v (.lst false 0 [])), (5, .v (.int .i64 2)), (6, .dead), (7, .dead), (8, .dead), (9, .dead), (12, .dead), (16, .dead), (23, .dead), (24, .dead), (25, .dead), (26, .dead), (41, .dead)]) (ob2 := [(0, .p c5861), (1, .p [p5863, (.lst false n5871 c5872)]), (2, .p c5916)]) (st' := ⟨[], [(0, .dead), (1, .dead), (2, .dead), (4, .v (.lst false 0 [])), (5, .v (.int .i64 2)), (6, .dead), (7, .dead), (8, .dead), (9, .dead), (12, .dead), (16, .dead), (23, .dead), (24, .dead), (25, .dead), (26, .dead), (41, .dead)], [(0, .p c5861)], 1, []⟩) (.r (.r (.k (.cons _ _ _ _ _ (.v _ _ (.nl false)) (.r (.r (.k (.k (.k (.r (.r (.k (.k (.k (.k (.k .nil)))))))))))))))) (.cons _ _ _ _ _ (DLes.refl _) (.cons _ _ _ _ _ (DLes.refl _) (.cons _ _ _ _ _ (DLes.refl _) .nil))) (by kernel_rfl) (by simp only [go_sem, qa, qb, qc, qd, qe, qf, qg, qh, qi, qj, qk, ↓reduceIte, resQ_tmp, resQ_cell, resQ_nil, retD_one, retD_two, retD_three, retD_none]; try simp [R.val, retD_one, retD_two, retD_three, retD_none])
            · have hh := grd_some h5943; clear h5943; obtain ⟨g5924, h5943⟩ := hh
              have hh := grd_some h5943; clear h5943; obtain ⟨g5925, h5943⟩ := hh
              have hh := getL_some h5943; clear h5943; obtain ⟨n5927, c5928, h5926, h5943⟩ := hh
              have hh := brn_some h5943; clear h5943; rcases hh with ⟨h5929, h5943⟩ | ⟨h5929, h5943⟩
              · refine W_sound tab_ok mixed 41 _ _ _ ?_
                simp -implicitDefEqProofs only [go_sem, qa, qb, qc, qd, qe, qf, qg, qh, qi, qj, qk, ↓reduceIte, h5862, h5867, h5869, h5870, h5873, h5917, g5918, g5919, g5920, h5921, h5923, g5924, g5925, h5926, h5929]
                repeat with_reducible refine ⟨by first | kernel_rfl | decide, ?_⟩
                obtain rfl := Option.some.inj h5943
                (try dsimp only at h5944)
                obtain rfl := Option.some.inj h5944
                exact finD (e2 := [(0, .dead), (1, .dead), (2, .dead), (4, .v (.lst false 0 [])), (5, .v (.int .i64 2)), (6, .dead), (7, .dead), (8, .dead), (9, .dead), (12, .dead), (16, .dead), (23, .dead), (24, .dead), (25, .dead), (26, .dead), (41, .dead)]) (ob2 := [(0, .p c5861), (1, .p [p5863, (.lst false n5871 c5872)]), (2, .p c5916)]) (st' := ⟨[], [(0, .dead), (1, .dead), (2, .dead), (4, .v (.lst false 0 [])), (5, .v (.int .i64 2)), (6, .dead), (7, .dead), (8, .dead), (9, .dead), (12, .dead), (16, .dead), (23, .dead), (24, .dead), (25, .dead), (26, .dead), (41, .dead)], [(0, .p c5861)], 1, []⟩) (.r (.r (.k (.cons _ _ _ _ _ (.v _ _ (.nl false)) (.r (.r (.k (.k (.k (.r (.r (.k (.k (.k (.k (.k .nil)))))))))))))))) (.cons _ _ _ _ _ (DLes.refl _) (.cons _ _ _ _ _ (DLes.refl _) (.cons _ _ _ _ _ (DLes.refl _) .nil))) (by kernel_rfl) (by simp only [go_sem, qa, qb, qc, qd, qe, qf, qg, qh, qi, qj, qk, ↓reduceIte, resQ_tmp, resQ_cell, resQ_nil, retD_one, retD_two, retD_three, retD_none]; try simp [R.val, retD_one, retD_two, retD_three, retD_none])
              · have hh := grd_some h5943; clear h5943; obtain ⟨⟨g5930, g5931⟩, h5943⟩ := hh
                have hh := grd_some h5943; clear h5943; obtain ⟨g5932, h5943⟩ := hh
                have hh := getA2_some h5943; clear h5943; obtain ⟨p5934, p5935, h5933, h5943⟩ := hh
                injection h5933 with h5933
                have hh := grd_some h5943; clear h5943; obtain ⟨g5936, h5943⟩ := hh
                have hh := grd_some h5943; clear h5943; obtain ⟨g5937, h5943⟩ := hh
                refine W_sound tab_ok mixed 54 _ _ _ ?_
                simp -implicitDefEqProofs only [go_sem, qa, qb, qc, qd, qe, qf, qg, qh, qi, qj, qk, ↓reduceIte, h5862, h5867, h5869, h5870, h5873, h5917, g5918, g5919, g5920, h5921, h5923, g5924, g5925, h5926, h5929, g5930, g5931, g5932, h5933, g5936, g5937]
                repeat with_reducible refine ⟨by first | kernel_rfl | decide, ?_⟩
                exact cutQ _ ((Wk_le (.r (.r (.r (.r (.r (.r (.r (.k (.k (.r (.r (.r (.r (.r (.k (.k .nil)))))))))))))))) (OLe.refl _)).trans (cmpS_ok (st' := ⟨[], [(0, .dead), (1, .dead), (2, .ptr 1 0), (4, .dead), (5, .dead), (6, .dead), (7, .sl false 2 0 (n5914 + 1) 2), (8, .dead), (9, .dead), (12, .dead), (16, .dead), (23, .sl false 0 0 n5860 1), (24, .v (.int .i64 ((n5860 : Nat) : Int))), (25, .v (.int .i64 (IntKind.i64.wrap (x5915 + 1)))), (26, .dead), (41, .dead)], [(0, .p c5861), (1, .p [p5863, (.lst false n5871 c5872)]), (2, .p (c5916 ++ [p5934, p5935]))], 3, []⟩) (by kernel_rfl))) ⟨n, Nat.lt_succ_self n, _, _, _, h5943, rfl⟩
          · refine W_sound tab_ok mixed 7 _ _ _ ?_
            simp -implicitDefEqProofs only [go_sem, qa, qb, qc, qd, qe, qf, qg, qh, qi, qj, qk, ↓reduceIte, h5862, h5867, h5869, h5870, h5873, h5917]
            repeat with_reducible refine ⟨by first | kernel_rfl | decide, ?_⟩
            obtain rfl := Option.some.inj h5943
            exact cutQ _ ((Wk_le (.r (.r (.k (.r (.r (.r (.r (.r (.r (.r (.r (.k (.k (.k (.k (.r .nil)))))))))))))))) (OLe.refl _)).trans (cmpS_ok (st' := ⟨[], [(0, .dead), (1, .dead), (2, .dead), (4, .dead), (5, .dead), (6, .dead), (7, .sl false 1 0 n5914 2), (8, .dead), (9, .dead), (12, .dead), (16, .dead), (23, .dead), (24, .dead), (25, .dead), (26, .dead), (41, .dead)], [(0, .p c5861), (1, .p c5916)], 2, []⟩) (by kernel_rfl))) ⟨_, _, rfl, rfl⟩
      · rintro _ ⟨n5939, c5940, rfl, rfl⟩
        (try dsimp only at h5944)
        refine W_sound tab_ok mixed 8 _ _ _ ?_
        simp -implicitDefEqProofs only [go_sem, qa, qb, qc, qd, qe, qf, qg, qh, qi, qj, qk, ↓reduceIte, h5862, h5867, h5869, h5870, h5873]
        repeat with_reducible refine ⟨by first | kernel_rfl | decide, ?_⟩
        have hh := grd_some h5944; clear h5944; obtain ⟨g5941, h5944⟩ := hh
        refine FinQ_wk (Wk_freeze 1 c5940 (by rfl) (by decide) (by decide)) ?_
        simp -implicitDefEqProofs only [go_sem, qa, qb, qc, qd, qe, qf, qg, qh, qi, qj, qk, ↓reduceIte, h5862, h5867, h5869, h5870, h5873, g5941]
        obtain rfl := Option.some.inj h5944
        exact finD (e2 := [(0, .dead), (1, .dead), (2, .dead), (4, .v (.lst false n5939 c5940)), (5, .v (.int .i64 0)), (6, .dead), (7, .dead), (8, .dead), (9, .dead), (12, .dead), (16, .dead), (23, .dead), (24, .dead), (25, .dead), (26, .dead), (41, .dead)]) (ob2 := [(0, .p c5861)]) (st' := ⟨[], [(0, .dead), (1, .dead), (2, .dead), (4, .v (.lst false n5939 c5940)), (5, .v (.int .i64 0)), (6, .dead), (7, .dead), (8, .dead), (9, .dead), (12, .dead), (16, .dead), (23, .dead), (24, .dead), (25, .dead), (26, .dead), (41, .dead)], [(0, .p c5861)], 1, []⟩) (.r (.r (.r (.r (.r (.r (.k (.r (.r (.r (.r (.r (.r (.r (.r (.r .nil)))))))))))))))) (.cons _ _ _ _ _ (DLes.refl _) .nil) (by kernel_rfl) (by simp only [go_sem, qa, qb, qc, qd, qe, qf, qg, qh, qi, qj, qk, ↓reduceIte, resQ_tmp, resQ_cell, resQ_nil, retD_one, retD_two, retD_three, retD_none]; try simp [R.val, retD_one, retD_two, retD_three, retD_none])
def m19_2 (N : Nat) (p5853 : PV) (n5854 : Nat) (c5855 : List PV) : Option (PV) :=
  getA2 p5853 fun p5857 p5858 =>
  bnd' (m67_2 N (.agg [p5857, p5858]) n5854 c5855) fun p5945 =>
  getT2 p5945 fun p5948 p5949 =>
  getL p5948 fun n5951 c5952 =>
  getI .i64 p5949 fun x5954 =>
  brn (x5954 != 0) (
    some (.tup [(.lst false 0 []), (.int .i64 x5954)])) (
    bnd' (m68 N ((n5951 : Nat) : Int) false (.lst false n5951 c5952)) fun p5956 =>
    getT2 p5956 fun p5959 p5960 =>
    getL p5959 fun n5962 c5963 =>
    getB p5960 fun b5965 =>
    brn b5965 (
      some (.tup [(.lst false n5962 c5963), (.int .i64 0)])) (
      some (.tup [(.lst false 0 []), (.int .i64 13)])))
theorem c19_2 (N : Nat) (p5853 : PV) (n5854 : Nat) (c5855 : List PV) (r : PV)  (h : m19_2 N p5853 n5854 c5855 = some r) : V.Fn Tryd.prog 19 1 [.v p5853, .sl false 0 0 n5854 1] [(0, .p c5855)] (fun d ob' => d = .v r ∧ ob' = [(0, .p c5855)]) := by
  unfold m19_2 at h
  refine Fn_of (sz := 29) tab_ok [0, 1, 2, 4, 5, 6, 7, 8, 9, 17, 27] [.tmp 4, .tmp 5] Tryd.func19 rfl rfl rfl (by simp) ?_
  simp only [initSt, initEnv, List.map_cons, List.map_nil, List.getD_cons_zero, List.getD_cons_succ, List.getD_nil]
  have hh := getA2_some h; clear h; obtain ⟨p5857, p5858, h5856, h⟩ := hh
  have hh := bnd'_some h; clear h; obtain ⟨p5945, h5946, h⟩ := hh
  (try dsimp only at h)
  refine W_sound tab_ok mixed 10 _ _ _ ?_
  simp -implicitDefEqProofs only [go_sem, qa, qb, qc, qd, qe, qf, qg, qh, qi, qj, qk, ↓reduceIte, h5856]
  repeat with_reducible refine ⟨by first | kernel_rfl | decide, ?_⟩
  refine Wp_callD [0] (c67_2 N _ _ _ _ h5946) rfl rfl rfl (by first | rfl | (simp only [go_sem, qa, qb, qc, qd, qe, qf, qg, qh, qi, qj, qk, ↓reduceIte, h5856] <;> rfl)) rfl (by kernel_rfl) ?_
  have hh := getT2_some h; clear h; obtain ⟨p5948, p5949, h5947, h⟩ := hh
  have hh := getL_some h; clear h; obtain ⟨n5951, c5952, h5950, h⟩ := hh
  have hh := getI_some h; clear h; obtain ⟨x5954, h5953, h⟩ := hh
  have hh := brn_some h; clear h; rcases hh with ⟨h5955, h⟩ | ⟨h5955, h⟩
  · refine W_sound tab_ok mixed 22 _ _ _ ?_
    simp -implicitDefEqProofs only [go_sem, qa, qb, qc, qd, qe, qf, qg, qh, qi, qj, qk, ↓reduceIte, h5856, h5947, h5950, h5953, h5955]
    repeat with_reducible refine ⟨by first | kernel_rfl | decide, ?_⟩
    obtain rfl := Option.some.inj h
    exact finD (e2 := [(0, .dead), (1, .dead), (2, .dead), (4, .v (.lst false 0 [])), (5, .v (.int .i64 x5954)), (6, .dead), (7, .dead), (8, .dead), (9, .dead), (17, .dead), (27, .dead)]) (ob2 := [(3, .p [p5857, p5858]), (0, .p c5855), (10, .p [(.lst false n5951 c5952)])]) (st' := ⟨[], [(0, .dead), (1, .dead), (2, .dead), (4, .v (.lst false 0 [])), (5, .v (.int .i64 x5954)), (6, .dead), (7, .dead), (8, .dead), (9, .dead), (17, .dead), (27, .dead)], [(0, .p c5855)], 1, []⟩) (.k (.k (.k (.cons _ _ _ _ _ (.v _ _ (.nl false)) (.r (.k (.k (.r (.r (.k (.r .nil))))))))))) (.cons _ _ _ _ _ (DLes.refl _) (.cons _ _ _ _ _ (DLes.refl _) (.cons _ _ _ _ _ (DLes.refl _) .nil))) (by kernel_rfl) (by simp only [go_sem, qa, qb, qc, qd, qe, qf, qg, qh, qi, qj, qk, ↓reduceIte, resQ_tmp, resQ_cell, resQ_nil, retD_one, retD_two, retD_three, retD_none]; try simp [R.val, retD_one, retD_two, retD_three, retD_none])
  · refine W_sound tab_ok mixed 16 _ _ _ ?_
    simp -implicitDefEqProofs only [go_sem, qa, qb, qc, qd, qe, qf, qg, qh, qi, qj, qk, ↓reduceIte, h5856, h5947, h5950, h5953, h5955]
    repeat with_reducible refine ⟨by first | kernel_rfl | decide, ?_⟩
    refine Wp_wkK (Wk_freeze 10 [(.lst false n5951 c5952)] (by rfl) (by decide) (by decide)) rfl ?_
    simp -implicitDefEqProofs only [go_sem, qa, qb, qc, qd, qe, qf, qg, qh, qi, qj, qk, ↓reduceIte, h5856, h5947, h5950, h5953, h5955]
    have hh := bnd'_some h; clear h; obtain ⟨p5956, h5957, h⟩ := hh
    refine W_sound tab_ok mixed 4 _ _ _ ?_
    simp -implicitDefEqProofs only [go_sem, qa, qb, qc, qd, qe, qf, qg, qh, qi, qj, qk, ↓reduceIte, h5856, h5947, h5950, h5953, h5955]
    repeat with_reducible refine ⟨by first | kernel_rfl | decide, ?_⟩
    refine Wp_callP (c68 N _ _ _ _ h5957) (by kernel_rfl) rfl rfl rfl rfl (by decide) ?_
    have hh := getT2_some h; clear h; obtain ⟨p5959, p5960, h5958, h⟩ := hh
    have hh := getL_some h; clear h; obtain ⟨n5962, c5963, h5961, h⟩ := hh
    have hh := getB_some h; clear h; obtain ⟨b5965, h5964, h⟩ := hh
    have hh := brn_some h; clear h; rcases hh with ⟨h5966, h⟩ | ⟨h5966, h⟩
    · refine W_sound tab_ok mixed 22 _ _ _ ?_
      simp -implicitDefEqProofs only [go_sem, qa, qb, qc, qd, qe, qf, qg, qh, qi, qj, qk, ↓reduceIte, h5856, h5947, h5950, h5953, h5955, h5958, h5961, h5964, h5966]
      repeat with_reducible refine ⟨by first | kernel_rfl | decide, ?_⟩
      obtain rfl := Option.some.inj h
      exact finD (e2 := [(0, .dead), (1, .dead), (2, .dead), (4, .v (.lst false n5962 c5963)), (5, .v (.int .i64 0)), (6, .dead), (7, .dead), (8, .dead), (9, .dead), (17, .dead), (27, .dead)]) (ob2 := [(3, .p [p5857, p5858]), (0, .p c5855)]) (st' := ⟨[], [(0, .dead), (1, .dead), (2, .dead), (4, .v (.lst false n5962 c5963)), (5, .v (.int .i64 0)), (6, .dead), (7, .dead), (8, .dead), (9, .dead), (17, .dead), (27, .dead)], [(0, .p c5855)], 1, []⟩) (.k (.k (.k (.r (.r (.k (.k (.k (.k (.k (.k .nil))))))))))) (.cons _ _ _ _ _ (DLes.refl _) (.cons _ _ _ _ _ (DLes.refl _) .nil)) (by kernel_rfl) (by simp only [go_sem, qa, qb, qc, qd, qe, qf, qg, qh, qi, qj, qk, ↓reduceIte, resQ_tmp, resQ_cell, resQ_nil, retD_one, retD_two, retD_three, retD_none]; try simp [R.val, retD_one, retD_two, retD_three, retD_none])
    · refine W_sound tab_ok mixed 20 _ _ _ ?_
      simp -implicitDefEqProofs only [go_sem, qa, qb, qc, qd, qe, qf, qg, qh, qi, qj, qk, ↓reduceIte, h5856, h5947, h5950, h5953, h5955, h5958, h5961, h5964, h5966]
      repeat with_reducible refine ⟨by first | kernel_rfl | decide, ?_⟩
      obtain rfl := Option.some.inj h
      exact finD (e2 := [(0, .dead), (1, .dead), (2, .dead), (4, .v (.lst false 0 [])), (5, .v (.int .i64 13)), (6, .dead), (7, .dead), (8, .dead), (9, .dead), (17, .dead), (27, .dead)]) (ob2 := [(3, .p [p5857, p5858]), (0, .p c5855)]) (st' := ⟨[], [(0, .dead), (1, .dead), (2, .dead), (4, .v (.lst false 0 [])), (5, .v (.int .i64 13)), (6, .dead), (7, .dead), (8, .dead), (9, .dead), (17, .dead), (27, .dead)], [(0, .p c5855)], 1, []⟩) (.k (.k (.k (.cons _ _ _ _ _ (.v _ _ (.nl false)) (.r (.k (.k (.k (.k (.k (.k .nil))))))))))) (.cons _ _ _ _ _ (DLes.refl _) (.cons _ _ _ _ _ (DLes.refl _) .nil)) (by kernel_rfl) (by simp only [go_sem, qa, qb, qc, qd, qe, qf, qg, qh, qi, qj, qk, ↓reduceIte, resQ_tmp, resQ_cell, resQ_nil, retD_one, retD_two, retD_three, retD_none]; try simp [R.val, retD_one, retD_two, retD_three, retD_none])
def m9_L0 (N : Nat) (p5583 : PV) (p5584 : PV) (p5585 : PV) (p5586 : PV) (p5587 : PV) (x5594 : Int) (n5596 : Nat) (c5597 : List PV) : Nat → Nat → Nat → Int → List PV → List PV → Option ((PV ⊕ (Nat × Nat × List PV × List PV)))
  | 0, _, _, _, _, _ => none
  | n + 1, n5670, n5671, x5672, c5673, c5674 =>
    brn (decide (x5672 < ((n5596 : Nat) : Int))) (
      grd (0 ≤ x5672 ∧ x5672 < ((n5596 : Nat) : Int)) <|
      grd (0 < List.length (List.drop (Int.toNat x5672) c5597)) <|
      getL (gp c5597 (Int.toNat x5672)) fun n5680 c5681 =>
      brn (((n5680 : Nat) : Int) == 0) (
        grd (0 ≤ ((n5596 : Nat) : Int) ∧ ((n5596 : Nat) : Int) ≤ ((n5596 : Nat) : Int) ∧ ((n5596 : Nat) : Int) ≤ 1099511627776) <|
        bnd' (m24 N (.agg [(.int .i64 x5594), (.lst false n5596 c5597)]) (.lst false n5596 (List.replicate n5596 (.int .i64 0)))) fun p5686 =>
        getI .i64 p5686 fun x5689 =>
        brn (x5689 == 2) (
          bnd' (m16 N ) fun p5691 =>
          getB p5691 fun b5694 =>
          some (.inl (.bool b5694))) (
          some (.inl (.bool false)))) (
        grd (x5672 < 5) <|
        grd ((Int.toNat x5672) < 5) <|
        getI .u8 (gp [p5583, p5584, p5585, p5586, p5587] (Int.toNat x5672)) fun x5698 =>
        grd (((n5680 : Nat) : Int) ≠ 0) <|
        grd ((n5670 + 1) ≤ 1099511627776) <|
        grd (List.length c5673 = n5670) <|
        grd (x5672 < (((n5670 + 1) : Nat) : Int)) <|
        grd ((Int.toNat x5672) < (n5670 + 1)) <|
        getI .i64 (gp (c5673 ++ [(.int .i64 (Int.tmod (IntKind.i64.wrap x5698) ((n5680 : Nat) : Int)))]) (Int.toNat x5672)) fun x5705 =>
        grd (0 ≤ x5705 ∧ x5705 < ((n5680 : Nat) : Int)) <|
        grd (2 ≤ List.length (List.drop ((Int.toNat x5705) * 2) c5681)) <|
        getA2 (.agg (List.take 2 (List.drop ((Int.toNat x5705) * 2) c5681))) fun p5710 p5711 =>
        grd ((n5671 + 1) ≤ 1099511627776) <|
        grd (List.length c5674 = (n5671 * 2)) <|
        m9_L0 N p5583 p5584 p5585 p5586 p5587 x5594 n5596 c5597 n (n5670 + 1) (n5671 + 1) (IntKind.i64.wrap (x5672 + 1)) (c5673 ++ [(.int .i64 (Int.tmod (IntKind.i64.wrap x5698) ((n5680 : Nat) : Int)))]) (c5674 ++ [p5710, p5711]))) (
      some (.inr (n5670, n5671, c5673, c5674)))
def m9_L2 (N : Nat) (x5594 : Int) (n5596 : Nat) (c5597 : List PV) (n5715 : Nat) (n5716 : Nat) (c5717 : List PV) (c5718 : List PV) (x5722 : Int) (p5781 : PV) (x5782 : Int) (n5787 : Nat) (c5788 : List PV) : Nat → Nat → Int → List PV → Option ((Nat × List PV))
  | 0, _, _, _ => none
  | n + 1, n5815, x5816, c5817 =>
    brn (decide (x5816 < ((n5787 : Nat) : Int))) (
      grd (0 ≤ x5816 ∧ x5816 < ((n5787 : Nat) : Int)) <|
      grd (0 < List.length (List.drop (Int.toNat x5816) c5788)) <|
      getI .i64 (gp c5788 (Int.toNat x5816)) fun x5823 =>
      grd (0 ≤ x5823 ∧ x5823 < ((n5716 : Nat) : Int)) <|
      grd ((((Int.toNat x5823) * 2) + 2) ≤ List.length c5718) <|
      getA2 (.agg (List.take 2 (List.drop ((Int.toNat x5823) * 2) c5718))) fun p5828 p5829 =>
      grd ((n5815 + 1) ≤ 1099511627776) <|
      grd (List.length c5817 = (n5815 * 2)) <|
      m9_L2 N x5594 n5596 c5597 n5715 n5716 c5717 c5718 x5722 p5781 x5782 n5787 c5788 n (n5815 + 1) (IntKind.i64.wrap (x5816 + 1)) (c5817 ++ [p5828, p5829])) (
      some (n5815, c5817))
def m9_L1 (N : Nat) (x5594 : Int) (n5596 : Nat) (c5597 : List PV) (n5715 : Nat) (n5716 : Nat) (c5717 : List PV) (c5718 : List PV) (x5722 : Int) : Nat → PV → Int → Option (PV)
  | 0, _, _ => none
  | n + 1, p5781, x5782 =>
    brn (decide (x5782 < (IntKind.u64.wrap (x5722 + 1)))) (
      bnd' (m45 N x5782) fun p5784 =>
      getL p5784 fun n5787 c5788 =>
      bnd' (m9_L2 N x5594 n5596 c5597 n5715 n5716 c5717 c5718 x5722 p5781 x5782 n5787 c5788 N 0 0 []) fun o =>
      match o with
      | (n5832, c5833) =>
        grd (List.length c5833 = (n5832 * 2)) <|
        bnd' (m49 N (.lst false n5832 c5833)) fun p5835 =>
        getB p5835 fun b5838 =>
        brn b5838 (
          m9_L1 N x5594 n5596 c5597 n5715 n5716 c5717 c5718 x5722 n p5781 (IntKind.u64.wrap (x5782 + 1))) (
          getN p5781 (
            m9_L1 N x5594 n5596 c5597 n5715 n5716 c5717 c5718 x5722 n (.lst false n5787 c5788) (IntKind.u64.wrap (x5782 + 1))) fun n5842 c5843 =>
          grd (0 < n5842) <|
          brn (decide (((n5787 : Nat) : Int) < ((n5842 : Nat) : Int))) (
            m9_L1 N x5594 n5596 c5597 n5715 n5716 c5717 c5718 x5722 n (.lst false n5787 c5788) (IntKind.u64.wrap (x5782 + 1))) (
            brn (((n5787 : Nat) : Int) == ((n5842 : Nat) : Int)) (
              bnd' (m47 N (.lst false n5787 c5788) (.lst false n5842 c5843)) fun p5847 =>
              getI .i64 p5847 fun x5850 =>
              brn (decide (x5850 < 0)) (
                m9_L1 N x5594 n5596 c5597 n5715 n5716 c5717 c5718 x5722 n (.lst false n5787 c5788) (IntKind.u64.wrap (x5782 + 1))) (
                m9_L1 N x5594 n5596 c5597 n5715 n5716 c5717 c5718 x5722 n (.lst false n5842 c5843) (IntKind.u64.wrap (x5782 + 1)))) (
              m9_L1 N x5594 n5596 c5597 n5715 n5716 c5717 c5718 x5722 n (.lst false n5842 c5843) (IntKind.u64.wrap (x5782 + 1)))))) (
      some p5781)
def m9_L3 (N : Nat) (n5716 : Nat) (c5718 : List PV) (n5973 : Nat) (c5974 : List PV) (x5976 : Int) (x5981 : Int) (n5984 : Nat) (c5985 : List PV) : Nat → Int → List PV → Option (List PV)
  | 0, _, _ => none
  | n + 1, x6021, c6022 =>
    brn (decide (x6021 < ((n5984 : Nat) : Int))) (
      grd (0 ≤ x6021 ∧ x6021 < ((n5984 : Nat) : Int)) <|
      grd (0 < List.length (List.drop (Int.toNat x6021) c5985)) <|
      getI .i64 (gp c5985 (Int.toNat x6021)) fun x6028 =>
      grd (0 ≤ x6028 ∧ x6028 < ((n5716 : Nat) : Int)) <|
      grd (((Int.toNat x6028) * 2) < List.length c5718) <|
      getI .i64 (gp c5718 ((Int.toNat x6028) * 2)) fun x6033 =>
      grd (0 ≤ x6033 ∧ x6033 < 5) <|
      grd ((Int.toNat x6033) < List.length c6022) <|
      getI .i64 (gp c6022 (Int.toNat x6033)) fun x6038 =>
      grd (((Int.toNat x6033) + 1) ≤ List.length c6022) <|
      grd ((((Int.toNat x6028) * 2) + 1) < List.length c5718) <|
      getI .i64 (gp c5718 (((Int.toNat x6028) * 2) + 1)) fun x6042 =>
      grd (0 ≤ x6042 ∧ x6042 < 5) <|
      grd ((Int.toNat x6042) < List.length c6022) <|
      getI .i64 (gp (List.set c6022 (Int.toNat x6033) (.int .i64 (IntKind.i64.wrap (x6038 + 1)))) (Int.toNat x6042)) fun x6047 =>
      grd (((Int.toNat x6042) + 1) ≤ List.length c6022) <|
      m9_L3 N n5716 c5718 n5973 c5974 x5976 x5981 n5984 c5985 n (IntKind.i64.wrap (x6021 + 1)) (List.set (List.set c6022 (Int.toNat x6033) (.int .i64 (IntKind.i64.wrap (x6038 + 1)))) (Int.toNat x6042) (.int .i64 (IntKind.i64.wrap (x6047 + 1))))) (
      some c6022)
def m9_L4 (N : Nat) (n5973 : Nat) (c5974 : List PV) (x5976 : Int) (x5981 : Int) (n5984 : Nat) (c5985 : List PV) (p6052 : PV) (p6053 : PV) (p6054 : PV) (p6055 : PV) (p6056 : PV) : Nat → Int → Option ((PV ⊕ Unit))
  | 0, _ => none
  | n + 1, x6057 =>
    brn (decide (x6057 < 5)) (
      grd (0 ≤ x6057 ∧ x6057 < 5) <|
      getI .i64 (gp [p6052, p6053, p6054, p6055, p6056] (Int.toNat x6057)) fun x6062 =>
      brn (x6062 != 0) (
        brn (x6062 != 2) (
          some (.inl (.bool false))) (
          m9_L4 N n5973 c5974 x5976 x5981 n5984 c5985 p6052 p6053 p6054 p6055 p6056 n (IntKind.i64.wrap (x6057 + 1)))) (
        m9_L4 N n5973 c5974 x5976 x5981 n5984 c5985 p6052 p6053 p6054 p6055 p6056 n (IntKind.i64.wrap (x6057 + 1)))) (
      some (.inr ()))
def m9 (N : Nat) (p5572 : PV) (p5573 : PV) : Option (PV) :=
  getA7 p5572 fun p5575 p5576 p5577 p5578 p5579 p5580 p5581 =>
  getA5 p5573 fun p5583 p5584 p5585 p5586 p5587 =>
  bnd' (m40 N (.agg [p5575, p5576, p5577, p5578, p5579, p5580, p5581]) 5 5 6) fun p5588 =>
  getA2 p5588 fun p5591 p5592 =>
  getI .i64 p5591 fun x5594 =>
  getL p5592 fun n5596 c5597 =>
  bnd' (m9_L0 N p5583 p5584 p5585 p5586 p5587 x5594 n5596 c5597 N 0 0 0 [] []) fun o =>
  match o with
  | .inl p5714 =>
    some p5714
  | .inr (n5715, n5716, c5717, c5718) =>
    bnd' (m42 N (.agg [(.int .i64 x5594), (.lst false n5596 c5597)])) fun p5719 =>
    getI .u64 p5719 fun x5722 =>
    bnd' (m9_L1 N x5594 n5596 c5597 n5715 n5716 c5717 c5718 x5722 N .nl 0) fun p5852 =>
    bnd' (m19_2 N (.agg [(.int .i64 x5594), (.lst false n5596 c5597)]) n5715 c5717) fun p5967 =>
    getT2 p5967 fun p5970 p5971 =>
    getL p5970 fun n5973 c5974 =>
    getI .i64 p5971 fun x5976 =>
    grd (List.length c5717 = n5715) <|
    bnd' (m24 N (.agg [(.int .i64 x5594), (.lst false n5596 c5597)]) (.lst false n5715 c5717)) fun p5978 =>
    getI .i64 p5978 fun x5981 =>
    getN p5852 (
      brn (x5976 == 13) (
        brn (x5981 == 0) (
          brn (((n5973 : Nat) : Int) == 0) (
            bnd' (m16 N ) fun p5989 =>
            getB p5989 fun b5992 =>
            some (.bool b5992)) (
            some (.bool false))) (
          some (.bool false))) (
        some (.bool false))) fun n5984 c5985 =>
    grd (0 < n5984) <|
    bnd' (m9_L3 N n5716 c5718 n5973 c5974 x5976 x5981 n5984 c5985 N 0 [(.int .i64 0), (.int .i64 0), (.int .i64 0), (.int .i64 0), (.int .i64 0)]) fun c6049 =>
    grd (5 ≤ List.length c6049) <|
    getA5 (.agg (List.take 5 c6049)) fun p6052 p6053 p6054 p6055 p6056 =>
    bnd' (m9_L4 N n5973 c5974 x5976 x5981 n5984 c5985 p6052 p6053 p6054 p6055 p6056 N 0) fun o =>
    match o with
    | .inl p6065 =>
      some p6065
    | .inr () =>
      brn (x5976 == 0) (
        brn (x5981 == 13) (
          bnd' (m21 N (.lst false n5973 c5974) (.lst false n5984 c5985)) fun p6068 =>
          getB p6068 fun b6071 =>
          brn b6071 (
            bnd' (m16 N ) fun p6073 =>
            getB p6073 fun b6076 =>
            some (.bool b6076)) (
            some (.bool false))) (
          some (.bool false))) (
        some (.bool false))
theorem c9 (N : Nat) (p5572 : PV) (p5573 : PV) (r : PV)  (h : m9 N p5572 p5573 = some r) : FnP Tryd.prog 9 [p5572, p5573] r := by
  unfold m9 at h
  refine Fn_of (sz := 194) tab_ok [0, 1, 2, 3, 4, 5, 6, 7, 8, 9, 10, 11, 12, 13, 15, 16, 17, 18, 19, 21, 23, 27, 28, 29, 30, 36, 70, 71, 72, 76, 77, 78, 79, 116, 129, 144, 145, 146, 147, 169, 170, 171, 178] [.tmp 4] Tryd.func9 rfl rfl rfl (by simp) ?_
  simp only [initSt, initEnv, List.map_cons, List.map_nil, List.getD_cons_zero, List.getD_cons_succ, List.getD_nil]
  have hh := getA7_some h; clear h; obtain ⟨p5575, p5576, p5577, p5578, p5579, p5580, p5581, h5574, h⟩ := hh
  have hh := getA5_some h; clear h; obtain ⟨p5583, p5584, p5585, p5586, p5587, h5582, h⟩ := hh
  have hh := bnd'_some h; clear h; obtain ⟨p5588, h5589, h⟩ := hh
  refine W_sound tab_ok mixed 9 _ _ _ ?_
  simp -implicitDefEqProofs only [go_sem, qa, qb, qc, qd, qe, qf, qg, qh, qi, qj, qk, ↓reduceIte, h5574, h5582]
  repeat with_reducible refine ⟨by first | kernel_rfl | decide, ?_⟩
  refine Wp_callP (c40 N _ _ _ _ _ h5589) (by kernel_rfl) rfl rfl rfl rfl (by decide) ?_
  have hh := getA2_some h; clear h; obtain ⟨p5591, p5592, h5590, h⟩ := hh
  have hh := getI_some h; clear h; obtain ⟨x5594, h5593, h⟩ := hh
  have hh := getL_some h; clear h; obtain ⟨n5596, c5597, h5595, h⟩ := hh
  refine W_sound tab_ok mixed 19 _ _ _ ?_
  simp -implicitDefEqProofs only [go_sem, qa, qb, qc, qd, qe, qf, qg, qh, qi, qj, qk, ↓reduceIte, h5574, h5582, h5590, h5593, h5595]
  repeat with_reducible refine ⟨by first | kernel_rfl | decide, ?_⟩
  refine Wp_weaken (Wk_ownS 6 1 rfl (by decide) (by decide)) ?_
  simp -implicitDefEqProofs only [go_sem, qa, qb, qc, qd, qe, qf, qg, qh, qi, qj, qk, ↓reduceIte, h5574, h5582, h5590, h5593, h5595]
  refine Wp_weaken (Wk_ownS 7 2 rfl (by decide) (by decide)) ?_
  simp -implicitDefEqProofs only [go_sem, qa, qb, qc, qd, qe, qf, qg, qh, qi, qj, qk, ↓reduceIte, h5574, h5582, h5590, h5593, h5595]
  have hh := bnd'_some h; clear h; obtain ⟨o6077, h6078, h6079⟩ := hh
  refine Wp_cut (fun s => ∃ n5715, ∃ n5716, ∃ c5717, ∃ c5718, (.inr (n5715, n5716, c5717, c5718)) = o6077 ∧ s = ⟨[], [(0, .dead), (1, .dead), (2, .dead), (3, .dead), (4, .dead), (5, .ptr 0 0), (6, .sl false 1 0 n5715 1), (7, .sl false 2 0 n5716 2), (8, .dead), (9, .dead), (10, .dead), (11, .dead), (12, .dead), (13, .dead), (15, .dead), (16, .dead), (17, .dead), (18, .dead), (19, .dead), (21, .dead), (23, .dead), (27, .dead), (28, .dead), (29, .dead), (30, .dead), (36, .dead), (70, .dead), (71, .dead), (72, .dead), (76, .dead), (77, .dead), (78, .dead), (79, .dead), (116, .dead), (129, .dead), (144, .dead), (145, .dead), (146, .dead), (147, .dead), (169, .dead), (170, .dead), (171, .dead), (178, .dead)], [(0, .p [(.int .i64 x5594), (.lst false n5596 c5597)]), (1, .p c5717), (2, .p c5718)], 3, []⟩) ?_ ?_
  · refine Wp_block ?_
    refine Wp_loopG (fun n s => ∃ n5670, ∃ n5671, ∃ x5672, ∃ c5673, ∃ c5674, m9_L0 N p5583 p5584 p5585 p5586 p5587 x5594 n5596 c5597 n n5670 n5671 x5672 c5673 c5674 = some o6077 ∧ s = ⟨[], [(0, .dead), (1, .dead), (2, .dead), (3, .ptr 0 0), (4, .dead), (5, .ptr 1 0), (6, .sl false 2 0 n5670 1), (7, .sl false 3 0 n5671 2), (8, .dead), (9, .dead), (10, .dead), (11, .dead), (12, .dead), (13, .dead), (15, .dead), (16, .dead), (17, .dead), (18, .dead), (19, .dead), (21, .dead), (23, .dead), (27, .v (.lst false n5596 c5597)), (28, .v (.int .i64 ((n5596 : Nat) : Int))), (29, .v (.int .i64 x5672)), (30, .dead), (36, .dead), (70, .dead), (71, .dead), (72, .dead), (76, .dead), (77, .dead), (78, .dead), (79, .dead), (116, .dead), (129, .dead), (144, .dead), (145, .dead), (146, .dead), (147, .dead), (169, .dead), (170, .dead), (171, .dead), (178, .dead)], [(0, .p [p5583, p5584, p5585, p5586, p5587]), (1, .p [(.int .i64 x5594), (.lst false n5596 c5597)]), (2, .p c5673), (3, .p c5674)], 4, []⟩) N _ ((Wk_le (.k (.k (.k (.r (.k (.r (.r (.r (.r (.r (.r (.r (.r (.r (.r (.r (.r (.r (.r (.r (.r (.r (.r (.r (.r (.r (.r (.r (.r (.r (.r (.r (.r (.r (.r (.r (.r (.r (.r (.r (.r (.r (.r .nil))))))))))))))))))))))))))))))))))))))))))) (OLe.refl _)).trans (cmpS_ok (st' := ⟨[], [(0, .dead), (1, .dead), (2, .dead), (3, .ptr 0 0), (4, .dead), (5, .ptr 1 0), (6, .sl false 2 0 0 1), (7, .sl false 3 0 0 2), (8, .dead), (9, .dead), (10, .dead), (11, .dead), (12, .dead), (13, .dead), (15, .dead), (16, .dead), (17, .dead), (18, .dead), (19, .dead), (21, .dead), (23, .dead), (27, .v (.lst false n5596 c5597)), (28, .v (.int .i64 ((n5596 : Nat) : Int))), (29, .v (.int .i64 0)), (30, .dead), (36, .dead), (70, .dead), (71, .dead), (72, .dead), (76, .dead), (77, .dead), (78, .dead), (79, .dead), (116, .dead), (129, .dead), (144, .dead), (145, .dead), (146, .dead), (147, .dead), (169, .dead), (170, .dead), (171, .dead), (178, .dead)], [(0, .p [p5583, p5584, p5585, p5586, p5587]), (1, .p [(.int .i64 x5594), (.lst false n5596 c5597)]), (2, .p []), (3, .p [])], 4, []⟩) (by kernel_rfl))) ⟨_, _, _, _, _, h6078, rfl⟩ ?_
    clear h6078
    rintro n _ ⟨n5670, n5671, x5672, c5673, c5674, h6078, rfl⟩
    cases n with
    | zero => cases h6078
    | succ n =>
      rw [m9_L0] at h6078
      have hh := brn_some h6078; clear h6078; rcases hh with ⟨h5675, h6078⟩ | ⟨h5675, h6078⟩
      · have hh := grd_some h6078; clear h6078; obtain ⟨⟨g5676, g5677⟩, h6078⟩ := hh
        have hh := grd_some h6078; clear h6078; obtain ⟨g5678, h6078⟩ := hh
        have hh := getL_some h6078; clear h6078; obtain ⟨n5680, c5681, h5679, h6078⟩ := hh
        have hh := brn_some h6078; clear h6078; rcases hh with ⟨h5682, h6078⟩ | ⟨h5682, h6078⟩
        · have hh := grd_some h6078; clear h6078; obtain ⟨⟨g5683, g5684, g5685⟩, h6078⟩ := hh
          have hh := bnd'_some h6078; clear h6078; obtain ⟨p5686, h5687, h6078⟩ := hh
          refine W_sound tab_ok mixed 32 _ _ _ ?_
          simp -implicitDefEqProofs only [go_sem, qa, qb, qc, qd, qe, qf, qg, qh, qi, qj, qk, ↓reduceIte, h5574, h5582, h5590, h5593, h5595, h5675, g5676, g5677, g5678, h5679, h5682, g5683, g5684, g5685]
          repeat with_reducible refine ⟨by first | kernel_rfl | decide, ?_⟩
          refine Wp_callF [(45, (List.replicate n5596 (.int .i64 0)))] (c24 N _ _ _ h5687) (by kernel_rfl) rfl rfl rfl (by simp only [go_sem, qa, qb, qc, qd, qe, qf, qg, qh, qi, qj, qk, ↓reduceIte, h5574, h5582, h5590, h5593, h5595, h5675, g5676, g5677, g5678, h5679, h5682, g5683, g5684, g5685] <;> rfl) (by decide) rfl (by simp [roF, obL]) rfl ?_
          have hh := getI_some h6078; clear h6078; obtain ⟨x5689, h5688, h6078⟩ := hh
          have hh := brn_some h6078; clear h6078; rcases hh with ⟨h5690, h6078⟩ | ⟨h5690, h6078⟩
          · have hh := bnd'_some h6078; clear h6078; obtain ⟨p5691, h5692, h6078⟩ := hh
            refine W_sound tab_ok mixed 2 _ _ _ ?_
            simp -implicitDefEqProofs only [go_sem, qa, qb, qc, qd, qe, qf, qg, qh, qi, qj, qk, ↓reduceIte, h5574, h5582, h5590, h5593, h5595, h5675, g5676, g5677, g5678, h5679, h5682, g5683, g5684, g5685, h5688, h5690]
            repeat with_reducible refine ⟨by first | kernel_rfl | decide, ?_⟩
            refine Wp_callP (c16 N  _ h5692) (by kernel_rfl) rfl rfl rfl rfl (by decide) ?_
            have hh := getB_some h6078; clear h6078; obtain ⟨b5694, h5693, h6078⟩ := hh
            refine W_sound tab_ok mixed 5 _ _ _ ?_
            simp -implicitDefEqProofs only [go_sem, qa, qb, qc, qd, qe, qf, qg, qh, qi, qj, qk, ↓reduceIte, h5574, h5582, h5590, h5593, h5595, h5675, g5676, g5677, g5678, h5679, h5682, g5683, g5684, g5685, h5688, h5690, h5693]
            repeat with_reducible refine ⟨by first | kernel_rfl | decide, ?_⟩
            obtain rfl := Option.some.inj h6078
            (try dsimp only at h6079)
            obtain rfl := Option.some.inj h6079
            exact finC [(4, .v (.bool b5694))] [(4, .v (.bool b5694))] (by simp [leE, lk_cons]) (.cons _ _ _ _ _ (.v _ _ (.refl _)) .nil) (by rfl) (by simp [leE, lk_cons]) (by decide) (by decide) rfl (by simp only [go_sem, qa, qb, qc, qd, qe, qf, qg, qh, qi, qj, qk, ↓reduceIte, resQ_tmp, resQ_cell, resQ_nil, retD_one, retD_two, retD_three, retD_none]; try simp [R.val, retD_one, retD_two, retD_three, retD_none])
          · refine W_sound tab_ok mixed 8 _ _ _ ?_
            simp -implicitDefEqProofs only [go_sem, qa, qb, qc, qd, qe, qf, qg, qh, qi, qj, qk, ↓reduceIte, h5574, h5582, h5590, h5593, h5595, h5675, g5676, g5677, g5678, h5679, h5682, g5683, g5684, g5685, h5688, h5690]
            repeat with_reducible refine ⟨by first | kernel_rfl | decide, ?_⟩
            obtain rfl := Option.some.inj h6078
            (try dsimp only at h6079)
            obtain rfl := Option.some.inj h6079
            exact finC [(4, .v (.bool false))] [(4, .v (.bool false))] (by simp [leE, lk_cons]) (.cons _ _ _ _ _ (.v _ _ (.refl _)) .nil) (by rfl) (by simp [leE, lk_cons]) (by decide) (by decide) rfl (by simp only [go_sem, qa, qb, qc, qd, qe, qf, qg, qh, qi, qj, qk, ↓reduceIte, resQ_tmp, resQ_cell, resQ_nil, retD_one, retD_two, retD_three, retD_none]; try simp [R.val, retD_one, retD_two, retD_three, retD_none])
        · have hh := grd_some h6078; clear h6078; obtain ⟨g5695, h6078⟩ := hh
          have hh := grd_some h6078; clear h6078; obtain ⟨g5696, h6078⟩ := hh
          have hh := getI_some h6078; clear h6078; obtain ⟨x5698, h5697, h6078⟩ := hh
          have hh := grd_some h6078; clear h6078; obtain ⟨g5699, h6078⟩ := hh
          have hh := grd_some h6078; clear h6078; obtain ⟨g5700, h6078⟩ := hh
          have hh := grd_some h6078; clear h6078; obtain ⟨g5701, h6078⟩ := hh
          have hh := grd_some h6078; clear h6078; obtain ⟨g5702, h6078⟩ := hh
          have hh := grd_some h6078; clear h6078; obtain ⟨g5703, h6078⟩ := hh
          have hh := getI_some h6078; clear h6078; obtain ⟨x5705, h5704, h6078⟩ := hh
          have hh := grd_some h6078; clear h6078; obtain ⟨⟨g5706, g5707⟩, h6078⟩ := hh
          have hh := grd_some h6078; clear h6078; obtain ⟨g5708, h6078⟩ := hh
          have hh := getA2_some h6078; clear h6078; obtain ⟨p5710, p5711, h5709, h6078⟩ := hh
          injection h5709 with h5709
          have hh := grd_some h6078; clear h6078; obtain ⟨g5712, h6078⟩ := hh
          have hh := grd_some h6078; clear h6078; obtain ⟨g5713, h6078⟩ := hh
          refine W_sound tab_ok mixed 58 _ _ _ ?_
          simp -implicitDefEqProofs only [go_sem, qa, qb, qc, qd, qe, qf, qg, qh, qi, qj, qk, ↓reduceIte, h5574, h5582, h5590, h5593, h5595, h5675, g5676, g5677, g5678, h5679, h5682, g5695, g5696, h5697, g5699, g5700, g5701, g5702, g5703, h5704, g5706, g5707, g5708, h5709, g5712, g5713]
          repeat with_reducible refine ⟨by first | kernel_rfl | decide, ?_⟩
          exact cutQ _ ((Wk_le (.r (.r (.r (.r (.r (.r (.r (.r (.k (.k (.r (.r (.r (.r (.r (.r (.r (.r (.r (.r (.r (.r (.r (.r (.k (.k (.r (.r (.r (.r (.r (.r (.r (.r (.r (.r (.r (.r (.r (.r (.r (.r (.r .nil))))))))))))))))))))))))))))))))))))))))))) (OLe.refl _)).trans (cmpS_ok (st' := ⟨[], [(0, .dead), (1, .dead), (2, .dead), (3, .ptr 0 0), (4, .dead), (5, .ptr 1 0), (6, .sl false 2 0 (n5670 + 1) 1), (7, .sl false 3 0 (n5671 + 1) 2), (8, .dead), (9, .dead), (10, .dead), (11, .dead), (12, .dead), (13, .dead), (15, .dead), (16, .dead), (17, .dead), (18, .dead), (19, .dead), (21, .dead), (23, .dead), (27, .v (.lst false n5596 c5597)), (28, .v (.int .i64 ((n5596 : Nat) : Int))), (29, .v (.int .i64 (IntKind.i64.wrap (x5672 + 1)))), (30, .dead), (36, .dead), (70, .dead), (71, .dead), (72, .dead), (76, .dead), (77, .dead), (78, .dead), (79, .dead), (116, .dead), (129, .dead), (144, .dead), (145, .dead), (146, .dead), (147, .dead), (169, .dead), (170, .dead), (171, .dead), (178, .dead)], [(0, .p [p5583, p5584, p5585, p5586, p5587]), (1, .p [(.int .i64 x5594), (.lst false n5596 c5597)]), (2, .p (c5673 ++ [(.int .i64 (Int.tmod (IntKind.i64.wrap x5698) ((n5680 : Nat) : Int)))])), (3, .p (c5674 ++ [p5710, p5711]))], 4, []⟩) (by kernel_rfl))) ⟨n, Nat.lt_succ_self n, _, _, _, _, _, h6078, rfl⟩
      · refine W_sound tab_ok mixed 7 _ _ _ ?_
        simp -implicitDefEqProofs only [go_sem, qa, qb, qc, qd, qe, qf, qg, qh, qi, qj, qk, ↓reduceIte, h5574, h5582, h5590, h5593, h5595, h5675]
        repeat with_reducible refine ⟨by first | kernel_rfl | decide, ?_⟩
        obtain rfl := Option.some.inj h6078
        exact cutQ _ ((Wk_le (.r (.r (.r (.k (.r (.r (.r (.r (.r (.r (.r (.r (.r (.r (.r (.r (.r (.r (.r (.r (.r (.k (.k (.k (.k (.r (.r (.r (.r (.r (.r (.r (.r (.r (.r (.r (.r (.r (.r (.r (.r (.r (.r .nil))))))))))))))))))))))))))))))))))))))))))) (OLe.refl _)).trans (cmpS_ok (st' := ⟨[], [(0, .dead), (1, .dead), (2, .dead), (3, .dead), (4, .dead), (5, .ptr 0 0), (6, .sl false 1 0 n5670 1), (7, .sl false 2 0 n5671 2), (8, .dead), (9, .dead), (10, .dead), (11, .dead), (12, .dead), (13, .dead), (15, .dead), (16, .dead), (17, .dead), (18, .dead), (19, .dead), (21, .dead), (23, .dead), (27, .dead), (28, .dead), (29, .dead), (30, .dead), (36, .dead), (70, .dead), (71, .dead), (72, .dead), (76, .dead), (77, .dead), (78, .dead), (79, .dead), (116, .dead), (129, .dead), (144, .dead), (145, .dead), (146, .dead), (147, .dead), (169, .dead), (170, .dead), (171, .dead), (178, .dead)], [(0, .p [(.int .i64 x5594), (.lst false n5596 c5597)]), (1, .p c5673), (2, .p c5674)], 3, []⟩) (by kernel_rfl))) ⟨_, _, _, _, rfl, rfl⟩
  · rintro _ ⟨n5715, n5716, c5717, c5718, rfl, rfl⟩
    (try dsimp only at h6079)
    have hh := bnd'_some h6079; clear h6079; obtain ⟨p5719, h5720, h6079⟩ := hh
    refine W_sound tab_ok mixed 8 _ _ _ ?_
    simp -implicitDefEqProofs only [go_sem, qa, qb, qc, qd, qe, qf, qg, qh, qi, qj, qk, ↓reduceIte, h5574, h5582, h5590, h5593, h5595]
    repeat with_reducible refine ⟨by first | kernel_rfl | decide, ?_⟩
    refine Wp_callP (c42 N _ _ h5720) (by kernel_rfl) rfl rfl rfl rfl (by decide) ?_
    have hh := getI_some h6079; clear h6079; obtain ⟨x5722, h5721, h6079⟩ := hh
    refine W_sound tab_ok mixed 3 _ _ _ ?_
    simp -implicitDefEqProofs only [go_sem, qa, qb, qc, qd, qe, qf, qg, qh, qi, qj, qk, ↓reduceIte, h5574, h5582, h5590, h5593, h5595, h5721]
    repeat with_reducible refine ⟨by first | kernel_rfl | decide, ?_⟩
    have hh := bnd'_some h6079; clear h6079; obtain ⟨o6080, h6081, h6082⟩ := hh
    refine Wp_cut (fun s => ∃ p5852, p5852 = o6080 ∧ s = ⟨[], [(0, .dead), (1, .dead), (2, .dead), (3, .dead), (4, .dead), (5, .ptr 0 0), (6, .sl false 1 0 n5715 1), (7, .sl false 2 0 n5716 2), (8, .dead), (9, .dead), (10, .v p5852), (11, .dead), (12, .dead), (13, .dead), (15, .dead), (16, .dead), (17, .dead), (18, .dead), (19, .dead), (21, .dead), (23, .dead), (27, .dead), (28, .dead), (29, .dead), (30, .dead), (36, .dead), (70, .dead), (71, .dead), (72, .dead), (76, .dead), (77, .dead), (78, .dead), (79, .dead), (116, .dead), (129, .dead), (144, .dead), (145, .dead), (146, .dead), (147, .dead), (169, .dead), (170, .dead), (171, .dead), (178, .dead)], [(0, .p [(.int .i64 x5594), (.lst false n5596 c5597)]), (1, .p c5717), (2, .p c5718)], 3, []⟩) ?_ ?_
    · refine Wp_block ?_
      refine Wp_loopG (fun n s => ∃ p5781, ∃ x5782, m9_L1 N x5594 n5596 c5597 n5715 n5716 c5717 c5718 x5722 n p5781 x5782 = some o6080 ∧ s = ⟨[], [(0, .dead), (1, .dead), (2, .dead), (3, .dead), (4, .dead), (5, .ptr 0 0), (6, .sl false 1 0 n5715 1), (7, .sl false 2 0 n5716 2), (8, .dead), (9, .dead), (10, .v p5781), (11, .dead), (12, .dead), (13, .dead), (15, .dead), (16, .dead), (17, .dead), (18, .dead), (19, .dead), (21, .dead), (23, .dead), (27, .dead), (28, .dead), (29, .dead), (30, .dead), (36, .dead), (70, .v (.int .u64 (IntKind.u64.wrap (x5722 + 1)))), (71, .v (.int .u64 x5782)), (72, .dead), (76, .dead), (77, .dead), (78, .dead), (79, .dead), (116, .dead), (129, .dead), (144, .dead), (145, .dead), (146, .dead), (147, .dead), (169, .dead), (170, .dead), (171, .dead), (178, .dead)], [(0, .p [(.int .i64 x5594), (.lst false n5596 c5597)]), (1, .p c5717), (2, .p c5718)], 3, []⟩) N _ ((Wk_le (.r (.r (.r (.r (.r (.r (.r (.r (.r (.r (.r (.r (.r (.r (.r (.r (.r (.r (.r (.r (.r (.r (.r (.r (.r (.r (.r (.r (.r (.r (.r (.r (.r (.r (.r (.r (.r (.r (.r (.r (.r (.r (.r .nil))))))))))))))))))))))))))))))))))))))))))) (OLe.refl _)).trans (cmpS_ok (st' := ⟨[], [(0, .dead), (1, .dead), (2, .dead), (3, .dead), (4, .dead), (5, .ptr 0 0), (6, .sl false 1 0 n5715 1), (7, .sl false 2 0 n5716 2), (8, .dead), (9, .dead), (10, .v .nl), (11, .dead), (12, .dead), (13, .dead), (15, .dead), (16, .dead), (17, .dead), (18, .dead), (19, .dead), (21, .dead), (23, .dead), (27, .dead), (28, .dead), (29, .dead), (30, .dead), (36, .dead), (70, .v (.int .u64 (IntKind.u64.wrap (x5722 + 1)))), (71, .v (.int .u64 0)), (72, .dead), (76, .dead), (77, .dead), (78, .dead), (79, .dead), (116, .dead), (129, .dead), (144, .dead), (145, .dead), (146, .dead), (147, .dead), (169, .dead), (170, .dead), (171, .dead), (178, .dead)], [(0, .p [(.int .i64 x5594), (.lst false n5596 c5597)]), (1, .p c5717), (2, .p c5718)], 3, []⟩) (by kernel_rfl))) ⟨_, _, h6081, rfl⟩ ?_
      clear h6081
      rintro n _ ⟨p5781, x5782, h6081, rfl⟩
      cases n with
      | zero => cases h6081
      | succ n =>
        rw [m9_L1] at h6081
        have hh := brn_some h6081; clear h6081; rcases hh with ⟨h5783, h6081⟩ | ⟨h5783, h6081⟩
        · have hh := bnd'_some h6081; clear h6081; obtain ⟨p5784, h5785, h6081⟩ := hh
          refine W_sound tab_ok mixed 17 _ _ _ ?_
          simp -implicitDefEqProofs only [go_sem, qa, qb, qc, qd, qe, qf, qg, qh, qi, qj, qk, ↓reduceIte, h5574, h5582, h5590, h5593, h5595, h5721, h5783]
          repeat with_reducible refine ⟨by first | kernel_rfl | decide, ?_⟩
          refine Wp_callP (c45 N _ _ h5785) (by kernel_rfl) rfl rfl rfl rfl (by decide) ?_
          have hh := getL_some h6081; clear h6081; obtain ⟨n5787, c5788, h5786, h6081⟩ := hh
          refine W_sound tab_ok mixed 13 _ _ _ ?_
          simp -implicitDefEqProofs only [go_sem, qa, qb, qc, qd, qe, qf, qg, qh, qi, qj, qk, ↓reduceIte, h5574, h5582, h5590, h5593, h5595, h5721, h5783, h5786]
          repeat with_reducible refine ⟨by first | kernel_rfl | decide, ?_⟩
          refine Wp_weaken (Wk_ownS 13 2 rfl (by decide) (by decide)) ?_
          simp -implicitDefEqProofs only [go_sem, qa, qb, qc, qd, qe, qf, qg, qh, qi, qj, qk, ↓reduceIte, h5574, h5582, h5590, h5593, h5595, h5721, h5783, h5786]
          have hh := bnd'_some h6081; clear h6081; obtain ⟨o6083, h6084, h6085⟩ := hh
          refine Wp_cut (fun s => ∃ n5832, ∃ c5833, (n5832, c5833) = o6083 ∧ s = ⟨[], [(0, .dead), (1, .dead), (2, .dead), (3, .dead), (4, .dead), (5, .ptr 0 0), (6, .sl false 1 0 n5715 1), (7, .sl false 2 0 n5716 2), (8, .dead), (9, .dead), (10, .v p5781), (11, .dead), (12, .v (.lst false n5787 c5788)), (13, .sl false 3 0 n5832 2), (15, .dead), (16, .dead), (17, .dead), (18, .dead), (19, .dead), (21, .dead), (23, .dead), (27, .dead), (28, .dead), (29, .dead), (30, .dead), (36, .dead), (70, .v (.int .u64 (IntKind.u64.wrap (x5722 + 1)))), (71, .v (.int .u64 x5782)), (72, .dead), (76, .dead), (77, .dead), (78, .dead), (79, .dead), (116, .dead), (129, .dead), (144, .dead), (145, .dead), (146, .dead), (147, .dead), (169, .dead), (170, .dead), (171, .dead), (178, .dead)], [(0, .p [(.int .i64 x5594), (.lst false n5596 c5597)]), (1, .p c5717), (2, .p c5718), (3, .p c5833)], 4, []⟩) ?_ ?_
          · refine Wp_block ?_
            refine Wp_loopG (fun n s => ∃ n5815, ∃ x5816, ∃ c5817, m9_L2 N x5594 n5596 c5597 n5715 n5716 c5717 c5718 x5722 p5781 x5782 n5787 c5788 n n5815 x5816 c5817 = some o6083 ∧ s = ⟨[], [(0, .dead), (1, .dead), (2, .dead), (3, .dead), (4, .dead), (5, .ptr 0 0), (6, .sl false 1 0 n5715 1), (7, .sl false 2 0 n5716 2), (8, .dead), (9, .dead), (10, .v p5781), (11, .dead), (12, .v (.lst false n5787 c5788)), (13, .sl false 3 0 n5815 2), (15, .dead), (16, .dead), (17, .dead), (18, .dead), (19, .dead), (21, .dead), (23, .dead), (27, .dead), (28, .dead), (29, .dead), (30, .dead), (36, .dead), (70, .v (.int .u64 (IntKind.u64.wrap (x5722 + 1)))), (71, .v (.int .u64 x5782)), (72, .dead), (76, .v (.lst false n5787 c5788)), (77, .v (.int .i64 ((n5787 : Nat) : Int))), (78, .v (.int .i64 x5816)), (79, .dead), (116, .dead), (129, .dead), (144, .dead), (145, .dead), (146, .dead), (147, .dead), (169, .dead), (170, .dead), (171, .dead), (178, .dead)], [(0, .p [(.int .i64 x5594), (.lst false n5596 c5597)]), (1, .p c5717), (2, .p c5718), (3, .p c5817)], 4, []⟩) N _ ((Wk_le (.r (.r (.r (.r (.r (.r (.r (.r (.r (.r (.r (.k (.r (.r (.r (.r (.r (.r (.r (.r (.r (.r (.r (.r (.r (.r (.r (.r (.k (.r (.r (.r (.r (.r (.r (.r (.r (.r (.r (.r (.r (.r (.r .nil))))))))))))))))))))))))))))))))))))))))))) (OLe.refl _)).trans (cmpS_ok (st' := ⟨[], [(0, .dead), (1, .dead), (2, .dead), (3, .dead), (4, .dead), (5, .ptr 0 0), (6, .sl false 1 0 n5715 1), (7, .sl false 2 0 n5716 2), (8, .dead), (9, .dead), (10, .v p5781), (11, .dead), (12, .v (.lst false n5787 c5788)), (13, .sl false 3 0 0 2), (15, .dead), (16, .dead), (17, .dead), (18, .dead), (19, .dead), (21, .dead), (23, .dead), (27, .dead), (28, .dead), (29, .dead), (30, .dead), (36, .dead), (70, .v (.int .u64 (IntKind.u64.wrap (x5722 + 1)))), (71, .v (.int .u64 x5782)), (72, .dead), (76, .v (.lst false n5787 c5788)), (77, .v (.int .i64 ((n5787 : Nat) : Int))), (78, .v (.int .i64 0)), (79, .dead), (116, .dead), (129, .dead), (144, .dead), (145, .dead), (146, .dead), (147, .dead), (169, .dead), (170, .dead), (171, .dead), (178, .dead)], [(0, .p [(.int .i64 x5594), (.lst false n5596 c5597)]), (1, .p c5717), (2, .p c5718), (3, .p [])], 4, []⟩) (by kernel_rfl))) ⟨_, _, _, h6084, rfl⟩ ?_
            clear h6084
            rintro n _ ⟨n5815, x5816, c5817, h6084, rfl⟩
            cases n with
            | zero => cases h6084
            | succ n =>
              rw [m9_L2] at h6084
              have hh := brn_some h6084; clear h6084; rcases hh with ⟨h5818, h6084⟩ | ⟨h5818, h6084⟩
              · have hh := grd_some h6084; clear h6084; obtain ⟨⟨g5819, g5820⟩, h6084⟩ := hh
                have hh := grd_some h6084; clear h6084; obtain ⟨g5821, h6084⟩ := hh
                have hh := getI_some h6084; clear h6084; obtain ⟨x5823, h5822, h6084⟩ := hh
                have hh := grd_some h6084; clear h6084; obtain ⟨⟨g5824, g5825⟩, h6084⟩ := hh
                have hh := grd_some h6084; clear h6084; obtain ⟨g5826, h6084⟩ := hh
                have hh := getA2_some h6084; clear h6084; obtain ⟨p5828, p5829, h5827, h6084⟩ := hh
                injection h5827 with h5827
                have hh := grd_some h6084; clear h6084; obtain ⟨g5830, h6084⟩ := hh
                have hh := grd_some h6084; clear h6084; obtain ⟨g5831, h6084⟩ := hh
                refine W_sound tab_ok mixed 30 _ _ _ ?_
                simp -implicitDefEqProofs only [go_sem, qa, qb, qc, qd, qe, qf, qg, qh, qi, qj, qk, ↓reduceIte, h5574, h5582, h5590, h5593, h5595, h5721, h5783, h5786, h5818, g5819, g5820, g5821, h5822, g5824, g5825, g5826, h5827, g5830, g5831]
                repeat with_reducible refine ⟨by first | kernel_rfl | decide, ?_⟩
                exact cutQ _ ((Wk_le (.r (.r (.r (.r (.r (.r (.r (.r (.r (.r (.r (.r (.r (.r (.k (.r (.r (.r (.r (.r (.r (.r (.r (.r (.r (.r (.r (.r (.r (.r (.r (.r (.k (.r (.r (.r (.r (.r (.r (.r (.r (.r (.r .nil))))))))))))))))))))))))))))))))))))))))))) (OLe.refl _)).trans (cmpS_ok (st' := ⟨[], [(0, .dead), (1, .dead), (2, .dead), (3, .dead), (4, .dead), (5, .ptr 0 0), (6, .sl false 1 0 n5715 1), (7, .sl false 2 0 n5716 2), (8, .dead), (9, .dead), (10, .v p5781), (11, .dead), (12, .v (.lst false n5787 c5788)), (13, .sl false 3 0 (n5815 + 1) 2), (15, .dead), (16, .dead), (17, .dead), (18, .dead), (19, .dead), (21, .dead), (23, .dead), (27, .dead), (28, .dead), (29, .dead), (30, .dead), (36, .dead), (70, .v (.int .u64 (IntKind.u64.wrap (x5722 + 1)))), (71, .v (.int .u64 x5782)), (72, .dead), (76, .v (.lst false n5787 c5788)), (77, .v (.int .i64 ((n5787 : Nat) : Int))), (78, .v (.int .i64 (IntKind.i64.wrap (x5816 + 1)))), (79, .dead), (116, .dead), (129, .dead), (144, .dead), (145, .dead), (146, .dead), (147, .dead), (169, .dead), (170, .dead), (171, .dead), (178, .dead)], [(0, .p [(.int .i64 x5594), (.lst false n5596 c5597)]), (1, .p c5717), (2, .p c5718), (3, .p (c5817 ++ [p5828, p5829]))], 4, []⟩) (by kernel_rfl))) ⟨n, Nat.lt_succ_self n, _, _, _, h6084, rfl⟩
              · refine W_sound tab_ok mixed 7 _ _ _ ?_
                simp -implicitDefEqProofs only [go_sem, qa, qb, qc, qd, qe, qf, qg, qh, qi, qj, qk, ↓reduceIte, h5574, h5582, h5590, h5593, h5595, h5721, h5783, h5786, h5818]
                repeat with_reducible refine ⟨by first | kernel_rfl | decide, ?_⟩
                obtain rfl := Option.some.inj h6084
                exact cutQ _ ((Wk_le (.r (.r (.r (.r (.r (.r (.r (.r (.r (.r (.r (.r (.r (.r (.r (.r (.r (.r (.r (.r (.r (.r (.r (.r (.r (.r (.r (.r (.r (.k (.k (.k (.k (.r (.r (.r (.r (.r (.r (.r (.r (.r (.r .nil))))))))))))))))))))))))))))))))))))))))))) (OLe.refl _)).trans (cmpS_ok (st' := ⟨[], [(0, .dead), (1, .dead), (2, .dead), (3, .dead), (4, .dead), (5, .ptr 0 0), (6, .sl false 1 0 n5715 1), (7, .sl false 2 0 n5716 2), (8, .dead), (9, .dead), (10, .v p5781), (11, .dead), (12, .v (.lst false n5787 c5788)), (13, .sl false 3 0 n5815 2), (15, .dead), (16, .dead), (17, .dead), (18, .dead), (19, .dead), (21, .dead), (23, .dead), (27, .dead), (28, .dead), (29, .dead), (30, .dead), (36, .dead), (70, .v (.int .u64 (IntKind.u64.wrap (x5722 + 1)))), (71, .v (.int .u64 x5782)), (72, .dead), (76, .dead), (77, .dead), (78, .dead), (79, .dead), (116, .dead), (129, .dead), (144, .dead), (145, .dead), (146, .dead), (147, .dead), (169, .dead), (170, .dead), (171, .dead), (178, .dead)], [(0, .p [(.int .i64 x5594), (.lst false n5596 c5597)]), (1, .p c5717), (2, .p c5718), (3, .p c5817)], 4, []⟩) (by kernel_rfl))) ⟨_, _, rfl, rfl⟩
          · rintro _ ⟨n5832, c5833, rfl, rfl⟩
            (try dsimp only at h6085)
            refine W_sound tab_ok mixed 1 _ _ _ ?_
            simp -implicitDefEqProofs only [go_sem, qa, qb, qc, qd, qe, qf, qg, qh, qi, qj, qk, ↓reduceIte, h5574, h5582, h5590, h5593, h5595, h5721, h5783, h5786]
            repeat with_reducible refine ⟨by first | kernel_rfl | decide, ?_⟩
            have hh := grd_some h6085; clear h6085; obtain ⟨g5834, h6085⟩ := hh
            refine Wp_wkK (Wk_freeze 3 c5833 (by rfl) (by decide) (by decide)) rfl ?_
            simp -implicitDefEqProofs only [go_sem, qa, qb, qc, qd, qe, qf, qg, qh, qi, qj, qk, ↓reduceIte, h5574, h5582, h5590, h5593, h5595, h5721, h5783, h5786, g5834]
            have hh := bnd'_some h6085; clear h6085; obtain ⟨p5835, h5836, h6085⟩ := hh
            refine W_sound tab_ok mixed 2 _ _ _ ?_
            simp -implicitDefEqProofs only [go_sem, qa, qb, qc, qd, qe, qf, qg, qh, qi, qj, qk, ↓reduceIte, h5574, h5582, h5590, h5593, h5595, h5721, h5783, h5786, g5834]
            repeat with_reducible refine ⟨by first | kernel_rfl | decide, ?_⟩
            refine Wp_callP (c49 N _ _ h5836) (by kernel_rfl) rfl rfl rfl rfl (by decide) ?_
            have hh := getB_some h6085; clear h6085; obtain ⟨b5838, h5837, h6085⟩ := hh
            have hh := brn_some h6085; clear h6085; rcases hh with ⟨h5839, h6085⟩ | ⟨h5839, h6085⟩
            · refine W_sound tab_ok mixed 33 _ _ _ ?_
              simp -implicitDefEqProofs only [go_sem, qa, qb, qc, qd, qe, qf, qg, qh, qi, qj, qk, ↓reduceIte, h5574, h5582, h5590, h5593, h5595, h5721, h5783, h5786, g5834, h5837, h5839]
              repeat with_reducible refine ⟨by first | kernel_rfl | decide, ?_⟩
              exact cutQ _ ((Wk_le (.r (.r (.r (.r (.r (.r (.r (.r (.r (.r (.r (.r (.k (.k (.r (.r (.r (.r (.r (.r (.r (.r (.r (.r (.r (.r (.r (.r (.r (.r (.r (.r (.r (.k (.r (.r (.r (.r (.r (.r (.r (.r (.r .nil))))))))))))))))))))))))))))))))))))))))))) (OLe.refl _)).trans (cmpS_ok (st' := ⟨[], [(0, .dead), (1, .dead), (2, .dead), (3, .dead), (4, .dead), (5, .ptr 0 0), (6, .sl false 1 0 n5715 1), (7, .sl false 2 0 n5716 2), (8, .dead), (9, .dead), (10, .v p5781), (11, .dead), (12, .dead), (13, .dead), (15, .dead), (16, .dead), (17, .dead), (18, .dead), (19, .dead), (21, .dead), (23, .dead), (27, .dead), (28, .dead), (29, .dead), (30, .dead), (36, .dead), (70, .v (.int .u64 (IntKind.u64.wrap (x5722 + 1)))), (71, .v (.int .u64 (IntKind.u64.wrap (x5782 + 1)))), (72, .dead), (76, .dead), (77, .dead), (78, .dead), (79, .dead), (116, .dead), (129, .dead), (144, .dead), (145, .dead), (146, .dead), (147, .dead), (169, .dead), (170, .dead), (171, .dead), (178, .dead)], [(0, .p [(.int .i64 x5594), (.lst false n5596 c5597)]), (1, .p c5717), (2, .p c5718)], 3, []⟩) (by kernel_rfl))) ⟨n, Nat.lt_succ_self n, _, _, h6085, rfl⟩
            · have hh := getN_some h6085; clear h6085; rcases hh with ⟨h5841, h6085⟩ | ⟨n5842, c5843, h5841, h6085⟩
              · refine W_sound tab_ok mixed 36 _ _ _ ?_
                simp -implicitDefEqProofs only [go_sem, qa, qb, qc, qd, qe, qf, qg, qh, qi, qj, qk, ↓reduceIte, h5574, h5582, h5590, h5593, h5595, h5721, h5783, h5786, g5834, h5837, h5839, h5841]
                repeat with_reducible refine ⟨by first | kernel_rfl | decide, ?_⟩
                exact cutQ _ ((Wk_le (.r (.r (.r (.r (.r (.r (.r (.r (.r (.r (.r (.r (.k (.k (.r (.r (.r (.r (.r (.r (.r (.r (.r (.r (.r (.r (.r (.r (.r (.r (.r (.r (.r (.k (.r (.r (.r (.r (.r (.r (.r (.r (.r .nil))))))))))))))))))))))))))))))))))))))))))) (OLe.refl _)).trans (cmpS_ok (st' := ⟨[], [(0, .dead), (1, .dead), (2, .dead), (3, .dead), (4, .dead), (5, .ptr 0 0), (6, .sl false 1 0 n5715 1), (7, .sl false 2 0 n5716 2), (8, .dead), (9, .dead), (10, .v (.lst false n5787 c5788)), (11, .dead), (12, .dead), (13, .dead), (15, .dead), (16, .dead), (17, .dead), (18, .dead), (19, .dead), (21, .dead), (23, .dead), (27, .dead), (28, .dead), (29, .dead), (30, .dead), (36, .dead), (70, .v (.int .u64 (IntKind.u64.wrap (x5722 + 1)))), (71, .v (.int .u64 (IntKind.u64.wrap (x5782 + 1)))), (72, .dead), (76, .dead), (77, .dead), (78, .dead), (79, .dead), (116, .dead), (129, .dead), (144, .dead), (145, .dead), (146, .dead), (147, .dead), (169, .dead), (170, .dead), (171, .dead), (178, .dead)], [(0, .p [(.int .i64 x5594), (.lst false n5596 c5597)]), (1, .p c5717), (2, .p c5718)], 3, []⟩) (by kernel_rfl))) ⟨n, Nat.lt_succ_self n, _, _, h6085, rfl⟩
              · have hh := grd_some h6085; clear h6085; obtain ⟨g5844, h6085⟩ := hh
                have hh := brn_some h6085; clear h6085; rcases hh with ⟨h5845, h6085⟩ | ⟨h5845, h6085⟩
                · refine W_sound tab_ok mixed 36 _ _ _ ?_
                  simp -implicitDefEqProofs only [go_sem, qa, qb, qc, qd, qe, qf, qg, qh, qi, qj, qk, ↓reduceIte, h5574, h5582, h5590, h5593, h5595, h5721, h5783, h5786, g5834, h5837, h5839, h5841, g5844, h5845]
                  repeat with_reducible refine ⟨by first | kernel_rfl | decide, ?_⟩
                  exact cutQ _ ((Wk_le (.r (.r (.r (.r (.r (.r (.r (.r (.r (.r (.r (.r (.k (.k (.r (.r (.r (.r (.r (.r (.r (.r (.r (.r (.r (.r (.r (.r (.r (.r (.r (.r (.r (.k (.r (.r (.r (.r (.r (.r (.r (.r (.r .nil))))))))))))))))))))))))))))))))))))))))))) (OLe.refl _)).trans (cmpS_ok (st' := ⟨[], [(0, .dead), (1, .dead), (2, .dead), (3, .dead), (4, .dead), (5, .ptr 0 0), (6, .sl false 1 0 n5715 1), (7, .sl false 2 0 n5716 2), (8, .dead), (9, .dead), (10, .v (.lst false n5787 c5788)), (11, .dead), (12, .dead), (13, .dead), (15, .dead), (16, .dead), (17, .dead), (18, .dead), (19, .dead), (21, .dead), (23, .dead), (27, .dead), (28, .dead), (29, .dead), (30, .dead), (36, .dead), (70, .v (.int .u64 (IntKind.u64.wrap (x5722 + 1)))), (71, .v (.int .u64 (IntKind.u64.wrap (x5782 + 1)))), (72, .dead), (76, .dead), (77, .dead), (78, .dead), (79, .dead), (116, .dead), (129, .dead), (144, .dead), (145, .dead), (146, .dead), (147, .dead), (169, .dead), (170, .dead), (171, .dead), (178, .dead)], [(0, .p [(.int .i64 x5594), (.lst false n5596 c5597)]), (1, .p c5717), (2, .p c5718)], 3, []⟩) (by kernel_rfl))) ⟨n, Nat.lt_succ_self n, _, _, h6085, rfl⟩
                · have hh := brn_some h6085; clear h6085; rcases hh with ⟨h5846, h6085⟩ | ⟨h5846, h6085⟩
                  · have hh := bnd'_some h6085; clear h6085; obtain ⟨p5847, h5848, h6085⟩ := hh
                    refine W_sound tab_ok mixed 20 _ _ _ ?_
                    simp -implicitDefEqProofs only [go_sem, qa, qb, qc, qd, qe, qf, qg, qh, qi, qj, qk, ↓reduceIte, h5574, h5582, h5590, h5593, h5595, h5721, h5783, h5786, g5834, h5837, h5839, h5841, g5844, h5845, h5846]
                    repeat with_reducible refine ⟨by first | kernel_rfl | decide, ?_⟩
                    refine Wp_callP (c47 N _ _ _ h5848) (by kernel_rfl) rfl rfl rfl rfl (by decide) ?_
                    have hh := getI_some h6085; clear h6085; obtain ⟨x5850, h5849, h6085⟩ := hh
                    have hh := brn_some h6085; clear h6085; rcases hh with ⟨h5851, h6085⟩ | ⟨h5851, h6085⟩
                    · refine W_sound tab_ok mixed 15 _ _ _ ?_
                      simp -implicitDefEqProofs only [go_sem, qa, qb, qc, qd, qe, qf, qg, qh, qi, qj, qk, ↓reduceIte, h5574, h5582, h5590, h5593, h5595, h5721, h5783, h5786, g5834, h5837, h5839, h5841, g5844, h5845, h5846, h5849, h5851]
                      repeat with_reducible refine ⟨by first | kernel_rfl | decide, ?_⟩
                      exact cutQ _ ((Wk_le (.r (.r (.r (.r (.r (.r (.r (.r (.r (.r (.r (.r (.k (.k (.r (.r (.r (.r (.r (.r (.r (.r (.r (.r (.r (.r (.r (.r (.r (.r (.r (.r (.r (.k (.r (.r (.r (.r (.r (.r (.r (.r (.r .nil))))))))))))))))))))))))))))))))))))))))))) (OLe.refl _)).trans (cmpS_ok (st' := ⟨[], [(0, .dead), (1, .dead), (2, .dead), (3, .dead), (4, .dead), (5, .ptr 0 0), (6, .sl false 1 0 n5715 1), (7, .sl false 2 0 n5716 2), (8, .dead), (9, .dead), (10, .v (.lst false n5787 c5788)), (11, .dead), (12, .dead), (13, .dead), (15, .dead), (16, .dead), (17, .dead), (18, .dead), (19, .dead), (21, .dead), (23, .dead), (27, .dead), (28, .dead), (29, .dead), (30, .dead), (36, .dead), (70, .v (.int .u64 (IntKind.u64.wrap (x5722 + 1)))), (71, .v (.int .u64 (IntKind.u64.wrap (x5782 + 1)))), (72, .dead), (76, .dead), (77, .dead), (78, .dead), (79, .dead), (116, .dead), (129, .dead), (144, .dead), (145, .dead), (146, .dead), (147, .dead), (169, .dead), (170, .dead), (171, .dead), (178, .dead)], [(0, .p [(.int .i64 x5594), (.lst false n5596 c5597)]), (1, .p c5717), (2, .p c5718)], 3, []⟩) (by kernel_rfl))) ⟨n, Nat.lt_succ_self n, _, _, h6085, rfl⟩
                    · refine W_sound tab_ok mixed 12 _ _ _ ?_
                      simp -implicitDefEqProofs only [go_sem, qa, qb, qc, qd, qe, qf, qg, qh, qi, qj, qk, ↓reduceIte, h5574, h5582, h5590, h5593, h5595, h5721, h5783, h5786, g5834, h5837, h5839, h5841, g5844, h5845, h5846, h5849, h5851]
                      repeat with_reducible refine ⟨by first | kernel_rfl | decide, ?_⟩
                      exact cutQ _ ((Wk_le (.r (.r (.r (.r (.r (.r (.r (.r (.r (.r (.r (.r (.k (.k (.r (.r (.r (.r (.r (.r (.r (.r (.r (.r (.r (.r (.r (.r (.r (.r (.r (.r (.r (.k (.r (.r (.r (.r (.r (.r (.r (.r (.r .nil))))))))))))))))))))))))))))))))))))))))))) (OLe.refl _)).trans (cmpS_ok (st' := ⟨[], [(0, .dead), (1, .dead), (2, .dead), (3, .dead), (4, .dead), (5, .ptr 0 0), (6, .sl false 1 0 n5715 1), (7, .sl false 2 0 n5716 2), (8, .dead), (9, .dead), (10, .v (.lst false n5842 c5843)), (11, .dead), (12, .dead), (13, .dead), (15, .dead), (16, .dead), (17, .dead), (18, .dead), (19, .dead), (21, .dead), (23, .dead), (27, .dead), (28, .dead), (29, .dead), (30, .dead), (36, .dead), (70, .v (.int .u64 (IntKind.u64.wrap (x5722 + 1)))), (71, .v (.int .u64 (IntKind.u64.wrap (x5782 + 1)))), (72, .dead), (76, .dead), (77, .dead), (78, .dead), (79, .dead), (116, .dead), (129, .dead), (144, .dead), (145, .dead), (146, .dead), (147, .dead), (169, .dead), (170, .dead), (171, .dead), (178, .dead)], [(0, .p [(.int .i64 x5594), (.lst false n5596 c5597)]), (1, .p c5717), (2, .p c5718)], 3, []⟩) (by kernel_rfl))) ⟨n, Nat.lt_succ_self n, _, _, h6085, rfl⟩
                  · refine W_sound tab_ok mixed 33 _ _ _ ?_
                    simp -implicitDefEqProofs only [go_sem, qa, qb, qc, qd, qe, qf, qg, qh, qi, qj, qk, ↓reduceIte, h5574, h5582, h5590, h5593, h5595, h5721, h5783, h5786, g5834, h5837, h5839, h5841, g5844, h5845, h5846]
                    repeat with_reducible refine ⟨by first | kernel_rfl | decide, ?_⟩
                    exact cutQ _ ((Wk_le (.r (.r (.r (.r (.r (.r (.r (.r (.r (.r (.r (.r (.k (.k (.r (.r (.r (.r (.r (.r (.r (.r (.r (.r (.r (.r (.r (.r (.r (.r (.r (.r (.r (.k (.r (.r (.r (.r (.r (.r (.r (.r (.r .nil))))))))))))))))))))))))))))))))))))))))))) (OLe.refl _)).trans (cmpS_ok (st' := ⟨[], [(0, .dead), (1, .dead), (2, .dead), (3, .dead), (4, .dead), (5, .ptr 0 0), (6, .sl false 1 0 n5715 1), (7, .sl false 2 0 n5716 2), (8, .dead), (9, .dead), (10, .v (.lst false n5842 c5843)), (11, .dead), (12, .dead), (13, .dead), (15, .dead), (16, .dead), (17, .dead), (18, .dead), (19, .dead), (21, .dead), (23, .dead), (27, .dead), (28, .dead), (29, .dead), (30, .dead), (36, .dead), (70, .v (.int .u64 (IntKind.u64.wrap (x5722 + 1)))), (71, .v (.int .u64 (IntKind.u64.wrap (x5782 + 1)))), (72, .dead), (76, .dead), (77, .dead), (78, .dead), (79, .dead), (116, .dead), (129, .dead), (144, .dead), (145, .dead), (146, .dead), (147, .dead), (169, .dead), (170, .dead), (171, .dead), (178, .dead)], [(0, .p [(.int .i64 x5594), (.lst false n5596 c5597)]), (1, .p c5717), (2, .p c5718)], 3, []⟩) (by kernel_rfl))) ⟨n, Nat.lt_succ_self n, _, _, h6085, rfl⟩
        · refine W_sound tab_ok mixed 7 _ _ _ ?_
          simp -implicitDefEqProofs only [go_sem, qa, qb, qc, qd, qe, qf, qg, qh, qi, qj, qk, ↓reduceIte, h5574, h5582, h5590, h5593, h5595, h5721, h5783]
          repeat with_reducible refine ⟨by first | kernel_rfl | decide, ?_⟩
          obtain rfl := Option.some.inj h6081
          exact cutQ _ ((Wk_le (.r (.r (.r (.r (.r (.r (.r (.r (.r (.r (.r (.r (.r (.r (.r (.r (.r (.r (.r (.r (.r (.r (.r (.r (.r (.r (.k (.k (.k (.r (.r (.r (.r (.r (.r (.r (.r (.r (.r (.r (.r (.r (.r .nil))))))))))))))))))))))))))))))))))))))))))) (OLe.refl _)).trans (cmpS_ok (st' := ⟨[], [(0, .dead), (1, .dead), (2, .dead), (3, .dead), (4, .dead), (5, .ptr 0 0), (6, .sl false 1 0 n5715 1), (7, .sl false 2 0 n5716 2), (8, .dead), (9, .dead), (10, .v p5781), (11, .dead), (12, .dead), (13, .dead), (15, .dead), (16, .dead), (17, .dead), (18, .dead), (19, .dead), (21, .dead), (23, .dead), (27, .dead), (28, .dead), (29, .dead), (30, .dead), (36, .dead), (70, .dead), (71, .dead), (72, .dead), (76, .dead), (77, .dead), (78, .dead), (79, .dead), (116, .dead), (129, .dead), (144, .dead), (145, .dead), (146, .dead), (147, .dead), (169, .dead), (170, .dead), (171, .dead), (178, .dead)], [(0, .p [(.int .i64 x5594), (.lst false n5596 c5597)]), (1, .p c5717), (2, .p c5718)], 3, []⟩) (by kernel_rfl))) ⟨_, rfl, rfl⟩
    · rintro _ ⟨p5852, rfl, rfl⟩
      have hh := bnd'_some h6082; clear h6082; obtain ⟨p5967, h5968, h6082⟩ := hh
      (try dsimp only at h6082)
      refine W_sound tab_ok mixed 4 _ _ _ ?_
      simp -implicitDefEqProofs only [go_sem, qa, qb, qc, qd, qe, qf, qg, qh, qi, qj, qk, ↓reduceIte, h5574, h5582, h5590, h5593, h5595, h5721]
      repeat with_reducible refine ⟨by first | kernel_rfl | decide, ?_⟩
      refine Wp_callD [1] (c19_2 N _ _ _ _ h5968) rfl rfl rfl (by first | rfl | (simp only [go_sem, qa, qb, qc, qd, qe, qf, qg, qh, qi, qj, qk, ↓reduceIte, h5574, h5582, h5590, h5593, h5595, h5721] <;> rfl)) rfl (by kernel_rfl) ?_
      have hh := getT2_some h6082; clear h6082; obtain ⟨p5970, p5971, h5969, h6082⟩ := hh
      have hh := getL_some h6082; clear h6082; obtain ⟨n5973, c5974, h5972, h6082⟩ := hh
      have hh := getI_some h6082; clear h6082; obtain ⟨x5976, h5975, h6082⟩ := hh
      refine W_sound tab_ok mixed 7 _ _ _ ?_
      simp -implicitDefEqProofs only [go_sem, qa, qb, qc, qd, qe, qf, qg, qh, qi, qj, qk, ↓reduceIte, h5574, h5582, h5590, h5593, h5595, h5721, h5969, h5972, h5975]
      repeat with_reducible refine ⟨by first | kernel_rfl | decide, ?_⟩
      have hh := grd_some h6082; clear h6082; obtain ⟨g5977, h6082⟩ := hh
      refine Wp_wkK (Wk_freeze 1 c5717 (by rfl) (by decide) (by decide)) rfl ?_
      simp -implicitDefEqProofs only [go_sem, qa, qb, qc, qd, qe, qf, qg, qh, qi, qj, qk, ↓reduceIte, h5574, h5582, h5590, h5593, h5595, h5721, h5969, h5972, h5975, g5977]
      have hh := bnd'_some h6082; clear h6082; obtain ⟨p5978, h5979, h6082⟩ := hh
      refine W_sound tab_ok mixed 3 _ _ _ ?_
      simp -implicitDefEqProofs only [go_sem, qa, qb, qc, qd, qe, qf, qg, qh, qi, qj, qk, ↓reduceIte, h5574, h5582, h5590, h5593, h5595, h5721, h5969, h5972, h5975, g5977]
      repeat with_reducible refine ⟨by first | kernel_rfl | decide, ?_⟩
      refine Wp_callP (c24 N _ _ _ h5979) (by kernel_rfl) rfl rfl rfl rfl (by decide) ?_
      have hh := getI_some h6082; clear h6082; obtain ⟨x5981, h5980, h6082⟩ := hh
      have hh := getN_some h6082; clear h6082; rcases hh with ⟨h5983, h6082⟩ | ⟨n5984, c5985, h5983, h6082⟩
      · have hh := brn_some h6082; clear h6082; rcases hh with ⟨h5986, h6082⟩ | ⟨h5986, h6082⟩
        · have hh := brn_some h6082; clear h6082; rcases hh with ⟨h5987, h6082⟩ | ⟨h5987, h6082⟩
          · have hh := brn_some h6082; clear h6082; rcases hh with ⟨h5988, h6082⟩ | ⟨h5988, h6082⟩
            · have hh := bnd'_some h6082; clear h6082; obtain ⟨p5989, h5990, h6082⟩ := hh
              refine W_sound tab_ok mixed 23 _ _ _ ?_
              simp -implicitDefEqProofs only [go_sem, qa, qb, qc, qd, qe, qf, qg, qh, qi, qj, qk, ↓reduceIte, h5574, h5582, h5590, h5593, h5595, h5721, h5969, h5972, h5975, g5977, h5980, h5983, h5986, h5987, h5988]
              repeat with_reducible refine ⟨by first | kernel_rfl | decide, ?_⟩
              refine Wp_callP (c16 N  _ h5990) (by kernel_rfl) rfl rfl rfl rfl (by decide) ?_
              have hh := getB_some h6082; clear h6082; obtain ⟨b5992, h5991, h6082⟩ := hh
              refine W_sound tab_ok mixed 5 _ _ _ ?_
              simp -implicitDefEqProofs only [go_sem, qa, qb, qc, qd, qe, qf, qg, qh, qi, qj, qk, ↓reduceIte, h5574, h5582, h5590, h5593, h5595, h5721, h5969, h5972, h5975, g5977, h5980, h5983, h5986, h5987, h5988, h5991]
              repeat with_reducible refine ⟨by first | kernel_rfl | decide, ?_⟩
              obtain rfl := Option.some.inj h6082
              exact finC [(4, .v (.bool b5992))] [(4, .v (.bool b5992))] (by simp [leE, lk_cons]) (.cons _ _ _ _ _ (.v _ _ (.refl _)) .nil) (by rfl) (by simp [leE, lk_cons]) (by decide) (by decide) rfl (by simp only [go_sem, qa, qb, qc, qd, qe, qf, qg, qh, qi, qj, qk, ↓reduceIte, resQ_tmp, resQ_cell, resQ_nil, retD_one, retD_two, retD_three, retD_none]; try simp [R.val, retD_one, retD_two, retD_three, retD_none])
            · refine W_sound tab_ok mixed 29 _ _ _ ?_
              simp -implicitDefEqProofs only [go_sem, qa, qb, qc, qd, qe, qf, qg, qh, qi, qj, qk, ↓reduceIte, h5574, h5582, h5590, h5593, h5595, h5721, h5969, h5972, h5975, g5977, h5980, h5983, h5986, h5987, h5988]
              repeat with_reducible refine ⟨by first | kernel_rfl | decide, ?_⟩
              obtain rfl := Option.some.inj h6082
              exact finC [(4, .v (.bool false))] [(4, .v (.bool false))] (by simp [leE, lk_cons]) (.cons _ _ _ _ _ (.v _ _ (.refl _)) .nil) (by rfl) (by simp [leE, lk_cons]) (by decide) (by decide) rfl (by simp only [go_sem, qa, qb, qc, qd, qe, qf, qg, qh, qi, qj, qk, ↓reduceIte, resQ_tmp, resQ_cell, resQ_nil, retD_one, retD_two, retD_three, retD_none]; try simp [R.val, retD_one, retD_two, retD_three, retD_none])
          · refine W_sound tab_ok mixed 29 _ _ _ ?_
            simp -implicitDefEqProofs only [go_sem, qa, qb, qc, qd, qe, qf, qg, qh, qi, qj, qk, ↓reduceIte, h5574, h5582, h5590, h5593, h5595, h5721, h5969, h5972, h5975, g5977, h5980, h5983, h5986, h5987]
            repeat with_reducible refine ⟨by first | kernel_rfl | decide, ?_⟩
            obtain rfl := Option.some.inj h6082
            exact finC [(4, .v (.bool false))] [(4, .v (.bool false))] (by simp [leE, lk_cons]) (.cons _ _ _ _ _ (.v _ _ (.refl _)) .nil) (by rfl) (by simp [leE, lk_cons]) (by decide) (by decide) rfl (by simp only [go_sem, qa, qb, qc, qd, qe, qf, qg, qh, qi, qj, qk, ↓reduceIte, resQ_tmp, resQ_cell, resQ_nil, retD_one, retD_two, retD_three, retD_none]; try simp [R.val, retD_one, retD_two, retD_three, retD_none])
        · refine W_sound tab_ok mixed 29 _ _ _ ?_
          simp -implicitDefEqProofs only [go_sem, qa, qb, qc, qd, qe, qf, qg, qh, qi, qj, qk, ↓reduceIte, h5574, h5582, h5590, h5593, h5595, h5721, h5969, h5972, h5975, g5977, h5980, h5983, h5986]
          repeat with_reducible refine ⟨by first | kernel_rfl | decide, ?_⟩
          obtain rfl := Option.some.inj h6082
          exact finC [(4, .v (.bool false))] [(4, .v (.bool false))] (by simp [leE, lk_cons]) (.cons _ _ _ _ _ (.v _ _ (.refl _)) .nil) (by rfl) (by simp [leE, lk_cons]) (by decide) (by decide) rfl (by simp only [go_sem, qa, qb, qc, qd, qe, qf, qg, qh, qi, qj, qk, ↓reduceIte, resQ_tmp, resQ_cell, resQ_nil, retD_one, retD_two, retD_three, retD_none]; try simp [R.val, retD_one, retD_two, retD_three, retD_none])
      · have hh := grd_some h6082; clear h6082; obtain ⟨g5993, h6082⟩ := hh
        refine W_sound tab_ok mixed 21 _ _ _ ?_
        simp -implicitDefEqProofs only [go_sem, qa, qb, qc, qd, qe, qf, qg, qh, qi, qj, qk, ↓reduceIte, h5574, h5582, h5590, h5593, h5595, h5721, h5969, h5972, h5975, g5977, h5980, h5983, g5993]
        repeat with_reducible refine ⟨by first | kernel_rfl | decide, ?_⟩
        have hh := bnd'_some h6082; clear h6082; obtain ⟨o6086, h6087, h6088⟩ := hh
        refine Wp_cut (fun s => ∃ c6049, c6049 = o6086 ∧ s = ⟨[], [(0, .dead), (1, .dead), (2, .dead), (3, .dead), (4, .dead), (5, .dead), (6, .dead), (7, .dead), (8, .dead), (9, .dead), (10, .v (.lst false n5984 c5985)), (11, .dead), (12, .dead), (13, .dead), (15, .dead), (16, .v (.lst false n5973 c5974)), (17, .v (.int .i64 x5976)), (18, .v (.int .i64 x5981)), (19, .ptr 0 0), (21, .dead), (23, .dead), (27, .dead), (28, .dead), (29, .dead), (30, .dead), (36, .dead), (70, .dead), (71, .dead), (72, .dead), (76, .dead), (77, .dead), (78, .dead), (79, .dead), (116, .dead), (129, .dead), (144, .dead), (145, .dead), (146, .dead), (147, .dead), (169, .dead), (170, .dead), (171, .dead), (178, .dead)], [(0, .p c6049)], 1, []⟩) ?_ ?_
        · refine Wp_block ?_
          refine Wp_loopG (fun n s => ∃ x6021, ∃ c6022, m9_L3 N n5716 c5718 n5973 c5974 x5976 x5981 n5984 c5985 n x6021 c6022 = some o6086 ∧ s = ⟨[], [(0, .dead), (1, .dead), (2, .dead), (3, .dead), (4, .dead), (5, .dead), (6, .dead), (7, .sl false 0 0 n5716 2), (8, .dead), (9, .dead), (10, .v (.lst false n5984 c5985)), (11, .dead), (12, .dead), (13, .dead), (15, .dead), (16, .v (.lst false n5973 c5974)), (17, .v (.int .i64 x5976)), (18, .v (.int .i64 x5981)), (19, .ptr 1 0), (21, .dead), (23, .dead), (27, .dead), (28, .dead), (29, .dead), (30, .dead), (36, .dead), (70, .dead), (71, .dead), (72, .dead), (76, .dead), (77, .dead), (78, .dead), (79, .dead), (116, .dead), (129, .dead), (144, .v (.lst false n5984 c5985)), (145, .v (.int .i64 ((n5984 : Nat) : Int))), (146, .v (.int .i64 x6021)), (147, .dead), (169, .dead), (170, .dead), (171, .dead), (178, .dead)], [(0, .p c5718), (1, .p c6022)], 2, []⟩) N _ ((Wk_le (.r (.r (.r (.r (.r (.k (.k (.r (.r (.r (.r (.r (.r (.r (.r (.r (.r (.r (.r (.r (.r (.r (.r (.r (.r (.r (.r (.r (.r (.r (.r (.r (.r (.r (.k (.r (.r (.r (.r (.r (.r (.r (.r .nil))))))))))))))))))))))))))))))))))))))))))) (OLe.refl _)).trans (cmpS_ok (st' := ⟨[], [(0, .dead), (1, .dead), (2, .dead), (3, .dead), (4, .dead), (5, .dead), (6, .dead), (7, .sl false 0 0 n5716 2), (8, .dead), (9, .dead), (10, .v (.lst false n5984 c5985)), (11, .dead), (12, .dead), (13, .dead), (15, .dead), (16, .v (.lst false n5973 c5974)), (17, .v (.int .i64 x5976)), (18, .v (.int .i64 x5981)), (19, .ptr 1 0), (21, .dead), (23, .dead), (27, .dead), (28, .dead), (29, .dead), (30, .dead), (36, .dead), (70, .dead), (71, .dead), (72, .dead), (76, .dead), (77, .dead), (78, .dead), (79, .dead), (116, .dead), (129, .dead), (144, .v (.lst false n5984 c5985)), (145, .v (.int .i64 ((n5984 : Nat) : Int))), (146, .v (.int .i64 0)), (147, .dead), (169, .dead), (170, .dead), (171, .dead), (178, .dead)], [(0, .p c5718), (1, .p [(.int .i64 0), (.int .i64 0), (.int .i64 0), (.int .i64 0), (.int .i64 0)])], 2, []⟩) (by kernel_rfl))) ⟨_, _, h6087, rfl⟩ ?_
          clear h6087
          rintro n _ ⟨x6021, c6022, h6087, rfl⟩
          cases n with
          | zero => cases h6087
          | succ n =>
            rw [m9_L3] at h6087
            have hh := brn_some h6087; clear h6087; rcases hh with ⟨h6023, h6087⟩ | ⟨h6023, h6087⟩
            · have hh := grd_some h6087; clear h6087; obtain ⟨⟨g6024, g6025⟩, h6087⟩ := hh
              have hh := grd_some h6087; clear h6087; obtain ⟨g6026, h6087⟩ := hh
              have hh := getI_some h6087; clear h6087; obtain ⟨x6028, h6027, h6087⟩ := hh
              have hh := grd_some h6087; clear h6087; obtain ⟨⟨g6029, g6030⟩, h6087⟩ := hh
              have hh := grd_some h6087; clear h6087; obtain ⟨g6031, h6087⟩ := hh
              have hh := getI_some h6087; clear h6087; obtain ⟨x6033, h6032, h6087⟩ := hh
              have hh := grd_some h6087; clear h6087; obtain ⟨⟨g6034, g6035⟩, h6087⟩ := hh
              have hh := grd_some h6087; clear h6087; obtain ⟨g6036, h6087⟩ := hh
              have hh := getI_some h6087; clear h6087; obtain ⟨x6038, h6037, h6087⟩ := hh
              have hh := grd_some h6087; clear h6087; obtain ⟨g6039, h6087⟩ := hh
              have hh := grd_some h6087; clear h6087; obtain ⟨g6040, h6087⟩ := hh
              have hh := getI_some h6087; clear h6087; obtain ⟨x6042, h6041, h6087⟩ := hh
              have hh := grd_some h6087; clear h6087; obtain ⟨⟨g6043, g6044⟩, h6087⟩ := hh
              have hh := grd_some h6087; clear h6087; obtain ⟨g6045, h6087⟩ := hh
              have hh := getI_some h6087; clear h6087; obtain ⟨x6047, h6046, h6087⟩ := hh
              have hh := grd_some h6087; clear h6087; obtain ⟨g6048, h6087⟩ := hh
              refine W_sound tab_ok mixed 45 _ _ _ ?_
              simp -implicitDefEqProofs only [go_sem, qa, qb, qc, qd, qe, qf, qg, qh, qi, qj, qk, ↓reduceIte, h5574, h5582, h5590, h5593, h5595, h5721, h5969, h5972, h5975, g5977, h5980, h5983, g5993, h6023, g6024, g6025, g6026, h6027, g6029, g6030, g6031, h6032, g6034, g6035, g6036, h6037, g6039, g6040, h6041, g6043, g6044, g6045, h6046, g6048]
              repeat with_reducible refine ⟨by first | kernel_rfl | decide, ?_⟩
              exact cutQ _ ((Wk_le (.r (.r (.r (.r (.r (.r (.r (.r (.r (.r (.r (.r (.r (.r (.r (.r (.r (.r (.r (.k (.r (.r (.r (.r (.r (.r (.r (.r (.r (.r (.r (.r (.r (.r (.r (.r (.r (.r (.k (.r (.r (.r (.r .nil))))))))))))))))))))))))))))))))))))))))))) (OLe.refl _)).trans (cmpS_ok (st' := ⟨[], [(0, .dead), (1, .dead), (2, .dead), (3, .dead), (4, .dead), (5, .dead), (6, .dead), (7, .sl false 0 0 n5716 2), (8, .dead), (9, .dead), (10, .v (.lst false n5984 c5985)), (11, .dead), (12, .dead), (13, .dead), (15, .dead), (16, .v (.lst false n5973 c5974)), (17, .v (.int .i64 x5976)), (18, .v (.int .i64 x5981)), (19, .ptr 1 0), (21, .dead), (23, .dead), (27, .dead), (28, .dead), (29, .dead), (30, .dead), (36, .dead), (70, .dead), (71, .dead), (72, .dead), (76, .dead), (77, .dead), (78, .dead), (79, .dead), (116, .dead), (129, .dead), (144, .v (.lst false n5984 c5985)), (145, .v (.int .i64 ((n5984 : Nat) : Int))), (146, .v (.int .i64 (IntKind.i64.wrap (x6021 + 1)))), (147, .dead), (169, .dead), (170, .dead), (171, .dead), (178, .dead)], [(0, .p c5718), (1, .p (List.set (List.set c6022 (Int.toNat x6033) (.int .i64 (IntKind.i64.wrap (x6038 + 1)))) (Int.toNat x6042) (.int .i64 (IntKind.i64.wrap (x6047 + 1)))))], 2, []⟩) (by kernel_rfl))) ⟨n, Nat.lt_succ_self n, _, _, h6087, rfl⟩
            · refine W_sound tab_ok mixed 7 _ _ _ ?_
              simp -implicitDefEqProofs only [go_sem, qa, qb, qc, qd, qe, qf, qg, qh, qi, qj, qk, ↓reduceIte, h5574, h5582, h5590, h5593, h5595, h5721, h5969, h5972, h5975, g5977, h5980, h5983, g5993, h6023]
              repeat with_reducible refine ⟨by first | kernel_rfl | decide, ?_⟩
              obtain rfl := Option.some.inj h6087
              exact cutQ _ ((Wk_le (.r (.r (.r (.r (.r (.r (.r (.k (.r (.r (.r (.r (.r (.r (.r (.r (.r (.r (.r (.r (.r (.r (.r (.r (.r (.r (.r (.r (.r (.r (.r (.r (.r (.r (.r (.k (.k (.k (.k (.r (.r (.r (.r .nil))))))))))))))))))))))))))))))))))))))))))) (OLe.refl _)).trans (cmpS_ok (st' := ⟨[], [(0, .dead), (1, .dead), (2, .dead), (3, .dead), (4, .dead), (5, .dead), (6, .dead), (7, .dead), (8, .dead), (9, .dead), (10, .v (.lst false n5984 c5985)), (11, .dead), (12, .dead), (13, .dead), (15, .dead), (16, .v (.lst false n5973 c5974)), (17, .v (.int .i64 x5976)), (18, .v (.int .i64 x5981)), (19, .ptr 0 0), (21, .dead), (23, .dead), (27, .dead), (28, .dead), (29, .dead), (30, .dead), (36, .dead), (70, .dead), (71, .dead), (72, .dead), (76, .dead), (77, .dead), (78, .dead), (79, .dead), (116, .dead), (129, .dead), (144, .dead), (145, .dead), (146, .dead), (147, .dead), (169, .dead), (170, .dead), (171, .dead), (178, .dead)], [(0, .p c6022)], 1, []⟩) (by kernel_rfl))) ⟨_, rfl, rfl⟩
        · rintro _ ⟨c6049, rfl, rfl⟩
          have hh := grd_some h6088; clear h6088; obtain ⟨g6050, h6088⟩ := hh
          have hh := getA5_some h6088; clear h6088; obtain ⟨p6052, p6053, p6054, p6055, p6056, h6051, h6088⟩ := hh
          injection h6051 with h6051
          refine W_sound tab_ok mixed 6 _ _ _ ?_
          simp -implicitDefEqProofs only [go_sem, qa, qb, qc, qd, qe, qf, qg, qh, qi, qj, qk, ↓reduceIte, h5574, h5582, h5590, h5593, h5595, h5721, h5969, h5972, h5975, g5977, h5980, h5983, g5993, g6050, h6051]
          repeat with_reducible refine ⟨by first | kernel_rfl | decide, ?_⟩
          have hh := bnd'_some h6088; clear h6088; obtain ⟨o6089, h6090, h6091⟩ := hh
          refine Wp_cut (fun s => (.inr ()) = o6089 ∧ s = ⟨[], [(0, .dead), (1, .dead), (2, .dead), (3, .dead), (4, .dead), (5, .dead), (6, .dead), (7, .dead), (8, .dead), (9, .dead), (10, .v (.lst false n5984 c5985)), (11, .dead), (12, .dead), (13, .dead), (15, .dead), (16, .v (.lst false n5973 c5974)), (17, .v (.int .i64 x5976)), (18, .v (.int .i64 x5981)), (19, .dead), (21, .dead), (23, .dead), (27, .dead), (28, .dead), (29, .dead), (30, .dead), (36, .dead), (70, .dead), (71, .dead), (72, .dead), (76, .dead), (77, .dead), (78, .dead), (79, .dead), (116, .dead), (129, .dead), (144, .dead), (145, .dead), (146, .dead), (147, .dead), (169, .dead), (170, .dead), (171, .dead), (178, .dead)], [], 0, []⟩) ?_ ?_
          · refine Wp_block ?_
            refine Wp_loopG (fun n s => ∃ x6057, m9_L4 N n5973 c5974 x5976 x5981 n5984 c5985 p6052 p6053 p6054 p6055 p6056 n x6057 = some o6089 ∧ s = ⟨[], [(0, .dead), (1, .dead), (2, .dead), (3, .dead), (4, .dead), (5, .dead), (6, .dead), (7, .dead), (8, .dead), (9, .dead), (10, .v (.lst false n5984 c5985)), (11, .dead), (12, .dead), (13, .dead), (15, .dead), (16, .v (.lst false n5973 c5974)), (17, .v (.int .i64 x5976)), (18, .v (.int .i64 x5981)), (19, .dead), (21, .dead), (23, .dead), (27, .dead), (28, .dead), (29, .dead), (30, .dead), (36, .dead), (70, .dead), (71, .dead), (72, .dead), (76, .dead), (77, .dead), (78, .dead), (79, .dead), (116, .dead), (129, .dead), (144, .dead), (145, .dead), (146, .dead), (147, .dead), (169, .v (.agg [p6052, p6053, p6054, p6055, p6056])), (170, .v (.int .i64 x6057)), (171, .dead), (178, .dead)], [], 0, []⟩) N _ ((Wk_le (.r (.r (.r (.r (.r (.r (.r (.r (.r (.r (.r (.r (.r (.r (.r (.r (.r (.r (.k (.r (.r (.r (.r (.r (.r (.r (.r (.r (.r (.r (.r (.r (.r (.r (.r (.r (.r (.r (.r (.r (.r (.r (.r .nil))))))))))))))))))))))))))))))))))))))))))) (OLe.refl _)).trans (cmpS_ok (st' := ⟨[], [(0, .dead), (1, .dead), (2, .dead), (3, .dead), (4, .dead), (5, .dead), (6, .dead), (7, .dead), (8, .dead), (9, .dead), (10, .v (.lst false n5984 c5985)), (11, .dead), (12, .dead), (13, .dead), (15, .dead), (16, .v (.lst false n5973 c5974)), (17, .v (.int .i64 x5976)), (18, .v (.int .i64 x5981)), (19, .dead), (21, .dead), (23, .dead), (27, .dead), (28, .dead), (29, .dead), (30, .dead), (36, .dead), (70, .dead), (71, .dead), (72, .dead), (76, .dead), (77, .dead), (78, .dead), (79, .dead), (116, .dead), (129, .dead), (144, .dead), (145, .dead), (146, .dead), (147, .dead), (169, .v (.agg [p6052, p6053, p6054, p6055, p6056])), (170, .v (.int .i64 0)), (171, .dead), (178, .dead)], [], 0, []⟩) (by kernel_rfl))) ⟨_, h6090, rfl⟩ ?_
            clear h6090
            rintro n _ ⟨x6057, h6090, rfl⟩
            cases n with
            | zero => cases h6090
            | succ n =>
              rw [m9_L4] at h6090
              have hh := brn_some h6090; clear h6090; rcases hh with ⟨h6058, h6090⟩ | ⟨h6058, h6090⟩
              · have hh := grd_some h6090; clear h6090; obtain ⟨⟨g6059, g6060⟩, h6090⟩ := hh
                have hh := getI_some h6090; clear h6090; obtain ⟨x6062, h6061, h6090⟩ := hh
                have hh := brn_some h6090; clear h6090; rcases hh with ⟨h6063, h6090⟩ | ⟨h6063, h6090⟩
                · have hh := brn_some h6090; clear h6090; rcases hh with ⟨h6064, h6090⟩ | ⟨h6064, h6090⟩
                  · refine W_sound tab_ok mixed 30 _ _ _ ?_
                    simp -implicitDefEqProofs only [go_sem, qa, qb, qc, qd, qe, qf, qg, qh, qi, qj, qk, ↓reduceIte, h5574, h5582, h5590, h5593, h5595, h5721, h5969, h5972, h5975, g5977, h5980, h5983, g5993, g6050, h6051, h6058, g6059, g6060, h6061, h6063, h6064]
                    repeat with_reducible refine ⟨by first | kernel_rfl | decide, ?_⟩
                    obtain rfl := Option.some.inj h6090
                    (try dsimp only at h6091)
                    obtain rfl := Option.some.inj h6091
                    exact finC [(4, .v (.bool false))] [(4, .v (.bool false))] (by simp [leE, lk_cons]) (.cons _ _ _ _ _ (.v _ _ (.refl _)) .nil) (by rfl) (by simp [leE, lk_cons]) (by decide) (by decide) rfl (by simp only [go_sem, qa, qb, qc, qd, qe, qf, qg, qh, qi, qj, qk, ↓reduceIte, resQ_tmp, resQ_cell, resQ_nil, retD_one, retD_two, retD_three, retD_none]; try simp [R.val, retD_one, retD_two, retD_three, retD_none])
                  · refine W_sound tab_ok mixed 30 _ _ _ ?_
                    simp -implicitDefEqProofs only [go_sem, qa, qb, qc, qd, qe, qf, qg, qh, qi, qj, qk, ↓reduceIte, h5574, h5582, h5590, h5593, h5595, h5721, h5969, h5972, h5975, g5977, h5980, h5983, g5993, g6050, h6051, h6058, g6059, g6060, h6061, h6063, h6064]
                    repeat with_reducible refine ⟨by first | kernel_rfl | decide, ?_⟩
                    exact cutQ _ ((Wk_le (.r (.r (.r (.r (.r (.r (.r (.r (.r (.r (.r (.r (.r (.r (.r (.r (.r (.r (.r (.r (.k (.r (.r (.r (.r (.r (.r (.r (.r (.r (.r (.r (.r (.r (.r (.r (.r (.r (.r (.r (.r (.k (.k .nil))))))))))))))))))))))))))))))))))))))))))) (OLe.refl _)).trans (cmpS_ok (st' := ⟨[], [(0, .dead), (1, .dead), (2, .dead), (3, .dead), (4, .dead), (5, .dead), (6, .dead), (7, .dead), (8, .dead), (9, .dead), (10, .v (.lst false n5984 c5985)), (11, .dead), (12, .dead), (13, .dead), (15, .dead), (16, .v (.lst false n5973 c5974)), (17, .v (.int .i64 x5976)), (18, .v (.int .i64 x5981)), (19, .dead), (21, .dead), (23, .dead), (27, .dead), (28, .dead), (29, .dead), (30, .dead), (36, .dead), (70, .dead), (71, .dead), (72, .dead), (76, .dead), (77, .dead), (78, .dead), (79, .dead), (116, .dead), (129, .dead), (144, .dead), (145, .dead), (146, .dead), (147, .dead), (169, .v (.agg [p6052, p6053, p6054, p6055, p6056])), (170, .v (.int .i64 (IntKind.i64.wrap (x6057 + 1)))), (171, .dead), (178, .dead)], [], 0, []⟩) (by kernel_rfl))) ⟨n, Nat.lt_succ_self n, _, h6090, rfl⟩
                · refine W_sound tab_ok mixed 30 _ _ _ ?_
                  simp -implicitDefEqProofs only [go_sem, qa, qb, qc, qd, qe, qf, qg, qh, qi, qj, qk, ↓reduceIte, h5574, h5582, h5590, h5593, h5595, h5721, h5969, h5972, h5975, g5977, h5980, h5983, g5993, g6050, h6051, h6058, g6059, g6060, h6061, h6063]
                  repeat with_reducible refine ⟨by first | kernel_rfl | decide, ?_⟩
                  exact cutQ _ ((Wk_le (.r (.r (.r (.r (.r (.r (.r (.r (.r (.r (.r (.r (.r (.r (.r (.r (.r (.r (.r (.r (.k (.r (.r (.r (.r (.r (.r (.r (.r (.r (.r (.r (.r (.r (.r (.r (.r (.r (.r (.r (.r (.k (.k .nil))))))))))))))))))))))))))))))))))))))))))) (OLe.refl _)).trans (cmpS_ok (st' := ⟨[], [(0, .dead), (1, .dead), (2, .dead), (3, .dead), (4, .dead), (5, .dead), (6, .dead), (7, .dead), (8, .dead), (9, .dead), (10, .v (.lst false n5984 c5985)), (11, .dead), (12, .dead), (13, .dead), (15, .dead), (16, .v (.lst false n5973 c5974)), (17, .v (.int .i64 x5976)), (18, .v (.int .i64 x5981)), (19, .dead), (21, .dead), (23, .dead), (27, .dead), (28, .dead), (29, .dead), (30, .dead), (36, .dead), (70, .dead), (71, .dead), (72, .dead), (76, .dead), (77, .dead), (78, .dead), (79, .dead), (116, .dead), (129, .dead), (144, .dead), (145, .dead), (146, .dead), (147, .dead), (169, .v (.agg [p6052, p6053, p6054, p6055, p6056])), (170, .v (.int .i64 (IntKind.i64.wrap (x6057 + 1)))), (171, .dead), (178, .dead)], [], 0, []⟩) (by kernel_rfl))) ⟨n, Nat.lt_succ_self n, _, h6090, rfl⟩
              · refine W_sound tab_ok mixed 7 _ _ _ ?_
                simp -implicitDefEqProofs only [go_sem, qa, qb, qc, qd, qe, qf, qg, qh, qi, qj, qk, ↓reduceIte, h5574, h5582, h5590, h5593, h5595, h5721, h5969, h5972, h5975, g5977, h5980, h5983, g5993, g6050, h6051, h6058]
                repeat with_reducible refine ⟨by first | kernel_rfl | decide, ?_⟩
                obtain rfl := Option.some.inj h6090
                exact cutQ _ ((Wk_le (.r (.r (.r (.r (.r (.r (.r (.r (.r (.r (.r (.r (.r (.r (.r (.r (.r (.r (.r (.r (.r (.r (.r (.r (.r (.r (.r (.r (.r (.r (.r (.r (.r (.r (.r (.r (.r (.r (.r (.k (.k (.k (.r .nil))))))))))))))))))))))))))))))))))))))))))) (OLe.refl _)).trans (cmpS_ok (st' := ⟨[], [(0, .dead), (1, .dead), (2, .dead), (3, .dead), (4, .dead), (5, .dead), (6, .dead), (7, .dead), (8, .dead), (9, .dead), (10, .v (.lst false n5984 c5985)), (11, .dead), (12, .dead), (13, .dead), (15, .dead), (16, .v (.lst false n5973 c5974)), (17, .v (.int .i64 x5976)), (18, .v (.int .i64 x5981)), (19, .dead), (21, .dead), (23, .dead), (27, .dead), (28, .dead), (29, .dead), (30, .dead), (36, .dead), (70, .dead), (71, .dead), (72, .dead), (76, .dead), (77, .dead), (78, .dead), (79, .dead), (116, .dead), (129, .dead), (144, .dead), (145, .dead), (146, .dead), (147, .dead), (169, .dead), (170, .dead), (171, .dead), (178, .dead)], [], 0, []⟩) (by kernel_rfl))) ⟨rfl, rfl⟩
          · rintro _ ⟨rfl, rfl⟩
            (try dsimp only at h6091)
            have hh := brn_some h6091; clear h6091; rcases hh with ⟨h6066, h6091⟩ | ⟨h6066, h6091⟩
            · have hh := brn_some h6091; clear h6091; rcases hh with ⟨h6067, h6091⟩ | ⟨h6067, h6091⟩
              · have hh := bnd'_some h6091; clear h6091; obtain ⟨p6068, h6069, h6091⟩ := hh
                refine W_sound tab_ok mixed 11 _ _ _ ?_
                simp -implicitDefEqProofs only [go_sem, qa, qb, qc, qd, qe, qf, qg, qh, qi, qj, qk, ↓reduceIte, h5574, h5582, h5590, h5593, h5595, h5721, h5969, h5972, h5975, g5977, h5980, h5983, g5993, g6050, h6051, h6066, h6067]
                repeat with_reducible refine ⟨by first | kernel_rfl | decide, ?_⟩
                refine Wp_callP (c21 N _ _ _ h6069) (by kernel_rfl) rfl rfl rfl rfl (by decide) ?_
                have hh := getB_some h6091; clear h6091; obtain ⟨b6071, h6070, h6091⟩ := hh
                have hh := brn_some h6091; clear h6091; rcases hh with ⟨h6072, h6091⟩ | ⟨h6072, h6091⟩
                · have hh := bnd'_some h6091; clear h6091; obtain ⟨p6073, h6074, h6091⟩ := hh
                  refine W_sound tab_ok mixed 2 _ _ _ ?_
                  simp -implicitDefEqProofs only [go_sem, qa, qb, qc, qd, qe, qf, qg, qh, qi, qj, qk, ↓reduceIte, h5574, h5582, h5590, h5593, h5595, h5721, h5969, h5972, h5975, g5977, h5980, h5983, g5993, g6050, h6051, h6066, h6067, h6070, h6072]
                  repeat with_reducible refine ⟨by first | kernel_rfl | decide, ?_⟩
                  refine Wp_callP (c16 N  _ h6074) (by kernel_rfl) rfl rfl rfl rfl (by decide) ?_
                  have hh := getB_some h6091; clear h6091; obtain ⟨b6076, h6075, h6091⟩ := hh
                  refine W_sound tab_ok mixed 5 _ _ _ ?_
                  simp -implicitDefEqProofs only [go_sem, qa, qb, qc, qd, qe, qf, qg, qh, qi, qj, qk, ↓reduceIte, h5574, h5582, h5590, h5593, h5595, h5721, h5969, h5972, h5975, g5977, h5980, h5983, g5993, g6050, h6051, h6066, h6067, h6070, h6072, h6075]
                  repeat with_reducible refine ⟨by first | kernel_rfl | decide, ?_⟩
                  obtain rfl := Option.some.inj h6091
                  exact finC [(4, .v (.bool b6076))] [(4, .v (.bool b6076))] (by simp [leE, lk_cons]) (.cons _ _ _ _ _ (.v _ _ (.refl _)) .nil) (by rfl) (by simp [leE, lk_cons]) (by decide) (by decide) rfl (by simp only [go_sem, qa, qb, qc, qd, qe, qf, qg, qh, qi, qj, qk, ↓reduceIte, resQ_tmp, resQ_cell, resQ_nil, retD_one, retD_two, retD_three, retD_none]; try simp [R.val, retD_one, retD_two, retD_three, retD_none])
                · refine W_sound tab_ok mixed 8 _ _ _ ?_
                  simp -implicitDefEqProofs only [go_sem, qa, qb, qc, qd, qe, qf, qg, qh, qi, qj, qk, ↓reduceIte, h5574, h5582, h5590, h5593, h5595, h5721, h5969, h5972, h5975, g5977, h5980, h5983, g5993, g6050, h6051, h6066, h6067, h6070, h6072]
                  repeat with_reducible refine ⟨by first | kernel_rfl | decide, ?_⟩
                  obtain rfl := Option.some.inj h6091
                  exact finC [(4, .v (.bool false))] [(4, .v (.bool false))] (by simp [leE, lk_cons]) (.cons _ _ _ _ _ (.v _ _ (.refl _)) .nil) (by rfl) (by simp [leE, lk_cons]) (by decide) (by decide) rfl (by simp only [go_sem, qa, qb, qc, qd, qe, qf, qg, qh, qi, qj, qk, ↓reduceIte, resQ_tmp, resQ_cell, resQ_nil, retD_one, retD_two, retD_three, retD_none]; try simp [R.val, retD_one, retD_two, retD_three, retD_none])
              · refine W_sound tab_ok mixed 20 _ _ _ ?_
                simp -implicitDefEqProofs only [go_sem, qa, qb, qc, qd, qe, qf, qg, qh, qi, qj, qk, ↓reduceIte, h5574, h5582, h5590, h5593, h5595, h5721, h5969, h5972, h5975, g5977, h5980, h5983, g5993, g6050, h6051, h6066, h6067]
                repeat with_reducible refine ⟨by first | kernel_rfl | decide, ?_⟩
                obtain rfl := Option.some.inj h6091
                exact finC [(4, .v (.bool false))] [(4, .v (.bool false))] (by simp [leE, lk_cons]) (.cons _ _ _ _ _ (.v _ _ (.refl _)) .nil) (by rfl) (by simp [leE, lk_cons]) (by decide) (by decide) rfl (by simp only [go_sem, qa, qb, qc, qd, qe, qf, qg, qh, qi, qj, qk, ↓reduceIte, resQ_tmp, resQ_cell, resQ_nil, retD_one, retD_two, retD_three, retD_none]; try simp [R.val, retD_one, retD_two, retD_three, retD_none])
            · refine W_sound tab_ok mixed 20 _ _ _ ?_
              simp -implicitDefEqProofs only [go_sem, qa, qb, qc, qd, qe, qf, qg, qh, qi, qj, qk, ↓reduceIte, h5574, h5582, h5590, h5593, h5595, h5721, h5969, h5972, h5975, g5977, h5980, h5983, g5993, g6050, h6051, h6066]
              repeat with_reducible refine ⟨by first | kernel_rfl | decide, ?_⟩
              obtain rfl := Option.some.inj h6091
              exact finC [(4, .v (.bool false))] [(4, .v (.bool false))] (by simp [leE, lk_cons]) (.cons _ _ _ _ _ (.v _ _ (.refl _)) .nil) (by rfl) (by simp [leE, lk_cons]) (by decide) (by decide) rfl (by simp only [go_sem, qa, qb, qc, qd, qe, qf, qg, qh, qi, qj, qk, ↓reduceIte, resQ_tmp, resQ_cell, resQ_nil, retD_one, retD_two, retD_three, retD_none]; try simp [R.val, retD_one, retD_two, retD_three, retD_none])
end Go.Proofs.YtnponojgpkbagaaDoor
namespace Go.Crew
def ja (j : List Nat) (s : Nat) : Nat := j.getD s 0
def jnd (j : List Nat) (p : Nat × Nat) : Bool := ja j p.1 == ja j p.2
def lo (j : List Nat) (p : Nat × Nat) : Nat := min (ja j p.1) (ja j p.2)
def hi (j : List Nat) (p : Nat × Nat) : Nat := max (ja j p.1) (ja j p.2)
def wth (j : List Nat) (p : Nat × Nat) : List Nat := j.map fun x => if x = hi j p then lo j p else x
def runJ : List Nat → List (Nat × Nat) → List Nat
  | j, [] => j
  | j, p :: l => if jnd j p then runJ j l else runJ (wth j p) l
def cntJ : List Nat → List (Nat × Nat) → Nat
  | _, [] => 0
  | j, p :: l => if jnd j p then cntJ j l else cntJ (wth j p) l + 1
def apt : List Nat := List.range 5
def rk (L : List (Nat × Nat)) : Nat := cntJ apt L
theorem cntJ_app : ∀ (L M : List (Nat × Nat)) (j : List Nat), cntJ j (L ++ M) = cntJ j L + cntJ (runJ j L) M
  | [], M, j => by simp [cntJ, runJ]
  | p :: L, M, j => by
    simp only [List.cons_append, cntJ, runJ]
    split
    · exact cntJ_app L M j
    · rw [cntJ_app L M]; omega
theorem cntJ_le : ∀ (L : List (Nat × Nat)) (j : List Nat), cntJ j L ≤ L.length
  | [], _ => by simp [cntJ]
  | p :: L, j => by
    simp only [cntJ, List.length_cons]
    split
    · have := cntJ_le L j; omega
    · have := cntJ_le L (wth j p); omega
structure Can (j : List Nat) : Prop where
  len : j.length = 5
  le : ∀ s, s < 5 → ja j s ≤ s
  id : ∀ s, s < 5 → ja j (ja j s) = ja j s
theorem wth_at {j : List Nat} (h : j.length = 5) (p : Nat × Nat) {s : Nat} (hs : s < 5) : ja (wth j p) s = if ja j s = hi j p then lo j p else ja j s := by
  simp [ja, wth, List.getD, h, hs]
theorem can_apt : Can apt := ⟨by decide, by decide, by decide⟩
def Ok (L : List (Nat × Nat)) : Prop := ∀ p ∈ L, p.1 < 5 ∧ p.2 < 5
theorem lo_le {j : List Nat} {p : Nat × Nat} : lo j p ≤ hi j p := by unfold lo hi; omega
theorem lo_or {j : List Nat} {p : Nat × Nat} : lo j p = ja j p.1 ∨ lo j p = ja j p.2 := by unfold lo; omega
theorem hi_or {j : List Nat} {p : Nat × Nat} : hi j p = ja j p.1 ∨ hi j p = ja j p.2 := by unfold hi; omega
theorem can_wth {j : List Nat} (h : Can j) {p : Nat × Nat} (hp : p.1 < 5 ∧ p.2 < 5) : Can (wth j p) := by
  have hlo : lo j p < 5 ∧ ja j (lo j p) = lo j p := by
    rcases lo_or (j := j) (p := p) with e | e <;> rw [e]
    · exact ⟨by have := h.le _ hp.1; omega, h.id _ hp.1⟩
    · exact ⟨by have := h.le _ hp.2; omega, h.id _ hp.2⟩
  refine ⟨by simp [wth, h.len], fun s hs => ?_, fun s hs => ?_⟩
  · rw [wth_at h.len p hs]
    have := h.le s hs
    have := lo_le (j := j) (p := p)
    split <;> omega
  · rw [wth_at h.len p hs]
    have h1 := h.le s hs
    have h2 := h.id s hs
    split
    · rw [wth_at h.len p hlo.1, hlo.2]
      split <;> rfl
    · rename_i hn
      rw [wth_at h.len p (by omega), h2, if_neg hn]
theorem can_run : ∀ {L : List (Nat × Nat)} {j : List Nat}, Can j → Ok L → Can (runJ j L)
  | [], _, h, _ => h
  | p :: L, j, h, hL => by
    simp only [runJ]
    split
    · exact can_run h fun q hq => hL q (.tail _ hq)
    · exact can_run (can_wth h (hL p (.head _))) fun q hq => hL q (.tail _ hq)
def Fin' (j j' : List Nat) : Prop := ∀ s t, s < 5 → t < 5 → ja j s = ja j t → ja j' s = ja j' t
theorem fin_refl (j : List Nat) : Fin' j j := fun _ _ _ _ h => h
theorem fin_wth {j : List Nat} (h : Can j) {p : Nat × Nat} : Fin' j (wth j p) := fun s t hs ht e => by
  rw [wth_at h.len p hs, wth_at h.len p ht, e]
theorem wth_jnd {j : List Nat} (h : Can j) {p : Nat × Nat} (hp : p.1 < 5 ∧ p.2 < 5) : ja (wth j p) p.1 = ja (wth j p) p.2 := by
  rw [wth_at h.len p hp.1, wth_at h.len p hp.2]
  unfold lo hi
  split <;> split <;> omega
theorem wth_least {j j' : List Nat} (h : Can j) {p : Nat × Nat} (hp : p.1 < 5 ∧ p.2 < 5) (hf : Fin' j j') (hj : ja j' p.1 = ja j' p.2) : Fin' (wth j p) j' := by
  intro s t hs ht e
  rw [wth_at h.len p hs, wth_at h.len p ht] at e
  have key : ∀ s, s < 5 → (ja j s = ja j p.1 ∨ ja j s = ja j p.2) → ja j' s = ja j' p.1 := fun s hs h => by
    rcases h with h | h
    · exact hf _ _ hs hp.1 h
    · rw [hj]; exact hf _ _ hs hp.2 h
  have k1 : ja j s = hi j p → ja j' s = ja j' p.1 := fun h => key s hs (by rcases hi_or (j := j) (p := p) with e | e <;> simp [h, e])
  have k2 : ja j t = hi j p → ja j' t = ja j' p.1 := fun h => key t ht (by rcases hi_or (j := j) (p := p) with e | e <;> simp [h, e])
  have k3 : ja j s = lo j p → ja j' s = ja j' p.1 := fun h => key s hs (by rcases lo_or (j := j) (p := p) with e | e <;> simp [h, e])
  have k4 : ja j t = lo j p → ja j' t = ja j' p.1 := fun h => key t ht (by rcases lo_or (j := j) (p := p) with e | e <;> simp [h, e])
  split at e
  · rename_i a
    split at e
    · rename_i b; rw [k1 a, k2 b]
    · rw [k1 a, k4 e.symm]
  · split at e
    · rename_i b; rw [k3 e, k2 b]
    · exact hf _ _ hs ht e
theorem jnd_iff {j : List Nat} {p : Nat × Nat} : jnd j p = true ↔ ja j p.1 = ja j p.2 := by unfold jnd; simp
theorem run_fin : ∀ {L : List (Nat × Nat)} {j : List Nat}, Can j → Ok L → Fin' j (runJ j L)
  | [], j, _, _ => fin_refl j
  | p :: L, j, h, hL => by
    have hp := hL p (.head _)
    have hL' : Ok L := fun q hq => hL q (.tail _ hq)
    simp only [runJ]
    split
    · exact run_fin h hL'
    · exact fun s t hs ht e => run_fin (can_wth h hp) hL' s t hs ht (fin_wth h s t hs ht e)
theorem run_jnd : ∀ {L : List (Nat × Nat)} {j : List Nat}, Can j → Ok L → ∀ p ∈ L, ja (runJ j L) p.1 = ja (runJ j L) p.2
  | p :: L, j, h, hL, q, hq => by
    have hp := hL p (.head _)
    have hL' : Ok L := fun q hq => hL q (.tail _ hq)
    simp only [runJ]
    rcases List.mem_cons.1 hq with rfl | hq
    · split
      · rename_i e; exact run_fin h hL' _ _ hp.1 hp.2 (jnd_iff.1 e)
      · exact run_fin (can_wth h hp) hL' _ _ hp.1 hp.2 (wth_jnd h hp)
    · split
      · exact run_jnd h hL' q hq
      · exact run_jnd (can_wth h hp) hL' q hq
theorem run_least : ∀ {L : List (Nat × Nat)} {j j' : List Nat}, Can j → Ok L → Fin' j j' → (∀ p ∈ L, ja j' p.1 = ja j' p.2) → Fin' (runJ j L) j'
  | [], _, _, _, _, hf, _ => hf
  | p :: L, j, j', h, hL, hf, hj => by
    have hp := hL p (.head _)
    have hL' : Ok L := fun q hq => hL q (.tail _ hq)
    simp only [runJ]
    split
    · exact run_least h hL' hf fun q hq => hj q (.tail _ hq)
    · exact run_least (can_wth h hp) hL' (wth_least h hp hf (hj p (.head _))) fun q hq => hj q (.tail _ hq)
theorem can_eq {j j' : List Nat} (h : Can j) (h' : Can j') (a : Fin' j j') (b : Fin' j' j) : j = j' := by
  have e : ∀ s, s < 5 → ja j s = ja j' s := fun s hs => by
    have h1 := h.le s hs
    have h2 := h'.le s hs
    have h3 := a s (ja j s) hs (by omega) (h.id s hs).symm
    have h4 := b s (ja j' s) hs (by omega) (h'.id s hs).symm
    have h5 := h'.le (ja j s) (by omega)
    have h6 := h.le (ja j' s) (by omega)
    omega
  apply List.ext_getElem (by rw [h.len, h'.len])
  intro i h1 h2
  have := e i (by rw [← h.len]; exact h1)
  simpa [ja, List.getD, h1, h2] using this
theorem apt_fin (j : List Nat) : Fin' apt j := fun s t hs ht e => by
  have : ∀ s, s < 5 → ja apt s = s := by decide
  rw [this s hs, this t ht] at e
  rw [e]
theorem run_set {L M : List (Nat × Nat)} (hL : Ok L) (hM : Ok M) (h : ∀ p, p ∈ L ↔ p ∈ M) : runJ apt L = runJ apt M :=
  can_eq (can_run can_apt hL) (can_run can_apt hM) (run_least can_apt hL (apt_fin _) fun p hp => run_jnd can_apt hM p ((h p).1 hp))
    (run_least can_apt hM (apt_fin _) fun p hp => run_jnd can_apt hL p ((h p).2 hp))
def rts (j : List Nat) : Nat := ((List.range 5).filter fun s => ja j s == s).length
theorem filter_one {p q : Nat → Bool} {h : Nat} : ∀ (l : List Nat), l.Nodup → h ∈ l → p h = true → q h = false → (∀ s ∈ l, s ≠ h → p s = q s) → (l.filter p).length = (l.filter q).length + 1
  | [], _, hm, _, _, _ => by cases hm
  | x :: l, hn, hm, hp, hq, he => by
    obtain ⟨n1, n2⟩ := List.nodup_cons.1 hn
    by_cases hx : x = h
    · subst hx
      have : l.filter p = l.filter q := List.filter_congr fun s hs => he s (.tail _ hs) (fun e => n1 (e ▸ hs))
      simp [List.filter_cons, hp, hq, this]
    · have hm' : h ∈ l := by
        rcases List.mem_cons.1 hm with e | e
        · exact absurd e.symm hx
        · exact e
      have ih := filter_one l n2 hm' hp hq fun s hs hne => he s (.tail _ hs) hne
      have := he x (.head _) hx
      simp only [List.filter_cons, this]
      split
      · simp only [List.length_cons]; omega
      · exact ih
theorem rts_wth {j : List Nat} (h : Can j) {p : Nat × Nat} (hp : p.1 < 5 ∧ p.2 < 5) (hn : ja j p.1 ≠ ja j p.2) : rts j = rts (wth j p) + 1 := by
  have hh : hi j p < 5 ∧ ja j (hi j p) = hi j p := by
    rcases hi_or (j := j) (p := p) with e | e <;> rw [e]
    · exact ⟨by have := h.le _ hp.1; omega, h.id _ hp.1⟩
    · exact ⟨by have := h.le _ hp.2; omega, h.id _ hp.2⟩
  have hlt : lo j p < hi j p := by unfold lo hi; omega
  refine filter_one (h := hi j p) _ List.nodup_range (by simpa using hh.1) (by simpa using hh.2) ?_ fun s hs hne => ?_
  · rw [wth_at h.len p hh.1, if_pos hh.2]
    simp; omega
  · have hs' : s < 5 := by simpa using hs
    rw [wth_at h.len p hs']
    have := h.le s hs'
    split
    · rename_i e
      rw [e, Bool.eq_iff_iff]
      simp only [beq_iff_eq]
      omega
    · rfl
theorem cnt_rts : ∀ {L : List (Nat × Nat)} {j : List Nat}, Can j → Ok L → cntJ j L + rts (runJ j L) = rts j
  | [], j, _, _ => by simp [cntJ, runJ]
  | p :: L, j, h, hL => by
    have hp := hL p (.head _)
    have hL' : Ok L := fun q hq => hL q (.tail _ hq)
    simp only [cntJ, runJ]
    split
    · exact cnt_rts h hL'
    · rename_i e
      have := cnt_rts (can_wth h hp) hL'
      rw [rts_wth h hp (fun x => e (jnd_iff.2 x))]
      omega
theorem rk_set {L M : List (Nat × Nat)} (hL : Ok L) (hM : Ok M) (h : ∀ p, p ∈ L ↔ p ∈ M) : rk L = rk M := by
  have a := cnt_rts can_apt hL
  have b := cnt_rts can_apt hM
  rw [run_set hL hM h] at a
  unfold rk; omega
theorem ok_app {L M : List (Nat × Nat)} (hL : Ok L) (hM : Ok M) : Ok (L ++ M) := fun p hp => by
  rcases List.mem_append.1 hp with h | h
  · exact hL p h
  · exact hM p h
theorem rk_app (L M : List (Nat × Nat)) : rk (L ++ M) = rk L + cntJ (runJ apt L) M := cntJ_app L M apt
theorem rk_mono {L M : List (Nat × Nat)} (hL : Ok L) (hM : Ok M) (h : ∀ p ∈ L, p ∈ M) : rk L ≤ rk M := by
  have : rk (L ++ M) = rk M := rk_set (ok_app hL hM) hM fun p => ⟨fun hp => by rcases List.mem_append.1 hp with hp | hp; exact h p hp; exact hp, fun hp => List.mem_append.2 (.inr hp)⟩
  rw [← this, rk_app]; omega
theorem rk_le (L : List (Nat × Nat)) : rk L ≤ L.length := cntJ_le L apt
def sz (n : Nat) (f : Nat → Bool) : Nat := ((List.range n).filter f).length
def sel (S : List (List (Nat × Nat))) (f : Nat → Bool) : List (Nat × Nat) := ((List.range S.length).filter f).flatMap fun i => S.getD i []
theorem sz_or_and : ∀ (n : Nat) (f g : Nat → Bool), sz n (fun k => f k || g k) + sz n (fun k => f k && g k) = sz n f + sz n g
  | 0, _, _ => rfl
  | n + 1, f, g => by
    have ih := sz_or_and n f g
    simp only [sz, List.range_succ, List.filter_append, List.length_append, List.filter_cons, List.filter_nil] at *
    cases f n <;> cases g n <;> simp <;> omega
theorem sz_drop {n i : Nat} {f : Nat → Bool} (hi : i < n) (h : f i = true) : sz n f = sz n (fun k => f k && decide (k ≠ i)) + 1 :=
  filter_one (h := i) _ List.nodup_range (by simpa using hi) h (by simp) fun s _ hne => by simp [hne]
theorem sz_all (n : Nat) : sz n (fun _ => true) = n := by unfold sz; rw [List.filter_eq_self.2 (fun _ _ => rfl), List.length_range]
theorem rk_free_sub : ∀ {L M : List (Nat × Nat)}, Ok L → L.Sublist M → Ok M → rk M = M.length → rk L = L.length := by
  intro L M hL hs hM h
  have key : ∀ {L M : List (Nat × Nat)} {j j' : List Nat}, L.Sublist M → Can j → Can j' → Fin' j' j → Ok M → cntJ j M = M.length → cntJ j' L = L.length := by
    intro L M j j' hs
    induction hs generalizing j j' with
    | slnil => intro _ _ _ _ _; rfl
    | @cons a b p hs ih =>
      intro h1 h2 h3 hM h
      have hp := hM p (.head _)
      have hM' : Ok b := fun q hq => hM q (.tail _ hq)
      simp only [cntJ, List.length_cons] at h
      split at h
      · have := cntJ_le b j; omega
      · exact ih (j := wth j p) (can_wth h1 hp) h2 (fun s t hs ht e => fin_wth h1 s t hs ht (h3 s t hs ht e)) hM' (by omega)
    | @cons_cons a b p hs ih =>
      intro h1 h2 h3 hM h
      have hp := hM p (.head _)
      have hM' : Ok b := fun q hq => hM q (.tail _ hq)
      simp only [cntJ, List.length_cons] at h ⊢
      split at h
      · have := cntJ_le b j; omega
      · rename_i e
        split
        · rename_i e'
          exact absurd (jnd_iff.2 (h3 _ _ hp.1 hp.2 (jnd_iff.1 e'))) e
        · have := ih (j := wth j p) (j' := wth j' p) (can_wth h1 hp) (can_wth h2 hp) (wth_least h2 hp (fun s t hs ht e => fin_wth h1 s t hs ht (h3 s t hs ht e)) (wth_jnd h1 hp)) hM' (by omega)
          omega
  exact key hs can_apt can_apt (fin_refl _) hM h
def pk (l : List (Nat × Nat)) (i : Nat) : Nat × Nat := l.getD i (0, 0)
def picks : List (List (Nat × Nat)) → List Nat → List (Nat × Nat)
  | l :: S, i :: c => pk l i :: picks S c
  | _, _ => []
def Fits : List (List (Nat × Nat)) → List Nat → Prop
  | [], [] => True
  | l :: S, i :: c => i < l.length ∧ Fits S c
  | _, _ => False
theorem fits_len : ∀ {S : List (List (Nat × Nat))} {c : List Nat}, Fits S c → c.length = S.length ∧ (picks S c).length = S.length
  | [], [], _ => ⟨rfl, rfl⟩
  | l :: S, i :: c, h => by have := fits_len h.2; simp [picks, this.1, this.2]
theorem sz_mono {n : Nat} {f g : Nat → Bool} (h : ∀ k, k < n → f k = true → g k = true) : sz n f ≤ sz n g := by
  unfold sz
  induction n with
  | zero => simp
  | succ n ih =>
    have := ih fun k hk => h k (by omega)
    rw [List.range_succ, List.filter_append, List.filter_append, List.length_append, List.length_append]
    have hn := h n (by omega)
    cases hf : f n with
    | false => simp [hf]; omega
    | true => simp [hf, hn hf]; exact this
theorem sz_congr {n : Nat} {f g : Nat → Bool} (h : ∀ k, k < n → f k = g k) : sz n f = sz n g := by
  unfold sz; rw [List.filter_congr fun k hk => h k (List.mem_range.1 hk)]
def deg (v : Nat) : List (Nat × Nat) → Nat
  | [] => 0
  | p :: C => (if p.1 = v then 1 else 0) + (if p.2 = v then 1 else 0) + deg v C
theorem deg_app (v : Nat) : ∀ (A B : List (Nat × Nat)), deg v (A ++ B) = deg v A + deg v B
  | [], B => by simp [deg]
  | p :: A, B => by simp only [List.cons_append, deg, deg_app v A B]; omega
theorem deg_sum : ∀ (C : List (Nat × Nat)), Ok C → deg 0 C + deg 1 C + deg 2 C + deg 3 C + deg 4 C = 2 * C.length
  | [], _ => rfl
  | p :: C, h => by
    have ih := deg_sum C fun q hq => h q (.tail _ hq)
    obtain ⟨h1, h2⟩ := h p (.head _)
    simp only [deg, List.length_cons]
    have e1 : (if p.1 = 0 then 1 else 0) + (if p.1 = 1 then 1 else 0) + (if p.1 = 2 then 1 else 0) + (if p.1 = 3 then 1 else 0) + (if p.1 = 4 then 1 else 0) = 1 := by
      have : p.1 = 0 ∨ p.1 = 1 ∨ p.1 = 2 ∨ p.1 = 3 ∨ p.1 = 4 := by omega
      rcases this with h | h | h | h | h <;> simp [h]
    have e2 : (if p.2 = 0 then 1 else 0) + (if p.2 = 1 then 1 else 0) + (if p.2 = 2 then 1 else 0) + (if p.2 = 3 then 1 else 0) + (if p.2 = 4 then 1 else 0) = 1 := by
      have : p.2 = 0 ∨ p.2 = 1 ∨ p.2 = 2 ∨ p.2 = 3 ∨ p.2 = 4 := by omega
      rcases this with h | h | h | h | h <;> simp [h]
    omega
theorem deg_zero {v : Nat} : ∀ {C : List (Nat × Nat)}, deg v C = 0 ↔ ∀ p ∈ C, p.1 ≠ v ∧ p.2 ≠ v
  | [] => by simp [deg]
  | p :: C => by
    have ih := deg_zero (v := v) (C := C)
    simp only [deg, List.mem_cons, forall_eq_or_imp, ← ih]
    constructor
    · intro h
      refine ⟨⟨fun e => ?_, fun e => ?_⟩, by omega⟩
      · rw [if_pos e] at h; omega
      · rw [if_pos e] at h; omega
    · rintro ⟨⟨h1, h2⟩, h3⟩
      rw [if_neg h1, if_neg h2, h3]
def Tch (u : Nat → Bool) (j : List Nat) : Prop := ∀ s, s < 5 → (u s = false → ja j s = s) ∧ (u s = true → u (ja j s) = true)
theorem tch_apt (u : Nat → Bool) : Tch u apt := fun s hs => by
  have : ja apt s = s := (by decide : ∀ s, s < 5 → ja apt s = s) s hs
  rw [this]; exact ⟨fun _ => rfl, fun h => h⟩
theorem tch_wth {u : Nat → Bool} {j : List Nat} (hj : Can j) (h : Tch u j) {p : Nat × Nat} (hp : p.1 < 5 ∧ p.2 < 5) (h1 : u p.1 = true) (h2 : u p.2 = true) : Tch u (wth j p) := fun s hs => by
  have a := (h p.1 hp.1).2 h1
  have b := (h p.2 hp.2).2 h2
  have hh : u (hi j p) = true := by rcases hi_or (j := j) (p := p) with e | e <;> rw [e]; exact a; exact b
  have hl : u (lo j p) = true := by rcases lo_or (j := j) (p := p) with e | e <;> rw [e]; exact a; exact b
  rw [wth_at hj.len p hs]
  refine ⟨fun hu => ?_, fun hu => ?_⟩
  · have := (h s hs).1 hu
    rw [this, if_neg (fun e => by rw [← e, hu] at hh; cases hh)]
  · split
    · exact hl
    · exact (h s hs).2 hu
theorem tch_run {u : Nat → Bool} : ∀ {C : List (Nat × Nat)} {j : List Nat}, Can j → Ok C → Tch u j → (∀ p ∈ C, u p.1 = true ∧ u p.2 = true) → Tch u (runJ j C)
  | [], _, _, _, h, _ => h
  | p :: C, j, hj, hC, h, hu => by
    have hp := hC p (.head _)
    have hC' : Ok C := fun q hq => hC q (.tail _ hq)
    have hu' := fun q hq => hu q (List.mem_cons_of_mem p hq)
    simp only [runJ]
    split
    · exact tch_run hj hC' h hu'
    · exact tch_run (can_wth hj hp) hC' (tch_wth hj h hp (hu p (.head _)).1 (hu p (.head _)).2) hu'
theorem sz_not (n : Nat) (f : Nat → Bool) : sz n f + sz n (fun k => !f k) = n := by
  have a := sz_or_and n f fun k => !f k
  have b : sz n (fun k => f k || !f k) = n := by
    exact (sz_congr fun k _ => by cases f k <;> rfl).trans (sz_all n)
  have c : sz n (fun k => f k && !f k) = 0 := by
    unfold sz; rw [List.length_eq_zero_iff, List.filter_eq_nil_iff]; intro k _ h; cases hf : f k <;> simp [hf] at h
  omega
theorem rk_tch {C : List (Nat × Nat)} (hC : Ok C) {u : Nat → Bool} (hu : ∀ p ∈ C, u p.1 = true ∧ u p.2 = true) {t : Nat} (ht : t < 5) (hut : u t = true) : rk C + 1 ≤ sz 5 u := by
  have hT := tch_run can_apt hC (tch_apt u) hu
  have hc := can_run can_apt hC
  have a := cnt_rts can_apt hC
  have d : rts apt = 5 := by decide
  have e : rts (runJ apt C) = sz 5 fun s => ja (runJ apt C) s == s := rfl
  have r1 := hc.le t ht
  have r2 := hc.id t ht
  have r3 := (hT t ht).2 hut
  have m : sz 5 (fun s => !u s || s == ja (runJ apt C) t) ≤ sz 5 fun s => ja (runJ apt C) s == s := sz_mono fun s hs h => by
    rcases Bool.or_eq_true_iff.1 h with h | h
    · have := (hT s hs).1 (by simpa using h)
      simp [this]
    · have : s = ja (runJ apt C) t := by simpa using h
      rw [this, r2]; simp
  have z := sz_drop (n := 5) (i := ja (runJ apt C) t) (f := fun s => !u s || s == ja (runJ apt C) t) (by omega) (by simp)
  have z2 : sz 5 (fun k => (!u k || k == ja (runJ apt C) t) && decide (k ≠ ja (runJ apt C) t)) = sz 5 fun k => !u k := sz_congr fun k hk => by
    by_cases q : k = ja (runJ apt C) t
    · rw [q, r3]; simp
    · simp [q]
  have n := sz_not 5 u
  unfold rk
  omega
theorem sz5 (f : Nat → Bool) : sz 5 f = (if f 0 then 1 else 0) + (if f 1 then 1 else 0) + (if f 2 then 1 else 0) + (if f 3 then 1 else 0) + (if f 4 then 1 else 0) := by
  unfold sz
  have : List.range 5 = [0, 1, 2, 3, 4] := by decide
  rw [this]
  simp only [List.filter_cons, List.filter_nil]
  cases f 0 <;> cases f 1 <;> cases f 2 <;> cases f 3 <;> cases f 4 <;> rfl
theorem deg_two {C : List (Nat × Nat)} (hC : Ok C) (hne : ∀ p ∈ C, p.1 ≠ p.2) (hr : rk C < C.length) (hm : ∀ (A B : List (Nat × Nat)) (p : Nat × Nat), C = A ++ p :: B → rk (A ++ B) = (A ++ B).length) : ∀ v, v < 5 → deg v C = 0 ∨ deg v C = 2 := by
  have pos : C ≠ [] := fun e => by rw [e] at hr; simp at hr
  -- as many as the pairs are touched
  have a1 : C.length ≤ sz 5 (fun v => decide (0 < deg v C)) := by
    obtain ⟨p, B, e⟩ : ∃ p B, C = p :: B := by
      cases C with
      | nil => exact absurd rfl pos
      | cons p B => exact ⟨p, B, rfl⟩
    have h1 := hm [] B p (by rw [e]; rfl)
    have hp := hC p (by rw [e]; exact .head _)
    have tt : ∀ q ∈ C, (fun v => decide (0 < deg v C)) q.1 = true ∧ (fun v => decide (0 < deg v C)) q.2 = true := fun q hq => by
      have k1 : deg q.1 C ≠ 0 := fun h => (deg_zero.1 h q hq).1 rfl
      have k2 : deg q.2 C ≠ 0 := fun h => (deg_zero.1 h q hq).2 rfl
      simp only [decide_eq_true_eq]; omega
    have h2 := rk_tch (u := fun v => decide (0 < deg v C)) hC tt hp.1 (tt p (by rw [e]; exact .head _)).1
    have h3 : rk B ≤ rk C := rk_mono (fun q hq => hC q (by rw [e]; exact .tail _ hq)) hC fun q hq => by rw [e]; exact .tail _ hq
    rw [List.nil_append] at h1
    have : C.length = B.length + 1 := by rw [e]; rfl
    omega
  -- none is in one pair alone
  have a2 : ∀ v, v < 5 → deg v C ≠ 1 := fun v hv h => by
    obtain ⟨p, hp, ht⟩ : ∃ p ∈ C, p.1 = v ∨ p.2 = v := by
      apply Classical.byContradiction
      intro hn
      have : deg v C = 0 := deg_zero.2 fun p hp => ⟨fun e => hn ⟨p, hp, .inl e⟩, fun e => hn ⟨p, hp, .inr e⟩⟩
      omega
    obtain ⟨A, B, e⟩ := List.append_of_mem hp
    have hd := h
    rw [e, deg_app] at hd
    simp only [deg] at hd
    have hAB : deg v (A ++ B) = 0 := by
      rw [deg_app]
      rcases ht with ht | ht <;> rw [if_pos ht] at hd <;> omega
    have hOk : Ok (A ++ B) := fun q hq => hC q (by rw [e]; rcases List.mem_append.1 hq with h | h <;> simp [h])
    have hf := hm A B p e
    have hT := tch_run can_apt hOk (tch_apt fun s => decide (s ≠ v)) fun q hq => by
      have := deg_zero.1 hAB q hq
      simpa using this
    have hv' := (hT v hv).1 (by simp)
    have hp5 := hC p hp
    have nj : jnd (runJ apt (A ++ B)) p = false := by
      rw [Bool.eq_false_iff]
      intro hj
      have hj := jnd_iff.1 hj
      rcases ht with ht | ht
      · have := (hT p.2 hp5.2).2 (by have := hne p hp; rw [← ht]; simp; omega)
        rw [ht, hv'] at hj
        rw [← hj] at this; simp at this
      · have := (hT p.1 hp5.1).2 (by have := hne p hp; rw [← ht]; simp; omega)
        rw [ht, hv'] at hj
        rw [hj] at this; simp at this
    have r1 : rk ((A ++ B) ++ [p]) = rk (A ++ B) + 1 := by
      rw [rk_app]; simp only [cntJ]; rw [nj]; rfl
    have r2 : rk ((A ++ B) ++ [p]) = rk C := rk_set (ok_app hOk fun q hq => by rw [List.mem_singleton.1 hq]; exact hp5) hC fun q => by
      rw [e]; simp only [List.mem_append, List.mem_cons, List.not_mem_nil, or_false]
      constructor
      · rintro ((h | h) | h); exact .inl h; exact .inr (.inr h); exact .inr (.inl h)
      · rintro (h | h | h); exact .inl (.inl h); exact .inr h; exact .inl (.inr h)
    have l : C.length = (A ++ B).length + 1 := by rw [e]; simp; omega
    omega
  have a3 := deg_sum C hC
  rw [sz5] at a1
  simp only [decide_eq_true_eq] at a1
  have b0 := a2 0 (by omega)
  have b1 := a2 1 (by omega)
  have b2 := a2 2 (by omega)
  have b3 := a2 3 (by omega)
  have b4 := a2 4 (by omega)
  have key : (deg 0 C = 0 ∨ deg 0 C = 2) ∧ (deg 1 C = 0 ∨ deg 1 C = 2) ∧ (deg 2 C = 0 ∨ deg 2 C = 2) ∧ (deg 3 C = 0 ∨ deg 3 C = 2) ∧ (deg 4 C = 0 ∨ deg 4 C = 2) := by
    generalize deg 0 C = d0 at *
    generalize deg 1 C = d1 at *
    generalize deg 2 C = d2 at *
    generalize deg 3 C = d3 at *
    generalize deg 4 C = d4 at *
    clear a2 hm
    split at a1 <;> split at a1 <;> split at a1 <;> split at a1 <;> split at a1 <;> omega
  obtain ⟨k0, k1, k2, k3, k4⟩ := key
  intro v hv
  have : v = 0 ∨ v = 1 ∨ v = 2 ∨ v = 3 ∨ v = 4 := by omega
  rcases this with rfl | rfl | rfl | rfl | rfl
  · exact k0
  · exact k1
  · exact k2
  · exact k3
  · exact k4
section
variable {α : Type} [DecidableEq α]
def bstep (is : α → Bool) (lt : α → α → Bool) (acc : Option α) (l : α) : Option α := if is l then (match acc with | none => some l | some o => if lt l o then some l else some o) else acc
theorem find_or {lt : α → α → Bool} (has : ∀ x y, lt x y = true → lt y x = false) (hir : ∀ x, lt x x = false) {l : α} {q : α → Bool} : ∀ (T : List α), T.Pairwise (fun x y => lt x y = true) → l ∈ T →
    T.find? (fun x => q x || x == l) = (match T.find? q with | none => some l | some o => if lt l o then some l else some o)
  | a :: T, hT, hl => by
    obtain ⟨h1, h2⟩ := List.pairwise_cons.1 hT
    rw [List.find?_cons, List.find?_cons]
    cases hq : q a with
    | true =>
      simp only [Bool.true_or]
      have : lt l a = false := by
        rcases List.mem_cons.1 hl with rfl | hl
        · exact hir _
        · exact has _ _ (h1 _ hl)
      simp [this]
    | false =>
      simp only [Bool.false_or]
      by_cases e : a = l
      · subst e
        simp only [beq_self_eq_true]
        cases hf : T.find? q with
        | none => rfl
        | some o => simp [h1 _ (List.mem_of_find?_eq_some hf)]
      · have : (a == l) = false := by simpa using e
        simp only [this]
        exact find_or has hir T h2 (by
          rcases List.mem_cons.1 hl with rfl | hl
          · exact absurd rfl e
          · exact hl)
theorem best_find {lt : α → α → Bool} (has : ∀ x y, lt x y = true → lt y x = false) (hir : ∀ x, lt x x = false) (is : α → Bool) {T : List α} (hT : T.Pairwise (fun x y => lt x y = true)) : ∀ (R S : List α), (∀ x ∈ R, x ∈ T) → 
    R.foldl (bstep is lt) (T.find? (fun x => is x && S.contains x)) = T.find? (fun x => is x && (S ++ R).contains x)
  | [], S, _ => by simp
  | l :: R, S, h => by
    have ih := best_find has hir is hT R (S ++ [l]) fun x hx => h x (.tail _ hx)
    rw [List.foldl_cons]
    have e : bstep is lt (T.find? fun x => is x && S.contains x) l = T.find? (fun x => is x && (S ++ [l]).contains x) := by
      unfold bstep
      cases hi : is l with
      | true =>
        rw [if_pos rfl, ← find_or has hir T hT (h l (.head _))]
        congr 1
        funext x
        by_cases hx : x = l
        · subst hx; simp [hi]
        · simp [hx]
      | false =>
        rw [if_neg (by simp)]
        congr 1
        funext x
        by_cases hx : x = l
        · subst hx; simp [hi]
        · simp [hx]
    rw [e, ih]
    simp
theorem best_all {lt : α → α → Bool} (has : ∀ x y, lt x y = true → lt y x = false) (hir : ∀ x, lt x x = false) (is : α → Bool) {T R : List α} (hT : T.Pairwise (fun x y => lt x y = true)) (h : ∀ x ∈ R, x ∈ T) (h2 : ∀ x ∈ T, x ∈ R) :
    R.foldl (bstep is lt) none = T.find? is := by
  have := best_find has hir is hT R [] h
  have z : T.find? (fun x => is x && ([] : List α).contains x) = none := by
    rw [List.find?_eq_none]; intro x _; simp
  rw [z, List.nil_append] at this
  rw [this]
  clear this z h hT
  have : ∀ T' : List α, (∀ x ∈ T', x ∈ R) → T'.find? (fun x => is x && R.contains x) = T'.find? is := by
    intro T' hT'
    induction T' with
    | nil => rfl
    | cons a T' ih =>
      have ha := hT' a (.head _)
      rw [List.find?_cons, List.find?_cons, ih fun x hx => hT' x (.tail _ hx)]
      simp [ha]
  exact this T h2
end
def lexL : List Nat → List Nat → Bool
  | [], [] => false
  | [], _ :: _ => true
  | _ :: _, [] => false
  | a :: x, b :: y => if a < b then true else if b < a then false else lexL x y
theorem lexL_irr : ∀ x, lexL x x = false
  | [] => rfl
  | a :: x => by simp [lexL, lexL_irr x]
theorem lexL_as : ∀ x y, lexL x y = true → lexL y x = false
  | [], [], h => by simp [lexL] at h
  | [], _ :: _, _ => rfl
  | _ :: _, [], h => by simp [lexL] at h
  | a :: x, b :: y, h => by
    simp only [lexL] at h ⊢
    by_cases h1 : a < b
    · rw [if_neg (by omega), if_pos h1]
    · rw [if_neg h1] at h
      by_cases h2 : b < a
      · rw [if_pos h2] at h; cases h
      · rw [if_neg h2] at h
        rw [if_neg h2, if_neg h1]
        exact lexL_as x y h
def ltS (x y : List Nat) : Bool := if x.length = y.length then lexL x y else decide (x.length < y.length)
def ltG (x y : List Nat) : Bool := if x.length = y.length then lexL x y else decide (x.length > y.length)
theorem ltS_irr (x : List Nat) : ltS x x = false := by simp [ltS, lexL_irr]
theorem ltS_as (x y : List Nat) (h : ltS x y = true) : ltS y x = false := by
  unfold ltS at *
  by_cases e : x.length = y.length
  · rw [if_pos e] at h; rw [if_pos e.symm]; exact lexL_as x y h
  · rw [if_neg e] at h; rw [if_neg (fun q => e q.symm)]
    simp at h ⊢; omega
def ls (n : Nat) : Nat → Nat → List (List Nat)
  | 0, _ => [[]]
  | m + 1, k => (List.range' k (n - k)).flatMap fun x => (ls n m (x + 1)).map (x :: ·)
def upT (n : Nat) : List (List Nat) := (List.range (n + 1)).flatMap fun m => ls n m 0
def downT (n : Nat) : List (List Nat) := (List.range (n + 1)).reverse.flatMap fun m => ls n m 0
def memb (s : Nat) : List Nat := (List.range 5).filter fun k => s.testBit k
def allS (n : Nat) : List (List Nat) := (List.range (2 ^ n)).map memb
def pwB (lt : List Nat → List Nat → Bool) : List (List Nat) → Bool
  | [] => true
  | a :: l => l.all (lt a) && pwB lt l
theorem pwB_ok {lt : List Nat → List Nat → Bool} : ∀ {l : List (List Nat)}, pwB lt l = true → l.Pairwise (fun x y => lt x y = true)
  | [], _ => .nil
  | a :: l, h => by
    simp only [pwB, Bool.and_eq_true, List.all_eq_true] at h
    exact List.pairwise_cons.2 ⟨h.1, pwB_ok h.2⟩
theorem sorted_all : ((List.range 6).all fun n => pwB ltS (upT n) && pwB ltG (downT n) && (allS n).all (fun x => (upT n).contains x && (downT n).contains x) && (upT n).all (fun x => (allS n).contains x) && (downT n).all (fun x => (allS n).contains x)) = true := by decide +kernel
theorem sorted_n {n : Nat} (h : n ≤ 5) : (upT n).Pairwise (fun x y => ltS x y = true) ∧ (downT n).Pairwise (fun x y => ltG x y = true) ∧ (∀ x, x ∈ allS n ↔ x ∈ upT n) ∧ (∀ x, x ∈ allS n ↔ x ∈ downT n) := by
  have := List.all_eq_true.1 sorted_all n (List.mem_range.2 (by omega))
  simp only [Bool.and_eq_true, List.all_eq_true, List.contains_iff_mem] at this
  obtain ⟨⟨⟨⟨h1, h2⟩, h3⟩, h4⟩, h5⟩ := this
  exact ⟨pwB_ok h1, pwB_ok h2, fun x => ⟨fun hx => (h3 x hx).1, fun hx => h4 x hx⟩, fun x => ⟨fun hx => (h3 x hx).2, fun hx => h5 x hx⟩⟩
theorem best_up (is : List Nat → Bool) {n : Nat} (h : n ≤ 5) : (allS n).foldl (bstep is ltS) none = (upT n).find? is := by
  obtain ⟨h1, _, h3, _⟩ := sorted_n h
  exact best_all ltS_as ltS_irr is h1 (fun x hx => (h3 x).1 hx) fun x hx => (h3 x).2 hx
end Go.Crew
namespace Go.Proofs.YtnponojgpkbagaaDoor
open Go.V Go.Crew
set_option linter.unusedSectionVars false
set_option linter.unnecessarySimpa false
theorem brn_t {α : Type} {b : Bool} {x y : Option α} (h : b = true) : brn b x y = x := by subst h; rfl
theorem brn_f {α : Type} {b : Bool} {x y : Option α} (h : b = false) : brn b x y = y := by subst h; rfl
theorem grd_t {α : Type} {p : Prop} [Decidable p] {k : Option α} (h : p) : grd p k = k := by simp [grd, h]
theorem wrapN {n : Nat} (h : n ≤ 100000) : IntKind.i64.wrap ((n : Int) + 1) = ((n + 1 : Nat) : Int) := by
  rw [wrap64 (by omega) (by omega)]; omega
theorem toNatN (n : Nat) : Int.toNat (n : Int) = n := by omega
def prI (p : Int × Int) : List PV := [.int .i64 p.1, .int .i64 p.2]
def prsI (l : List (Int × Int)) : List PV := l.flatMap prI
theorem prsI_len : ∀ (l : List (Int × Int)), (prsI l).length = l.length * 2
  | [] => rfl
  | p :: l => by
    have := prsI_len l
    simp only [prsI, List.flatMap_cons, List.length_append, prI, List.length_cons, List.length_nil] at *
    omega
def pI (l : List (Int × Int)) (i : Nat) : Int × Int := l.getD i (0, 0)
theorem prsI_drop : ∀ (l : List (Int × Int)) (i : Nat), (prsI l).drop (i * 2) = prsI (l.drop i)
  | l, 0 => by simp
  | [], i + 1 => by simp [prsI]
  | p :: l, i + 1 => by
    have := prsI_drop l i
    rw [show (i + 1) * 2 = i * 2 + 2 by omega]
    simpa [prsI, prI] using this
theorem prsI_take : ∀ (l : List (Int × Int)) (i : Nat), (prsI l).take (i * 2) = prsI (l.take i)
  | l, 0 => by simp [prsI]
  | [], i + 1 => by simp [prsI]
  | p :: l, i + 1 => by
    have := prsI_take l i
    rw [show (i + 1) * 2 = i * 2 + 2 by omega]
    simpa [prsI, prI] using this
theorem drop_pI {l : List (Int × Int)} {i : Nat} (h : i < l.length) : l.drop i = pI l i :: l.drop (i + 1) := by
  rw [List.drop_eq_getElem_cons h]; simp [pI, List.getD, h]
theorem take_pI {l : List (Int × Int)} {i : Nat} (h : i < l.length) : l.take (i + 1) = l.take i ++ [pI l i] := by
  rw [List.take_add_one]; simp [pI, List.getD, h]
theorem prsI_two {l : List (Int × Int)} {i : Nat} (h : i < l.length) : List.take 2 (List.drop (i * 2) (prsI l)) = [.int .i64 (pI l i).1, .int .i64 (pI l i).2] := by
  rw [prsI_drop, drop_pI h]; simp [prsI, prI]
theorem prsI_two' {l : List (Int × Int)} {i : Nat} (h : i < l.length) : 2 ≤ List.length (List.drop (i * 2) (prsI l)) := by
  rw [prsI_drop, prsI_len, List.length_drop]; omega
def knI (l : List (Int × Int)) : PV := .lst false l.length (prsI l)
def knsI (K : List (List (Int × Int))) : List PV := K.map knI
theorem knsI_len (K : List (List (Int × Int))) : (knsI K).length = K.length := by simp [knsI]
def kI (K : List (List (Int × Int))) (i : Nat) : List (Int × Int) := K.getD i []
theorem knsI_gp {K : List (List (Int × Int))} {i : Nat} (h : i < K.length) : gp (knsI K) i = .lst false (kI K i).length (prsI (kI K i)) := by
  simp [knsI, gp, kI, knI, List.getD, h]
theorem kI_mem {K : List (List (Int × Int))} {i : Nat} (h : i < K.length) : kI K i ∈ K := by simp [kI, List.getD, h]
theorem drop_kI {K : List (List (Int × Int))} {i : Nat} (h : i < K.length) : K.drop i = kI K i :: K.drop (i + 1) := by
  rw [List.drop_eq_getElem_cons h]; simp [kI, List.getD, h]
def jP (j : List Nat) : List PV := [.int .i64 (ja j 0 : Int), .int .i64 (ja j 1 : Int), .int .i64 (ja j 2 : Int), .int .i64 (ja j 3 : Int), .int .i64 (ja j 4 : Int)]
theorem jP_gp {j : List Nat} {s : Nat} (h : s < 5) : gp (jP j) s = .int .i64 (ja j s : Int) := by
  have : s = 0 ∨ s = 1 ∨ s = 2 ∨ s = 3 ∨ s = 4 := by omega
  rcases this with rfl | rfl | rfl | rfl | rfl <;> rfl
def cI (p : Nat × Nat) : Int × Int := ((p.1 : Int), (p.2 : Int))
theorem getA5_jP {α : Type} (j : List Nat) (k : PV → PV → PV → PV → PV → Option α) : getA5 (.agg (jP j)) k = k (.int .i64 (ja j 0 : Int)) (.int .i64 (ja j 1 : Int)) (.int .i64 (ja j 2 : Int)) (.int .i64 (ja j 3 : Int)) (.int .i64 (ja j 4 : Int)) := rfl
theorem joined_ok (N : Nat) (j : List Nat) (p : Nat × Nat) (hp : p.1 < 5 ∧ p.2 < 5) : m71 N (.agg (jP j)) (.agg (prI (cI p))) = some (.bool (jnd j p)) := by
  simp only [m71, prI, cI, getA2, getI, if_true, toNatN]
  have e1 := jP_gp (j := j) hp.1
  have e2 := jP_gp (j := j) hp.2
  unfold jP at e1 e2
  rw [getA5_jP, grd_t ⟨by omega, by omega⟩, grd_t hp.1, e1]
  simp only [if_true]
  rw [grd_t ⟨by omega, by omega⟩, grd_t hp.2, e2]
  simp only [if_true, jnd]
  congr 2
  rw [Bool.eq_iff_iff]; simp; omega
theorem maxI_hi (j : List Nat) (p : Nat × Nat) : maxI (ja j p.1 : Int) (ja j p.2 : Int) = (hi j p : Int) := by
  unfold maxI hi; split <;> omega
theorem minI_lo (j : List Nat) (p : Nat × Nat) : minI (ja j p.1 : Int) (ja j p.2 : Int) = (lo j p : Int) := by
  unfold minI lo; split <;> omega
def hw (j : List Nat) (p : Nat × Nat) (s t : Nat) : PV := .int .i64 ((if t < s then ja (wth j p) t else ja j t : Nat) : Int)
def mid (j : List Nat) (p : Nat × Nat) (s : Nat) : List PV := [hw j p s 0, hw j p s 1, hw j p s 2, hw j p s 3, hw j p s 4]
theorem mid_set {j : List Nat} {p : Nat × Nat} {s : Nat} (hj : j.length = 5) (h : s < 5) (e : ja j s = hi j p) : (mid j p s).set s (.int .i64 (lo j p : Int)) = mid j p (s + 1) := by
  have w := wth_at hj p h
  rw [if_pos e] at w
  have : s = 0 ∨ s = 1 ∨ s = 2 ∨ s = 3 ∨ s = 4 := by omega
  rcases this with rfl | rfl | rfl | rfl | rfl <;> simp [mid, hw, w]
theorem mid_not {j : List Nat} {p : Nat × Nat} {s : Nat} (hj : j.length = 5) (h : s < 5) (e : ja j s ≠ hi j p) : mid j p s = mid j p (s + 1) := by
  have w := wth_at hj p h
  rw [if_neg e] at w
  have : s = 0 ∨ s = 1 ∨ s = 2 ∨ s = 3 ∨ s = 4 := by omega
  rcases this with rfl | rfl | rfl | rfl | rfl <;> simp [mid, hw, w]
theorem with_L (N : Nat) (j : List Nat) (p : Nat × Nat) (hj : j.length = 5) : ∀ (r s fuel : Nat), 5 - s = r → s ≤ 5 → r < fuel →
    m98_L0 N (.int .i64 (ja j 0 : Int)) (.int .i64 (ja j 1 : Int)) (.int .i64 (ja j 2 : Int)) (.int .i64 (ja j 3 : Int)) (.int .i64 (ja j 4 : Int)) (ja j p.1 : Int) (ja j p.2 : Int) fuel (s : Int) (mid j p s) = some (mid j p 5)
  | r, s, 0, _, _, h => by omega
  | r, s, f + 1, hr, hs, hf => by
    rw [m98_L0]
    by_cases h : s < 5
    · have ih := with_L N j p hj (r - 1) (s + 1) f (by omega) (by omega) (by omega)
      have e1 := jP_gp (j := j) h
      unfold jP at e1
      rw [brn_t (by simp; omega), toNatN, grd_t ⟨by omega, by omega⟩, e1, maxI_hi, minI_lo, wrapN (by omega)]
      simp only [getI, if_true]
      by_cases e : ja j s = hi j p
      · rw [brn_t (by simp; omega), grd_t (by simp [mid]; omega), mid_set hj h e]; exact ih
      · rw [brn_f (by simp; omega), mid_not hj h e]; exact ih
    · rw [brn_f (by simp; omega), show s = 5 by omega]
theorem mid_zero (j : List Nat) (p : Nat × Nat) : mid j p 0 = jP j := by simp [mid, hw, jP]
theorem mid_five (j : List Nat) (p : Nat × Nat) : mid j p 5 = jP (wth j p) := by simp [mid, hw, jP]
theorem with_ok (N : Nat) (hN : 2000 ≤ N) (j : List Nat) (hj : j.length = 5) (p : Nat × Nat) (hp : p.1 < 5 ∧ p.2 < 5) : m98 N (.agg (jP j)) (.agg (prI (cI p))) = some (.agg (jP (wth j p))) := by
  simp only [m98, prI, cI, getA2, getI, if_true, toNatN]
  have e1 := jP_gp (j := j) hp.1
  have e2 := jP_gp (j := j) hp.2
  unfold jP at e1 e2
  rw [getA5_jP, grd_t ⟨by omega, by omega⟩, grd_t hp.1, e1]
  simp only [if_true]
  rw [grd_t ⟨by omega, by omega⟩, grd_t hp.2, e2]
  simp only [if_true]
  have := with_L N j p hj 5 0 N (by omega) (by omega) (by omega)
  rw [mid_zero, mid_five] at this
  rw [show m98_L0 N (.int .i64 (ja j 0 : Int)) (.int .i64 (ja j 1 : Int)) (.int .i64 (ja j 2 : Int)) (.int .i64 (ja j 3 : Int)) (.int .i64 (ja j 4 : Int)) (ja j p.1 : Int) (ja j p.2 : Int) N 0 [.int .i64 (ja j 0 : Int), .int .i64 (ja j 1 : Int), .int .i64 (ja j 2 : Int), .int .i64 (ja j 3 : Int), .int .i64 (ja j 4 : Int)] = _ from this]
  rfl
theorem apart_ok : m97 2000 = some (.agg (jP apt)) := by kernel_rfl
theorem wth_len {j : List Nat} {p : Nat × Nat} (h : j.length = 5) : (wth j p).length = 5 := by simp [wth, h]
def cL (L : List (Nat × Nat)) : List (Int × Int) := L.map cI
theorem cL_len (L : List (Nat × Nat)) : (cL L).length = L.length := by simp [cL]
def pN (L : List (Nat × Nat)) (i : Nat) : Nat × Nat := L.getD i (0, 0)
theorem cL_pI {L : List (Nat × Nat)} {i : Nat} (h : i < L.length) : pI (cL L) i = cI (pN L i) := by simp [pI, cL, pN, List.getD, h]
theorem pN_mem {L : List (Nat × Nat)} {i : Nat} (h : i < L.length) : pN L i ∈ L := by simp [pN, List.getD, h]
theorem drop_pN {L : List (Nat × Nat)} {i : Nat} (h : i < L.length) : L.drop i = pN L i :: L.drop (i + 1) := by
  rw [List.drop_eq_getElem_cons h]; simp [pN, List.getD, h]
theorem count_L (N : Nat) (hN : 2000 ≤ N) (L : List (Nat × Nat)) (hL : Ok L) (hl : L.length ≤ 1000) : ∀ (r i fuel a : Nat) (j : List Nat), L.length - i = r → j.length = 5 → a ≤ i → r < fuel →
    m70_L0 N L.length (prsI (cL L)) fuel (a : Int) (i : Int) (.int .i64 (ja j 0 : Int)) (.int .i64 (ja j 1 : Int)) (.int .i64 (ja j 2 : Int)) (.int .i64 (ja j 3 : Int)) (.int .i64 (ja j 4 : Int)) = some ((a + cntJ j (L.drop i) : Nat) : Int)
  | r, i, 0, a, j, _, _, _, h => by omega
  | r, i, f + 1, a, j, hr, hj, ha, hf => by
    rw [m70_L0]
    by_cases h : i < L.length
    · have h' : i < (cL L).length := by rw [cL_len]; exact h
      have hp := hL _ (pN_mem h)
      rw [brn_t (by simp; omega), toNatN, grd_t ⟨by omega, by omega⟩, grd_t (prsI_two' h'), prsI_two h', cL_pI h, drop_pN h]
      have e1 := joined_ok N j (pN L i) hp
      have e2 := with_ok N hN j hj (pN L i) hp
      unfold jP prI at e1
      unfold jP prI at e2
      simp only [getA2, e1, bnd', getB, cntJ]
      cases e : jnd j (pN L i) with
      | true =>
        rw [brn_t rfl, wrapN (by omega), count_L N hN L hL hl (r - 1) (i + 1) f a j (by omega) hj (by omega) (by omega)]
        simp
      | false =>
        rw [brn_f rfl]
        simp only [e2, getA5]
        rw [wrapN (by omega), wrapN (by omega), count_L N hN L hL hl (r - 1) (i + 1) f (a + 1) (wth j (pN L i)) (by omega) (wth_len hj) (by omega) (by omega)]
        simp; omega
    · rw [brn_f (by simp; omega), List.drop_eq_nil_of_le (by omega)]; simp [cntJ]
theorem count_ok (L : List (Nat × Nat)) (hL : Ok L) (hl : L.length ≤ 1000) : m70 2000 (.lst false L.length (prsI (cL L))) = some (.int .i64 (rk L : Int)) := by
  simp only [m70, getL, apart_ok, bnd']
  rw [getA5_jP]
  have := count_L 2000 (by omega) L hL hl L.length 0 2000 0 apt (by omega) rfl (by omega) (by omega)
  rw [show m70_L0 2000 L.length (prsI (cL L)) 2000 0 0 _ _ _ _ _ = _ from this]
  simp [rk]
def cK (K : List (List (Nat × Nat))) : List (List (Int × Int)) := K.map cL
theorem cK_len (K : List (List (Nat × Nat))) : (cK K).length = K.length := by simp [cK]
def kN (K : List (List (Nat × Nat))) (i : Nat) : List (Nat × Nat) := K.getD i []
theorem cK_kI {K : List (List (Nat × Nat))} {i : Nat} (h : i < K.length) : kI (cK K) i = cL (kN K i) := by simp [kI, cK, kN, List.getD, h]
theorem kN_mem {K : List (List (Nat × Nat))} {i : Nat} (h : i < K.length) : kN K i ∈ K := by simp [kN, List.getD, h]
def crw (n : Nat) (K : List (List (Nat × Nat))) : PV := .agg [.int .i64 (n : Int), .lst false K.length (knsI (cK K))]
def nL (X : List Nat) : List PV := X.map fun (k : Nat) => PV.int .i64 (k : Int)
theorem nL_len (X : List Nat) : (nL X).length = X.length := by simp [nL]
def nn (X : List Nat) (i : Nat) : Nat := X.getD i 0
theorem nL_gp {X : List Nat} {i : Nat} (h : i < X.length) : gp (nL X) i = .int .i64 (nn X i : Int) := by
  simp [nL, gp, nn, List.getD, h]
theorem nn_mem {X : List Nat} {i : Nat} (h : i < X.length) : nn X i ∈ X := by
  simp [nn, List.getD, h]
theorem drop_nn {X : List Nat} {i : Nat} (h : i < X.length) : X.drop i = nn X i :: X.drop (i + 1) := by
  rw [List.drop_eq_getElem_cons h]; simp [nn, List.getD, h]
structure Fit (n : Nat) (K : List (List (Nat × Nat))) : Prop where
  n1 : 1 ≤ n
  n5 : n ≤ 5
  many : K.length ≤ 5
  len : ∀ l ∈ K, l.length ≤ 6
  lt : ∀ l ∈ K, ∀ p ∈ l, p.1 < p.2 ∧ p.2 < n
  one : ∀ l ∈ K, l.Nodup
theorem idx_L (N : Nat) (p : Int × Int) (l : List (Int × Int)) (hl : l.length ≤ 1000) : ∀ (r i fuel : Nat), l.length - i = r → r < fuel →
    ∃ o, m93_L0 N l.length (prsI l) fuel (i : Int) (.int .i64 p.1) (.int .i64 p.2) = some o ∧ ((l.drop i).contains p = true → ∃ k : Nat, o = .inl (.int .i64 (k : Int))) ∧ ((l.drop i).contains p = false → o = .inr ())
  | r, i, 0, _, h => by omega
  | r, i, f + 1, hr, hf => by
    rw [m93_L0]
    by_cases h : i < l.length
    · obtain ⟨o, o1, o2, o3⟩ := idx_L N p l hl (r - 1) (i + 1) f (by omega) (by omega)
      rw [brn_t (by simp; omega), toNatN, grd_t ⟨by omega, by omega⟩, grd_t (prsI_two' h), prsI_two h, drop_pI h]
      simp only [getA2, getI, if_true, List.contains_cons]
      by_cases e : p = pI l i
      · have e1 : (p == pI l i) = true := by simpa using e
        rw [brn_t (by rw [← e]; simp), e1]
        exact ⟨_, rfl, fun _ => ⟨i, rfl⟩, fun h => by simp at h⟩
      · have e1 : (p == pI l i) = false := by simpa using e
        rw [brn_f (by
          rw [Bool.and_eq_false_iff]
          by_cases a : p.1 = (pI l i).1
          · right; have : p.2 ≠ (pI l i).2 := fun b => e (Prod.ext a b)
            simpa using this
          · left; simpa using a), wrapN (by omega), e1]
        exact ⟨o, o1, fun h => o2 (by simpa using h), fun h => o3 (by simpa using h)⟩
    · rw [brn_f (by simp; omega), List.drop_eq_nil_of_le (by omega)]
      exact ⟨_, rfl, fun h => by simp at h, fun _ => rfl⟩
theorem has_ok (N : Nat) (hN : 2000 ≤ N) (p : Int × Int) (l : List (Int × Int)) (hl : l.length ≤ 1000) : m51 N (.lst false l.length (prsI l)) (.agg [.int .i64 p.1, .int .i64 p.2]) = some (.bool (l.contains p)) := by
  obtain ⟨o, o1, o2, o3⟩ := idx_L N p l hl l.length 0 N (by omega) (by omega)
  rw [List.drop_zero] at o2 o3
  simp only [m51, getL, getA2, m93]
  rw [show m93_L0 N l.length (prsI l) N 0 (.int .i64 p.1) (.int .i64 p.2) = some o from o1]
  cases h : l.contains p with
  | true =>
    obtain ⟨k, rfl⟩ := o2 h
    simp [bnd', getI]
  | false => rw [o3 h]; simp [bnd', getI]
def chkL (n : Int) : List (Int × Int) → List (Int × Int) → Int
  | _, [] => 0
  | d, p :: r => if minI p.1 p.2 < 0 then 2 else if maxI p.1 p.2 ≥ n then 2 else if p.1 ≥ p.2 then 7 else if d.contains p then 6 else chkL n (d ++ [p]) r
def chkK (n : Int) : List (List (Int × Int)) → Int
  | [] => 0
  | l :: ls => if 6 < l.length then 3 else if chkL n [] l ≠ 0 then chkL n [] l else chkK n ls
def chk (n : Int) (K : List (List (Int × Int))) : Int := if n < 1 then 1 else if n > 5 then 1 else if 5 < K.length then 3 else chkK n K
def outE (e : Int) : PV ⊕ Unit := if e = 0 then .inr () else .inl (.int .i64 e)
theorem chk_L1 (N : Nat) (hN : 2000 ≤ N) (n : Int) (m : Nat) (c : List PV) (x : Int) (l : List (Int × Int)) (hl : l.length ≤ 1000) : ∀ (r i fuel : Nat), l.length - i = r → r < fuel →
    m22_L1 N n m c x l.length (prsI l) fuel (i : Int) = some (outE (chkL n (l.take i) (l.drop i)))
  | r, i, 0, _, h => by omega
  | r, i, f + 1, hr, hf => by
    rw [m22_L1]
    by_cases h : i < l.length
    · have ih := chk_L1 N hN n m c x l hl (r - 1) (i + 1) f (by omega) (by omega)
      rw [brn_t (by simp; omega), toNatN, grd_t ⟨by omega, by omega⟩, grd_t (prsI_two' h), prsI_two h, drop_pI h]
      simp only [getA2, getI, if_true, chkL]
      by_cases h1 : minI (pI l i).1 (pI l i).2 < 0
      · rw [brn_t (by simpa using h1), if_pos h1]; rfl
      · rw [brn_f (by simpa using h1), if_neg h1]
        by_cases h2 : maxI (pI l i).1 (pI l i).2 ≥ n
        · rw [brn_t (by simpa using h2), if_pos h2]; rfl
        · rw [brn_f (by simpa using h2), if_neg h2]
          by_cases h3 : (pI l i).1 ≥ (pI l i).2
          · rw [brn_t (by simpa using h3), if_pos h3]; rfl
          · have e := has_ok N hN (pI l i) (l.take i) (by rw [List.length_take]; omega)
            rw [show (l.take i).length = i by rw [List.length_take]; omega] at e
            rw [brn_f (by simpa using h3), if_neg h3, grd_t (by omega), grd_t (prsI_len l), prsI_take, e]
            simp only [bnd', getB]
            cases hc : (l.take i).contains (pI l i) with
            | true => rw [brn_t rfl, if_pos rfl]; rfl
            | false => rw [brn_f rfl, if_neg (by simp), wrapN (by omega), ih, take_pI h]
    · rw [brn_f (by simp; omega), List.drop_eq_nil_of_le (by omega)]; rfl
theorem chk_L0 (N : Nat) (hN : 2000 ≤ N) (n : Int) (K : List (List (Int × Int))) (hK : K.length ≤ 1000) (hl : ∀ l ∈ K, l.length ≤ 1000) : ∀ (r i fuel : Nat), K.length - i = r → r < fuel →
    m22_L0 N n K.length (knsI K) fuel (i : Int) = some (outE (chkK n (K.drop i)))
  | r, i, 0, _, h => by omega
  | r, i, f + 1, hr, hf => by
    have hk := knsI_len K
    rw [m22_L0]
    by_cases h : i < K.length
    · have ih := chk_L0 N hN n K hK hl (r - 1) (i + 1) f (by omega) (by omega)
      have h1 := hl _ (kI_mem h)
      rw [brn_t (by simp; omega), toNatN, grd_t ⟨by omega, by omega⟩, grd_t (by simp only [List.length_drop]; omega), knsI_gp h, drop_kI h]
      simp only [getL, chkK]
      by_cases h2 : 6 < (kI K i).length
      · rw [brn_t (by simp; omega), if_pos h2]; rfl
      · have e := chk_L1 N hN n K.length (knsI K) (i : Int) (kI K i) h1 (kI K i).length 0 N (by omega) (by omega)
        rw [List.take_zero, List.drop_zero] at e
        rw [brn_f (by simp; omega), if_neg h2, show m22_L1 N n K.length (knsI K) (i : Int) (kI K i).length (prsI (kI K i)) N 0 = _ from e]
        by_cases h3 : chkL n [] (kI K i) = 0
        · rw [if_neg (by simpa using h3), outE, if_pos h3]
          simp only [bnd']
          rw [wrapN (by omega)]; exact ih
        · rw [if_pos h3, outE, if_neg h3]; simp [bnd', outE, h3]
    · rw [brn_f (by simp; omega), List.drop_eq_nil_of_le (by omega)]; rfl
theorem outE_end {x : Int} : (match outE x with | .inl p => some p | .inr () => some (PV.int .i64 0)) = some (.int .i64 x) := by
  unfold outE
  by_cases h : x = 0
  · rw [if_pos h, h]
  · rw [if_neg h]
theorem check_ok (N : Nat) (hN : 2000 ≤ N) (n : Int) (K : List (List (Int × Int))) (hK : K.length ≤ 1000) (hl : ∀ l ∈ K, l.length ≤ 1000) : m22 N (.agg [.int .i64 n, .lst false K.length (knsI K)]) = some (.int .i64 (chk n K)) := by
  simp only [m22, getA2, getI, if_true, getL]
  unfold chk
  by_cases h1 : n < 1
  · rw [brn_t (by simpa using h1), if_pos h1]
  · rw [brn_f (by simpa using h1), if_neg h1]
    by_cases h2 : n > 5
    · rw [brn_t (by simpa using h2), if_pos h2]
    · rw [brn_f (by simpa using h2), if_neg h2]
      by_cases h3 : 5 < K.length
      · rw [brn_t (by simp; omega), if_pos h3]
      · have e := chk_L0 N hN n K hK hl K.length 0 N (by omega) (by omega)
        rw [List.drop_zero] at e
        rw [brn_f (by simp; omega), if_neg h3, show m22_L0 N n K.length (knsI K) N 0 = _ from e]
        exact outE_end
theorem minI_min (a b : Int) : minI a b = min a b := by unfold minI; split <;> omega
theorem maxI_max (a b : Int) : maxI a b = max a b := by unfold maxI; split <;> omega
theorem chkL_fit {n : Nat} : ∀ (l d : List (Nat × Nat)), (∀ p ∈ l, p.1 < p.2 ∧ p.2 < n) → (d ++ l).Nodup → chkL (n : Int) (cL d) (cL l) = 0
  | [], _, _, _ => rfl
  | p :: l, d, h, hn => by
    have hp := h p (.head _)
    have e := chkL_fit l (d ++ [p]) (fun q hq => h q (.tail _ hq)) (by simpa using hn)
    have hc : (cL d).contains (cI p) = false := by
      rw [Bool.eq_false_iff]
      intro hc
      have hm : cI p ∈ cL d := by simpa using hc
      obtain ⟨q, hq, e⟩ := List.mem_map.1 hm
      have : q = p := by
        have e1 := congrArg Prod.fst e
        have e2 := congrArg Prod.snd e
        simp only [cI] at e1 e2
        exact Prod.ext (by omega) (by omega)
      subst this
      have := List.nodup_append.1 hn
      exact this.2.2 _ hq _ (.head _) rfl
    show chkL (n : Int) (cL d) (cI p :: cL l) = 0
    have m1 : ¬ minI (cI p).1 (cI p).2 < 0 := by rw [minI_min]; simp only [cI]; omega
    have m2 : ¬ maxI (cI p).1 (cI p).2 ≥ (n : Int) := by rw [maxI_max]; simp only [cI]; omega
    have m3 : ¬ (cI p).1 ≥ (cI p).2 := by simp only [cI]; omega
    rw [chkL, if_neg m1, if_neg m2, if_neg m3, hc, if_neg (by simp)]
    have e2 : cL d ++ [cI p] = cL (d ++ [p]) := by simp [cL]
    rw [e2]; exact e
theorem chkK_fit {n : Nat} : ∀ (K : List (List (Nat × Nat))), (∀ l ∈ K, l.length ≤ 6) → (∀ l ∈ K, ∀ p ∈ l, p.1 < p.2 ∧ p.2 < n) → (∀ l ∈ K, l.Nodup) → chkK (n : Int) (cK K) = 0
  | [], _, _, _ => rfl
  | l :: K, h1, h2, h3 => by
    have e := chkL_fit (n := n) l [] (h2 l (.head _)) (by simpa using h3 l (.head _))
    have := h1 l (.head _)
    show chkK (n : Int) (cL l :: cK K) = 0
    rw [chkK, if_neg (by rw [cL_len]; omega), if_neg (by simpa [cL] using e)]
    exact chkK_fit K (fun x hx => h1 x (.tail _ hx)) (fun x hx => h2 x (.tail _ hx)) (fun x hx => h3 x (.tail _ hx))
theorem chk_fit {n : Nat} {K : List (List (Nat × Nat))} (h : Fit n K) : chk (n : Int) (cK K) = 0 := by
  have := h.n1
  have := h.n5
  have := h.many
  unfold chk
  rw [if_neg (by omega), if_neg (by omega), if_neg (by rw [cK_len]; omega)]
  exact chkK_fit K h.len h.lt h.one
def iL (X : List Int) : List PV := X.map (PV.int .i64)
theorem iL_len (X : List Int) : (iL X).length = X.length := by simp [iL]
def en (X : List Int) (i : Nat) : Int := X.getD i 0
theorem iL_gp {X : List Int} {i : Nat} (h : i < X.length) : gp (iL X) i = .int .i64 (en X i) := by
  simp [iL, gp, en, List.getD, h]
theorem drop_en {L : List Int} {i : Nat} (h : i < L.length) : L.drop i = en L i :: L.drop (i + 1) := by
  rw [List.drop_eq_getElem_cons h]; simp [en, List.getD, h]
def cS (X : List Nat) : List Int := X.map fun (k : Nat) => (k : Int)
theorem cS_len (X : List Nat) : (cS X).length = X.length := by simp [cS]
theorem nL_iL (X : List Nat) : nL X = iL (cS X) := by simp [nL, iL, cS]
theorem bnd_t {α β : Type} {x : α} {f : α → Option β} : bnd' (some x) f = f x := rfl
theorem getI_t {α : Type} {k : IntKind} {x : Int} {f : Int → Option α} : getI k (.int k x) f = f x := by simp [getI]
theorem getB_t {α : Type} {x : Bool} {f : Bool → Option α} : getB (.bool x) f = f x := rfl
theorem getL_t {α : Type} {n : Nat} {c : List PV} {f : Nat → List PV → Option α} : getL (.lst false n c) f = f n c := rfl
theorem getA2_t {α : Type} {a b : PV} {f : PV → PV → Option α} : getA2 (.agg [a, b]) f = f a b := rfl
def chL : List (List (Int × Int)) → List Int → Option (List (Int × Int))
  | l :: K, x :: X => if 0 ≤ x ∧ x < (l.length : Int) then (chL K X).map (pI l x.toNat :: ·) else none
  | _, _ => some []
def chO (A : List (Int × Int)) : Option (List (Int × Int)) → PV ⊕ (Nat × List PV)
  | some B => .inr ((A ++ B).length, prsI (A ++ B))
  | none => .inl (.tup [.lst false 0 [], .int .i64 2])
theorem chosen_L (N : Nat) (p : PV) (K : List (List (Int × Int))) (X : List Int) (hX : X.length = K.length) (hK : K.length ≤ 1000) : ∀ (r i fuel : Nat) (A : List (Int × Int)), X.length - i = r → r < fuel → A.length ≤ i →
    m67_L0 N p X.length (iL X) K.length (knsI K) fuel A.length (i : Int) (prsI A) = some (chO A (chL (K.drop i) (X.drop i)))
  | r, i, 0, A, _, h, _ => by omega
  | r, i, f + 1, A, hr, hf, hA => by
    have hl := iL_len X
    have hk := knsI_len K
    rw [m67_L0]
    by_cases h : i < X.length
    · have h' : i < K.length := by omega
      rw [brn_t (by simp; omega), toNatN, grd_t ⟨by omega, by omega⟩, grd_t (by simp only [List.length_drop]; omega), iL_gp h, getI_t, drop_en h, drop_kI h', chL]
      by_cases h1 : en X i < 0
      · rw [brn_t (by simpa using h1), if_neg (by omega)]; rfl
      · rw [brn_f (by simpa using h1), grd_t (by omega), grd_t (by simp only [List.length_drop]; omega), knsI_gp h', getL_t]
        by_cases h2 : en X i < ((kI K i).length : Int)
        · have h3 : (en X i).toNat < (kI K i).length := by omega
          have ih := chosen_L N p K X hX hK (r - 1) (i + 1) f (A ++ [pI (kI K i) (en X i).toNat]) (by omega) (by omega) (by simp; omega)
          rw [brn_f (by simp; omega), if_pos ⟨by omega, h2⟩, grd_t ⟨by omega, h2⟩, grd_t (prsI_two' h3), prsI_two h3, getA2_t, grd_t (by omega), grd_t (prsI_len A), wrapN (by omega)]
          have e : prsI A ++ [PV.int .i64 (pI (kI K i) (en X i).toNat).1, PV.int .i64 (pI (kI K i) (en X i).toNat).2] = prsI (A ++ [pI (kI K i) (en X i).toNat]) := by simp [prsI, prI]
          rw [List.length_append] at ih
          rw [e]
          refine Eq.trans ih ?_
          cases chL (K.drop (i + 1)) (X.drop (i + 1)) <;> simp [chO]
        · rw [brn_t (by simp; omega), if_neg (by omega)]; rfl
    · rw [brn_f (by simp; omega), show X.drop i = [] from List.drop_eq_nil_of_le (by omega)]
      cases K.drop i <;> simp [chL, chO]
def chE (n : Int) (K : List (List (Int × Int))) (X : List Int) : Int := if chk n K ≠ 0 then chk n K else if X.length ≠ K.length then 5 else match chL K X with | some _ => 0 | none => 2
def chP (K : List (List (Int × Int))) (X : List Int) : List (Int × Int) := (chL K X).getD []
theorem chosen_ok (N : Nat) (hN : 2000 ≤ N) (n : Int) (K : List (List (Int × Int))) (hK : K.length ≤ 1000) (hl : ∀ l ∈ K, l.length ≤ 1000) (X : List Int) (hX : X.length ≤ 1000) :
    m67 N (.agg [.int .i64 n, .lst false K.length (knsI K)]) (.lst false X.length (iL X)) = some (.tup [if chE n K X = 0 then .lst false (chP K X).length (prsI (chP K X)) else .lst false 0 [], .int .i64 (chE n K X)]) := by
  rw [m67, getA2_t, getL_t, check_ok N hN n K hK hl, bnd_t, getI_t]
  by_cases h : chk n K = 0
  · rw [brn_f (by simpa using h), getL_t]
    by_cases h2 : X.length = K.length
    · have e := chosen_L N (.int .i64 n) K X h2 hK X.length 0 N [] (by omega) (by omega) (by simp)
      rw [List.drop_zero, List.drop_zero] at e
      have hE : chE n K X = match chL K X with | some _ => 0 | none => 2 := by
        unfold chE; rw [if_neg (by simpa using h), if_neg (by simpa using h2)]
      rw [brn_f (by simp; omega), hE, show m67_L0 N (.int .i64 n) X.length (iL X) K.length (knsI K) N 0 0 [] = _ from e, bnd_t]
      unfold chP
      cases chL K X with
      | some B =>
        simp only [chO, List.nil_append]
        rw [grd_t (prsI_len B)]; rfl
      | none => rfl
    · have hE : chE n K X = 5 := by unfold chE; rw [if_neg (by simpa using h), if_pos h2]
      rw [brn_t (by simp; omega), hE]; rfl
  · have hE : chE n K X = chk n K := by unfold chE; rw [if_pos h]
    rw [brn_t (by simpa using h), hE, if_neg h]
theorem getT2_t {α : Type} {a b : PV} {f : PV → PV → Option α} : getT2 (.tup [a, b]) f = f a b := rfl
theorem mems_ok : ∀ (s : Nat), s < 32 → m77 2000 (s : Int) = some (.lst false (memb s).length (nL (memb s)))
  | 0, _ => by kernel_rfl
  | 1, _ => by kernel_rfl
  | 2, _ => by kernel_rfl
  | 3, _ => by kernel_rfl
  | 4, _ => by kernel_rfl
  | 5, _ => by kernel_rfl
  | 6, _ => by kernel_rfl
  | 7, _ => by kernel_rfl
  | 8, _ => by kernel_rfl
  | 9, _ => by kernel_rfl
  | 10, _ => by kernel_rfl
  | 11, _ => by kernel_rfl
  | 12, _ => by kernel_rfl
  | 13, _ => by kernel_rfl
  | 14, _ => by kernel_rfl
  | 15, _ => by kernel_rfl
  | 16, _ => by kernel_rfl
  | 17, _ => by kernel_rfl
  | 18, _ => by kernel_rfl
  | 19, _ => by kernel_rfl
  | 20, _ => by kernel_rfl
  | 21, _ => by kernel_rfl
  | 22, _ => by kernel_rfl
  | 23, _ => by kernel_rfl
  | 24, _ => by kernel_rfl
  | 25, _ => by kernel_rfl
  | 26, _ => by kernel_rfl
  | 27, _ => by kernel_rfl
  | 28, _ => by kernel_rfl
  | 29, _ => by kernel_rfl
  | 30, _ => by kernel_rfl
  | 31, _ => by kernel_rfl
  | n + 32, h => by omega
def cmpI (x y : Int) : Int := if x < y then -1 else if x > y then 1 else 0
theorem cmp_ok (N : Nat) (x y : Int) : m91 N x y = some (.int .i64 (cmpI x y)) := by
  have h1 : (x != x) = false := by simp
  have h2 : (y != y) = false := by simp
  unfold cmpI
  rw [m91, m104, bnd_t, getB_t, m104, bnd_t, getB_t, h1, h2, brn_f rfl, brn_f rfl]
  by_cases a : x < y
  · rw [brn_t (decide_eq_true a), if_pos a]
  · rw [brn_f (decide_eq_false a), if_neg a]
    by_cases b : x > y
    · rw [brn_t (decide_eq_true b), if_pos b]
    · rw [brn_f (decide_eq_false b), if_neg b]
def cmpL : List Nat → List Nat → Int
  | [], [] => 0
  | [], _ :: _ => -1
  | _ :: _, [] => 1
  | a :: x, b :: y => if a < b then -1 else if b < a then 1 else cmpL x y
theorem cmpL_lex : ∀ x y, (cmpL x y < 0) ↔ lexL x y = true
  | [], [] => by simp [cmpL, lexL]
  | [], _ :: _ => by simp [cmpL, lexL]
  | _ :: _, [] => by simp [cmpL, lexL]
  | a :: x, b :: y => by
    have ih := cmpL_lex x y
    unfold cmpL lexL
    by_cases h1 : a < b
    · simp [h1]
    · rw [if_neg h1, if_neg h1]
      by_cases h2 : b < a
      · simp [h2]
      · rw [if_neg h2, if_neg h2]; exact ih
def cmO (n m : Nat) (e : Int) : PV ⊕ Unit → Option PV
  | .inl p => some p
  | .inr () => brn (decide ((n : Int) < (m : Int))) (some (.int .i64 (-1))) (some (.int .i64 0))
theorem compare_L (N : Nat) (x y : List Nat) (hx : x.length ≤ 1000) : ∀ (r i fuel : Nat), x.length - i = r → r < fuel → i ≤ x.length → i ≤ y.length →
    ∃ o, m47_L0 N x.length (nL x) y.length (nL y) fuel (i : Int) = some o ∧ cmO x.length y.length 0 o = some (.int .i64 (cmpL (x.drop i) (y.drop i)))
  | r, i, 0, _, h, _, _ => by omega
  | r, i, f + 1, hr, hf, hi, hy => by
    have lx := nL_len x
    have ly := nL_len y
    rw [m47_L0]
    by_cases h : i < x.length
    · rw [brn_t (by simp; omega), toNatN, grd_t ⟨by omega, by omega⟩, grd_t (by simp only [List.length_drop]; omega), nL_gp h, getI_t, drop_nn h]
      by_cases h2 : i < y.length
      · rw [brn_f (by simp; omega), grd_t (by omega), grd_t (by simp only [List.length_drop]; omega), nL_gp h2, getI_t, cmp_ok, bnd_t, getI_t, drop_nn h2, cmpL]
        unfold cmpI
        by_cases a : nn x i < nn y i
        · have a' : ((nn x i : Nat) : Int) < (nn y i : Int) := by omega
          rw [if_pos a', if_pos a, brn_t (by decide)]
          exact ⟨_, rfl, rfl⟩
        · have a' : ¬ ((nn x i : Nat) : Int) < (nn y i : Int) := by omega
          rw [if_neg a', if_neg a]
          by_cases b : nn y i < nn x i
          · have b' : ((nn x i : Nat) : Int) > (nn y i : Int) := by omega
            rw [if_pos b', if_pos b, brn_t (by decide)]
            exact ⟨_, rfl, rfl⟩
          · have b' : ¬ ((nn x i : Nat) : Int) > (nn y i : Int) := by omega
            rw [if_neg b', if_neg b, brn_f (by rfl), wrapN (by omega)]
            exact compare_L N x y hx (r - 1) (i + 1) f (by omega) (by omega) (by omega) (by omega)
      · rw [brn_t (by simp; omega), show y.drop i = [] from List.drop_eq_nil_of_le (by omega)]
        exact ⟨_, rfl, rfl⟩
    · rw [brn_f (by simp; omega), show x.drop i = [] from List.drop_eq_nil_of_le (by omega)]
      refine ⟨_, rfl, ?_⟩
      by_cases h2 : i < y.length
      · rw [drop_nn h2, cmO, brn_t (by simp; omega)]; rfl
      · rw [show y.drop i = [] from List.drop_eq_nil_of_le (by omega), cmO, brn_f (by simp; omega)]; rfl
theorem compare_ok (N : Nat) (hN : 2000 ≤ N) (x y : List Nat) (hx : x.length ≤ 1000) : m47 N (.lst false x.length (nL x)) (.lst false y.length (nL y)) = some (.int .i64 (cmpL x y)) := by
  obtain ⟨o, o1, o2⟩ := compare_L N x y hx x.length 0 N (by omega) (by omega) (by omega) (by omega)
  rw [List.drop_zero, List.drop_zero] at o2
  rw [m47, getL_t, getL_t, show m47_L0 N x.length (nL x) y.length (nL y) N 0 = some o from o1, bnd_t, ← o2]
  cases o with
  | inl p => rfl
  | inr u => rfl
def fnd : Option (List Nat) → PV
  | none => .fn 999999 []
  | some l => .fn 1000025 [.lst false l.length (nL l)]
theorem getIf_n {α : Type} {f : Nat} {k1 : Option α} {k2 : PV → Option α} : getIf f (fnd none) k1 k2 = k1 := by simp [getIf, fnd]
theorem getIf_s {α : Type} {l : List Nat} {k1 : Option α} {k2 : PV → Option α} : getIf 1000025 (fnd (some l)) k1 k2 = k2 (.lst false l.length (nL l)) := by simp [getIf, fnd]
theorem memb_len (s : Nat) : (memb s).length ≤ 5 := by
  have := List.length_filter_le (fun k => s.testBit k) (List.range 5)
  simpa [memb] using this
theorem wrapU (s : Nat) (h : s ≤ 32) : IntKind.u64.wrap ((s : Int) + 1) = ((s + 1 : Nat) : Int) := by
  have : ((List.range 33).all fun s => IntKind.u64.wrap ((s : Int) + 1) == ((s + 1 : Nat) : Int)) = true := by kernel_rfl
  simpa using List.all_eq_true.1 this s (List.mem_range.2 (by omega))
theorem pow_U (n : Nat) (h : n ≤ 5) : IntKind.u64.wrap (1 * 2 ^ (min (Int.toNat (n : Int)) 64)) = ((2 ^ n : Nat) : Int) := by
  have : n = 0 ∨ n = 1 ∨ n = 2 ∨ n = 3 ∨ n = 4 ∨ n = 5 := by omega
  rcases this with rfl | rfl | rfl | rfl | rfl | rfl <;> rfl
theorem bs_f {is : List Nat → Bool} {lt : List Nat → List Nat → Bool} {acc : Option (List Nat)} {l : List Nat} (h : is l = false) : bstep is lt acc l = acc := by simp [bstep, h]
theorem bs_n {is : List Nat → Bool} {lt : List Nat → List Nat → Bool} {l : List Nat} (h : is l = true) : bstep is lt none l = some l := by simp [bstep, h]
theorem bs_t {is : List Nat → Bool} {lt : List Nat → List Nat → Bool} {o l : List Nat} (h : is l = true) (h2 : lt l o = true) : bstep is lt (some o) l = some l := by simp [bstep, h, h2]
theorem bs_k {is : List Nat → Bool} {lt : List Nat → List Nat → Bool} {o l : List Nat} (h : is l = true) (h2 : lt l o = false) : bstep is lt (some o) l = some o := by simp [bstep, h, h2]
section
variable (n : Nat) (hn : n ≤ 5) (p : PV) (is : List Nat → Bool) (his : ∀ s, s < 2 ^ n → m69 2000 (.lst false (memb s).length (nL (memb s))) p = some (.bool (is (memb s))))
include hn his
theorem best_L : ∀ (r s fuel : Nat) (acc : Option (List Nat)), 2 ^ n - s = r → r < fuel → (∀ l, acc = some l → l.length ≤ 5) →
    m68_L0 2000 (n : Int) false p fuel (fnd acc) (s : Int) = some (fnd (((List.range' s (2 ^ n - s)).map memb).foldl (bstep is ltS) acc))
  | r, s, 0, acc, _, h, _ => by omega
  | r, s, f + 1, acc, hr, hf, ha => by
    have hp : 2 ^ n ≤ 32 := Nat.pow_le_pow_right (n := 2) (by omega) hn
    have hm := memb_len s
    rw [m68_L0, pow_U n hn]
    by_cases h : s < 2 ^ n
    · have ih := fun acc => best_L (r - 1) (s + 1) f acc (by omega) (by omega)
      rw [brn_t (decide_eq_true (by omega)), mems_ok s (by omega), bnd_t, getL_t, his s h, bnd_t, getB_t, show 2 ^ n - s = (2 ^ n - (s + 1)) + 1 by omega, List.range'_succ, List.map_cons, List.foldl_cons, wrapU s (by omega)]
      have take : m68_L0 2000 (n : Int) false p f (.fn 1000025 [.lst false (memb s).length (nL (memb s))]) ((s + 1 : Nat) : Int) = some (fnd (((List.range' (s + 1) (2 ^ n - (s + 1))).map memb).foldl (bstep is ltS) (some (memb s)))) := ih (some (memb s)) (fun l hl => by cases hl; exact hm)
      cases hi : is (memb s) with
      | false => rw [brn_f rfl, bs_f hi]; exact ih acc ha
      | true =>
        rw [brn_t rfl]
        cases acc with
        | none => rw [getIf_n, bs_n hi]; exact take
        | some o =>
          have ho := ha o rfl
          have keep : m68_L0 2000 (n : Int) false p f (.fn 1000025 [.lst false o.length (nL o)]) ((s + 1 : Nat) : Int) = some (fnd (((List.range' (s + 1) (2 ^ n - (s + 1))).map memb).foldl (bstep is ltS) (some o))) := ih (some o) ha
          rw [getIf_s, getL_t]
          by_cases e : (memb s).length = o.length
          · have hlt : ltS (memb s) o = lexL (memb s) o := by unfold ltS; rw [if_pos e]
            rw [brn_t (by simp; omega), compare_ok 2000 (by omega) _ _ (by omega), bnd_t, getI_t]
            cases hx : lexL (memb s) o with
            | true =>
              have := (cmpL_lex (memb s) o).2 hx
              rw [brn_t (decide_eq_true this), bs_t hi (hlt.trans hx)]; exact take
            | false =>
              have : ¬ cmpL (memb s) o < 0 := fun q => by rw [(cmpL_lex _ _).1 q] at hx; cases hx
              rw [brn_f (decide_eq_false this), brn_f (by simp; omega), bs_k hi (hlt.trans hx)]; exact keep
          · have hlt : ltS (memb s) o = decide ((memb s).length < o.length) := by unfold ltS; rw [if_neg e]
            rw [brn_f (by simp; omega), brn_t (by simp; omega)]
            by_cases g : (memb s).length < o.length
            · rw [brn_t (by simp; omega), bs_t hi (by rw [hlt]; exact decide_eq_true g)]; exact take
            · rw [brn_f (by simp; omega), bs_k hi (by rw [hlt]; exact decide_eq_false g)]; exact keep
    · rw [brn_f (decide_eq_false (by omega)), show 2 ^ n - s = 0 by omega]; rfl
theorem best_ok : m68 2000 (n : Int) false p = some (match (upT n).find? is with | some l => .tup [.lst false l.length (nL l), .bool true] | none => .tup [.lst false 0 [], .bool false]) := by
  have hp : 2 ^ n ≤ 32 := Nat.pow_le_pow_right (n := 2) (by omega) hn
  have e := best_L n hn p is his (2 ^ n) 0 2000 none (Nat.sub_zero _) (Nat.lt_of_le_of_lt hp (by decide)) (fun l hl => by cases hl)
  have r := best_up is hn
  unfold allS at r
  rw [Nat.sub_zero, ← List.range_eq_range', r] at e
  rw [m68, grd_t (by omega), show m68_L0 2000 (n : Int) false p 2000 (.fn 999999 []) 0 = _ from e, bnd_t]
  cases (upT n).find? is with
  | none => rw [getIf_n]
  | some l => rw [getIf_s, getL_t]
end
end Go.Proofs.YtnponojgpkbagaaDoor
