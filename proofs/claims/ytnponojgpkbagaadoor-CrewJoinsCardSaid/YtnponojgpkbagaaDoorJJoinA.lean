/-
  Models and laws.
-/
import Derived.Test.YtnponojgpkbagaaDoorJChkA
import Derived.Test.YtnponojgpkbagaaDoorJChkC
import Derived.Test.YtnponojgpkbagaaDoorJE44
import Derived.Test.YtnponojgpkbagaaDoorB
import Derived.Test.YtnponojgpkbagaaDoorV36
namespace Go.Proofs.YtnponojgpkbagaaDoor
open Go.V
open Nat renaming reduceBEq → qa, reduceAdd → qb, reduceSub → qc, reduceMul → qd, reduceLT → qe, reduceLeDiff → qf
open Int renaming reduceLE → qg, reduceLT → qh, reduceToNat → qi, reduceBEq → qj, reduceBNe → qk
set_option maxRecDepth 100000
set_option maxHeartbeats 4000000
set_option linter.unusedSimpArgs false
set_option linter.unusedVariables false
attribute [local go_sem] tl1 tl2 tl3 tl4 tl5 tl9 tl17 tl21 tl22 tl23 tl24 tl25 tl26 tl27 tl28 tl29 tl31 tl32 tl34 tl35 tl36 tl37 tl38 tl39 tl40 tl41 tl42 tl43 tl44 tl45 tl47 tl48 tl49 tl50 tl51 tl52 tl53 tl54 tl55 tl56 tl57 tl58 tl59 tl60 tl61 tl62 tl63 tl64 tl65 tl66 tl67 tl68 tl69 tl70 tl71 tl72 tl73 tl74 tl75 tl76 tl77 tl78 tl79 tl80 tl81 tl82 tl83 tl84 tl85 tl86 tl87 tl88 tl89 tl90 tl92 tl94 tl95 tl96 tl97 tl98 tl99 tl100 tl101 tl102 tl103 tl104 tl105 tl106 tl107 tl108 tl109 tl110 tl111 tl112 tl113 tl114 tl115 tl116 tl118 tl119 tl121 tl122 tl123 tl124 tl125 tl126 tl127 tl128 tl129 tl131 tl133 tl134 tl135 tl136 tl142 tl146

def m30 (N : Nat) (p5176 : PV) (p5177 : PV) : Option (PV) :=
  getA2 p5176 fun p5179 p5180 =>
  getL p5177 fun n5182 c5183 =>
  bnd' (m63 N (.agg [p5179, p5180]) (.lst false n5182 c5183)) fun p5184 =>
  getI .i64 p5184 fun x5187 =>
  brn (x5187 != 0) (
    some (.tup [(.bool false), (.int .i64 x5187)])) (
    bnd' (m82 N (.agg [p5179, p5180]) (.lst false n5182 c5183)) fun p5189 =>
    getB p5189 fun b5192 =>
    some (.tup [(.bool b5192), (.int .i64 0)]))
theorem c30 (N : Nat) (p5176 : PV) (p5177 : PV) (r : PV)  (h : m30 N p5176 p5177 = some r) : FnP Tryd.prog 30 [p5176, p5177] r := by
  unfold m30 at h
  refine Fn_of (sz := 16) tab_ok [0, 1, 2, 4, 5, 6, 11] [.tmp 4, .tmp 5] Tryd.func30 rfl rfl rfl (by simp) ?_
  simp only [initSt, initEnv, List.map_cons, List.map_nil, List.getD_cons_zero, List.getD_cons_succ, List.getD_nil]
  have hh := getA2_some h; clear h; obtain ⟨p5179, p5180, h5178, h⟩ := hh
  have hh := getL_some h; clear h; obtain ⟨n5182, c5183, h5181, h⟩ := hh
  have hh := bnd'_some h; clear h; obtain ⟨p5184, h5185, h⟩ := hh
  refine W_sound tab_ok mixed 11 _ _ _ ?_
  simp -implicitDefEqProofs only [go_sem, qa, qb, qc, qd, qe, qf, qg, qh, qi, qj, qk, ↓reduceIte, h5178, h5181]
  repeat with_reducible refine And.intro (by first | kernel_rfl | decide) ?_
  refine Wp_callP (c63 N _ _ _ h5185) (by kernel_rfl) rfl rfl rfl rfl (by decide) ?_
  have hh := getI_some h; clear h; obtain ⟨x5187, h5186, h⟩ := hh
  have hh := brn_some h; clear h; rcases hh with ⟨h5188, h⟩ | ⟨h5188, h⟩
  · refine W_sound tab_ok mixed 16 _ _ _ ?_
    simp -implicitDefEqProofs only [go_sem, qa, qb, qc, qd, qe, qf, qg, qh, qi, qj, qk, ↓reduceIte, h5178, h5181, h5186, h5188]
    repeat with_reducible refine And.intro (by first | kernel_rfl | decide) ?_
    obtain rfl := Option.some.inj h
    exact finC [(4, .v (.bool false)), (5, .v (.int .i64 x5187))] [(4, .v (.bool false)), (5, .v (.int .i64 x5187))] (by simp [leE, lk_cons]) (.cons _ _ _ _ _ (.v _ _ (.refl _)) (.cons _ _ _ _ _ (.v _ _ (.refl _)) .nil)) (by rfl) (by simp [leE, lk_cons]) (by decide) (by decide) rfl (by simp only [go_sem, qa, qb, qc, qd, qe, qf, qg, qh, qi, qj, qk, ↓reduceIte, resQ_tmp, resQ_cell, resQ_nil, retD_one, retD_two, retD_three, retD_none]; try simp [R.val, retD_one, retD_two, retD_three, retD_none])
  · have hh := bnd'_some h; clear h; obtain ⟨p5189, h5190, h⟩ := hh
    refine W_sound tab_ok mixed 13 _ _ _ ?_
    simp -implicitDefEqProofs only [go_sem, qa, qb, qc, qd, qe, qf, qg, qh, qi, qj, qk, ↓reduceIte, h5178, h5181, h5186, h5188]
    repeat with_reducible refine And.intro (by first | kernel_rfl | decide) ?_
    refine Wp_callP (c82 N _ _ _ h5190) (by kernel_rfl) rfl rfl rfl rfl (by decide) ?_
    have hh := getB_some h; clear h; obtain ⟨b5192, h5191, h⟩ := hh
    refine W_sound tab_ok mixed 5 _ _ _ ?_
    simp -implicitDefEqProofs only [go_sem, qa, qb, qc, qd, qe, qf, qg, qh, qi, qj, qk, ↓reduceIte, h5178, h5181, h5186, h5188, h5191]
    repeat with_reducible refine And.intro (by first | kernel_rfl | decide) ?_
    obtain rfl := Option.some.inj h
    exact finC [(4, .v (.bool b5192)), (5, .v (.int .i64 0))] [(4, .v (.bool b5192)), (5, .v (.int .i64 0))] (by simp [leE, lk_cons]) (.cons _ _ _ _ _ (.v _ _ (.refl _)) (.cons _ _ _ _ _ (.v _ _ (.refl _)) .nil)) (by rfl) (by simp [leE, lk_cons]) (by decide) (by decide) rfl (by simp only [go_sem, qa, qb, qc, qd, qe, qf, qg, qh, qi, qj, qk, ↓reduceIte, resQ_tmp, resQ_cell, resQ_nil, retD_one, retD_two, retD_three, retD_none]; try simp [R.val, retD_one, retD_two, retD_three, retD_none])

def m83_L0 (N : Nat) (p5218 : PV) (p5219 : PV) (n5226 : Nat) (c5227 : List PV) : Nat → Int → Option ((PV ⊕ Unit))
  | 0, _ => none
  | n + 1, x5228 =>
    brn (decide (x5228 < ((n5226 : Nat) : Int))) (
      grd (0 ≤ x5228 ∧ x5228 < ((n5226 : Nat) : Int)) <|
      grd (0 < List.length (List.drop (Int.toNat x5228) c5227)) <|
      getL (gp c5227 (Int.toNat x5228)) fun n5234 c5235 =>
      bnd' (m88 N (.agg [p5218, p5219]) (.lst false n5234 c5235)) fun p5236 =>
      getB p5236 fun b5239 =>
      brn b5239 (
        some (.inl (.bool false))) (
        m83_L0 N p5218 p5219 n5226 c5227 n (IntKind.i64.wrap (x5228 + 1)))) (
      some (.inr ()))
def m83 (N : Nat) (p5215 : PV) (p5216 : PV) : Option (PV) :=
  getA2 p5215 fun p5218 p5219 =>
  getL p5216 fun n5221 c5222 =>
  bnd' (m87 N (.lst false n5221 c5222)) fun p5223 =>
  getL p5223 fun n5226 c5227 =>
  bnd' (m83_L0 N p5218 p5219 n5226 c5227 N 0) fun o =>
  match o with
  | .inl p5241 =>
    some p5241
  | .inr () =>
    some (.bool true)
theorem c83 (N : Nat) (p5215 : PV) (p5216 : PV) (r : PV)  (h : m83 N p5215 p5216 = some r) : FnP Tryd.prog 83 [p5215, p5216] r := by
  unfold m83 at h
  refine Fn_of (sz := 21) tab_ok [0, 1, 2, 4, 5, 6, 12, 20] [.tmp 4] Tryd.func83 rfl rfl rfl (by simp) ?_
  simp only [initSt, initEnv, List.map_cons, List.map_nil, List.getD_cons_zero, List.getD_cons_succ, List.getD_nil]
  have hh := getA2_some h; clear h; obtain ⟨p5218, p5219, h5217, h⟩ := hh
  have hh := getL_some h; clear h; obtain ⟨n5221, c5222, h5220, h⟩ := hh
  have hh := bnd'_some h; clear h; obtain ⟨p5223, h5224, h⟩ := hh
  refine W_sound tab_ok mixed 8 _ _ _ ?_
  simp -implicitDefEqProofs only [go_sem, qa, qb, qc, qd, qe, qf, qg, qh, qi, qj, qk, ↓reduceIte, h5217, h5220]
  repeat with_reducible refine And.intro (by first | kernel_rfl | decide) ?_
  refine Wp_callP (c87 N _ _ h5224) (by kernel_rfl) rfl rfl rfl rfl (by decide) ?_
  have hh := getL_some h; clear h; obtain ⟨n5226, c5227, h5225, h⟩ := hh
  refine W_sound tab_ok mixed 7 _ _ _ ?_
  simp -implicitDefEqProofs only [go_sem, qa, qb, qc, qd, qe, qf, qg, qh, qi, qj, qk, ↓reduceIte, h5217, h5220, h5225]
  repeat with_reducible refine And.intro (by first | kernel_rfl | decide) ?_
  have hh := bnd'_some h; clear h; obtain ⟨o5242, h5243, h5244⟩ := hh
  refine Wp_cut (fun s => (.inr ()) = o5242 ∧ s = ⟨[], [(0, .dead), (1, .dead), (2, .dead), (4, .dead), (5, .dead), (6, .dead), (12, .dead), (20, .dead)], [], 0, []⟩) ?_ ?_
  · refine Wp_block ?_
    refine Wp_loopG (fun n s => ∃ x5228, m83_L0 N p5218 p5219 n5226 c5227 n x5228 = some o5242 ∧ s = ⟨[], [(0, .dead), (1, .dead), (2, .ptr 0 0), (4, .dead), (5, .v (.lst false n5226 c5227)), (6, .v (.int .i64 x5228)), (12, .dead), (20, .dead)], [(0, .p [p5218, p5219])], 1, []⟩) N _ ((Wk_le (.k (.k (.r (.k (.r (.r (.r (.r .nil)))))))) (OLe.refl _)).trans (cmpS_ok rfl)) ⟨_, h5243, rfl⟩ ?_
    clear h5243
    rintro n _ ⟨x5228, h5243, rfl⟩
    cases n with
    | zero => cases h5243
    | succ n =>
      rw [m83_L0] at h5243
      have hh := brn_some h5243; clear h5243; rcases hh with ⟨h5229, h5243⟩ | ⟨h5229, h5243⟩
      · have hh := grd_some h5243; clear h5243; obtain ⟨⟨g5230, g5231⟩, h5243⟩ := hh
        have hh := grd_some h5243; clear h5243; obtain ⟨g5232, h5243⟩ := hh
        have hh := getL_some h5243; clear h5243; obtain ⟨n5234, c5235, h5233, h5243⟩ := hh
        have hh := bnd'_some h5243; clear h5243; obtain ⟨p5236, h5237, h5243⟩ := hh
        refine W_sound tab_ok mixed 19 _ _ _ ?_
        simp -implicitDefEqProofs only [go_sem, qa, qb, qc, qd, qe, qf, qg, qh, qi, qj, qk, ↓reduceIte, h5217, h5220, h5225, h5229, g5230, g5231, g5232, h5233]
        repeat with_reducible refine And.intro (by first | kernel_rfl | decide) ?_
        refine Wp_callP (c88 N _ _ _ h5237) (by kernel_rfl) rfl rfl rfl rfl (by decide) ?_
        have hh := getB_some h5243; clear h5243; obtain ⟨b5239, h5238, h5243⟩ := hh
        have hh := brn_some h5243; clear h5243; rcases hh with ⟨h5240, h5243⟩ | ⟨h5240, h5243⟩
        · refine W_sound tab_ok mixed 8 _ _ _ ?_
          simp -implicitDefEqProofs only [go_sem, qa, qb, qc, qd, qe, qf, qg, qh, qi, qj, qk, ↓reduceIte, h5217, h5220, h5225, h5229, g5230, g5231, g5232, h5233, h5238, h5240]
          repeat with_reducible refine And.intro (by first | kernel_rfl | decide) ?_
          obtain rfl := Option.some.inj h5243
          (try dsimp only at h5244)
          obtain rfl := Option.some.inj h5244
          exact finC [(4, .v (.bool false))] [(4, .v (.bool false))] (by simp [leE, lk_cons]) (.cons _ _ _ _ _ (.v _ _ (.refl _)) .nil) (by rfl) (by simp [leE, lk_cons]) (by decide) (by decide) rfl (by simp only [go_sem, qa, qb, qc, qd, qe, qf, qg, qh, qi, qj, qk, ↓reduceIte, resQ_tmp, resQ_cell, resQ_nil, retD_one, retD_two, retD_three, retD_none]; try simp [R.val, retD_one, retD_two, retD_three, retD_none])
        · refine W_sound tab_ok mixed 9 _ _ _ ?_
          simp -implicitDefEqProofs only [go_sem, qa, qb, qc, qd, qe, qf, qg, qh, qi, qj, qk, ↓reduceIte, h5217, h5220, h5225, h5229, g5230, g5231, g5232, h5233, h5238, h5240]
          repeat with_reducible refine And.intro (by first | kernel_rfl | decide) ?_
          exact cutQ _ ((Wk_le (.r (.r (.r (.r (.r (.r (.k (.k .nil)))))))) (OLe.refl _)).trans (cmpS_ok rfl)) ⟨n, Nat.lt_succ_self n, _, h5243, rfl⟩
      · refine W_sound tab_ok mixed 10 _ _ _ ?_
        simp -implicitDefEqProofs only [go_sem, qa, qb, qc, qd, qe, qf, qg, qh, qi, qj, qk, ↓reduceIte, h5217, h5220, h5225, h5229]
        repeat with_reducible refine And.intro (by first | kernel_rfl | decide) ?_
        obtain rfl := Option.some.inj h5243
        exact cutQ _ ((Wk_le (.r (.r (.k (.r (.k (.k (.k (.r .nil)))))))) (OLe.refl _)).trans (cmpS_ok rfl)) ⟨rfl, rfl⟩
  · rintro _ ⟨rfl, rfl⟩
    (try dsimp only at h5244)
    refine W_sound tab_ok mixed 6 _ _ _ ?_
    simp -implicitDefEqProofs only [go_sem, qa, qb, qc, qd, qe, qf, qg, qh, qi, qj, qk, ↓reduceIte, h5217, h5220, h5225]
    repeat with_reducible refine And.intro (by first | kernel_rfl | decide) ?_
    obtain rfl := Option.some.inj h5244
    exact finC [(4, .v (.bool true))] [(4, .v (.bool true))] (by simp [leE, lk_cons]) (.cons _ _ _ _ _ (.v _ _ (.refl _)) .nil) (by rfl) (by simp [leE, lk_cons]) (by decide) (by decide) rfl (by simp only [go_sem, qa, qb, qc, qd, qe, qf, qg, qh, qi, qj, qk, ↓reduceIte, resQ_tmp, resQ_cell, resQ_nil, retD_one, retD_two, retD_three, retD_none]; try simp [R.val, retD_one, retD_two, retD_three, retD_none])

def m31 (N : Nat) (p5202 : PV) (p5203 : PV) : Option (PV) :=
  getA2 p5202 fun p5205 p5206 =>
  getL p5203 fun n5208 c5209 =>
  bnd' (m65 N (.agg [p5205, p5206]) (.lst false n5208 c5209)) fun p5210 =>
  getI .i64 p5210 fun x5213 =>
  brn (x5213 != 0) (
    some (.tup [(.bool false), (.int .i64 x5213)])) (
    bnd' (m83 N (.agg [p5205, p5206]) (.lst false n5208 c5209)) fun p5245 =>
    getB p5245 fun b5248 =>
    some (.tup [(.bool b5248), (.int .i64 0)]))
theorem c31 (N : Nat) (p5202 : PV) (p5203 : PV) (r : PV)  (h : m31 N p5202 p5203 = some r) : FnP Tryd.prog 31 [p5202, p5203] r := by
  unfold m31 at h
  refine Fn_of (sz := 16) tab_ok [0, 1, 2, 4, 5, 6, 11] [.tmp 4, .tmp 5] Tryd.func31 rfl rfl rfl (by simp) ?_
  simp only [initSt, initEnv, List.map_cons, List.map_nil, List.getD_cons_zero, List.getD_cons_succ, List.getD_nil]
  have hh := getA2_some h; clear h; obtain ⟨p5205, p5206, h5204, h⟩ := hh
  have hh := getL_some h; clear h; obtain ⟨n5208, c5209, h5207, h⟩ := hh
  have hh := bnd'_some h; clear h; obtain ⟨p5210, h5211, h⟩ := hh
  refine W_sound tab_ok mixed 10 _ _ _ ?_
  simp -implicitDefEqProofs only [go_sem, qa, qb, qc, qd, qe, qf, qg, qh, qi, qj, qk, ↓reduceIte, h5204, h5207]
  repeat with_reducible refine And.intro (by first | kernel_rfl | decide) ?_
  refine Wp_callP (c65 N _ _ _ h5211) (by kernel_rfl) rfl rfl rfl rfl (by decide) ?_
  have hh := getI_some h; clear h; obtain ⟨x5213, h5212, h⟩ := hh
  have hh := brn_some h; clear h; rcases hh with ⟨h5214, h⟩ | ⟨h5214, h⟩
  · refine W_sound tab_ok mixed 17 _ _ _ ?_
    simp -implicitDefEqProofs only [go_sem, qa, qb, qc, qd, qe, qf, qg, qh, qi, qj, qk, ↓reduceIte, h5204, h5207, h5212, h5214]
    repeat with_reducible refine And.intro (by first | kernel_rfl | decide) ?_
    obtain rfl := Option.some.inj h
    exact finC [(4, .v (.bool false)), (5, .v (.int .i64 x5213))] [(4, .v (.bool false)), (5, .v (.int .i64 x5213))] (by simp [leE, lk_cons]) (.cons _ _ _ _ _ (.v _ _ (.refl _)) (.cons _ _ _ _ _ (.v _ _ (.refl _)) .nil)) (by rfl) (by simp [leE, lk_cons]) (by decide) (by decide) rfl (by simp only [go_sem, qa, qb, qc, qd, qe, qf, qg, qh, qi, qj, qk, ↓reduceIte, resQ_tmp, resQ_cell, resQ_nil, retD_one, retD_two, retD_three, retD_none]; try simp [R.val, retD_one, retD_two, retD_three, retD_none])
  · have hh := bnd'_some h; clear h; obtain ⟨p5245, h5246, h⟩ := hh
    refine W_sound tab_ok mixed 14 _ _ _ ?_
    simp -implicitDefEqProofs only [go_sem, qa, qb, qc, qd, qe, qf, qg, qh, qi, qj, qk, ↓reduceIte, h5204, h5207, h5212, h5214]
    repeat with_reducible refine And.intro (by first | kernel_rfl | decide) ?_
    refine Wp_callP (c83 N _ _ _ h5246) (by kernel_rfl) rfl rfl rfl rfl (by decide) ?_
    have hh := getB_some h; clear h; obtain ⟨b5248, h5247, h⟩ := hh
    refine W_sound tab_ok mixed 5 _ _ _ ?_
    simp -implicitDefEqProofs only [go_sem, qa, qb, qc, qd, qe, qf, qg, qh, qi, qj, qk, ↓reduceIte, h5204, h5207, h5212, h5214, h5247]
    repeat with_reducible refine And.intro (by first | kernel_rfl | decide) ?_
    obtain rfl := Option.some.inj h
    exact finC [(4, .v (.bool b5248)), (5, .v (.int .i64 0))] [(4, .v (.bool b5248)), (5, .v (.int .i64 0))] (by simp [leE, lk_cons]) (.cons _ _ _ _ _ (.v _ _ (.refl _)) (.cons _ _ _ _ _ (.v _ _ (.refl _)) .nil)) (by rfl) (by simp [leE, lk_cons]) (by decide) (by decide) rfl (by simp only [go_sem, qa, qb, qc, qd, qe, qf, qg, qh, qi, qj, qk, ↓reduceIte, resQ_tmp, resQ_cell, resQ_nil, retD_one, retD_two, retD_three, retD_none]; try simp [R.val, retD_one, retD_two, retD_three, retD_none])

def m33_L1 (N : Nat) (p5270 : PV) (n5278 : Nat) (c5279 : List PV) (x5280 : Int) (n5285 : Nat) (c5286 : List PV) : Nat → Int → Option ((PV ⊕ Unit))
  | 0, _ => none
  | n + 1, x5287 =>
    brn (decide (x5287 < ((n5285 : Nat) : Int))) (
      grd (0 ≤ x5287 ∧ x5287 < ((n5285 : Nat) : Int)) <|
      grd (0 < List.length (List.drop (Int.toNat x5287) c5286)) <|
      getL (gp c5286 (Int.toNat x5287)) fun n5293 c5294 =>
      bnd' (m83 N (.agg [p5270, (.lst false n5278 c5279)]) (.lst false n5293 c5294)) fun p5295 =>
      getB p5295 fun b5298 =>
      brn b5298 (
        some (.inl (.tup [(.lst false n5293 c5294), (.int .i64 0)]))) (
        m33_L1 N p5270 n5278 c5279 x5280 n5285 c5286 n (IntKind.i64.wrap (x5287 + 1)))) (
      some (.inr ()))
def m33_L0 (N : Nat) (p5270 : PV) (n5278 : Nat) (c5279 : List PV) : Nat → Int → Option ((PV ⊕ Unit))
  | 0, _ => none
  | n + 1, x5280 =>
    brn (decide (x5280 > 0)) (
      bnd' (m73 N N ((n5278 : Nat) : Int) x5280 (.lst false 0 [])) fun p5282 =>
      getL p5282 fun n5285 c5286 =>
      bnd' (m33_L1 N p5270 n5278 c5279 x5280 n5285 c5286 N 0) fun o =>
      match o with
      | .inl p5300 =>
        some (.inl p5300)
      | .inr () =>
        m33_L0 N p5270 n5278 c5279 n (IntKind.i64.wrap (x5280 - 1))) (
      some (.inr ()))
def m33 (N : Nat) (p5268 : PV) : Option (PV) :=
  getA2 p5268 fun p5270 p5271 =>
  bnd' (m23 N (.agg [p5270, p5271])) fun p5272 =>
  getI .i64 p5272 fun x5275 =>
  brn (x5275 != 0) (
    some (.tup [(.lst false 0 []), (.int .i64 x5275)])) (
    getL p5271 fun n5278 c5279 =>
    bnd' (m33_L0 N p5270 n5278 c5279 N ((n5278 : Nat) : Int)) fun o =>
    match o with
    | .inl p5301 =>
      some p5301
    | .inr () =>
      some (.tup [(.lst false 0 []), (.int .i64 0)]))
theorem c33 (N : Nat) (p5268 : PV) (r : PV)  (h : m33 N p5268 = some r) : FnP Tryd.prog 33 [p5268] r := by
  unfold m33 at h
  refine Fn_of (sz := 41) tab_ok [0, 1, 2, 3, 4, 5, 6, 7, 11, 17, 28, 36] [.tmp 2, .tmp 3] Tryd.func33 rfl rfl rfl (by simp) ?_
  simp only [initSt, initEnv, List.map_cons, List.map_nil, List.getD_cons_zero, List.getD_cons_succ, List.getD_nil]
  have hh := getA2_some h; clear h; obtain ⟨p5270, p5271, h5269, h⟩ := hh
  have hh := bnd'_some h; clear h; obtain ⟨p5272, h5273, h⟩ := hh
  refine W_sound tab_ok mixed 9 _ _ _ ?_
  simp -implicitDefEqProofs only [go_sem, qa, qb, qc, qd, qe, qf, qg, qh, qi, qj, qk, ↓reduceIte, h5269]
  repeat with_reducible refine And.intro (by first | kernel_rfl | decide) ?_
  refine Wp_callP (c23 N _ _ h5273) (by kernel_rfl) rfl rfl rfl rfl (by decide) ?_
  have hh := getI_some h; clear h; obtain ⟨x5275, h5274, h⟩ := hh
  have hh := brn_some h; clear h; rcases hh with ⟨h5276, h⟩ | ⟨h5276, h⟩
  · refine W_sound tab_ok mixed 17 _ _ _ ?_
    simp -implicitDefEqProofs only [go_sem, qa, qb, qc, qd, qe, qf, qg, qh, qi, qj, qk, ↓reduceIte, h5269, h5274, h5276]
    repeat with_reducible refine And.intro (by first | kernel_rfl | decide) ?_
    obtain rfl := Option.some.inj h
    exact finC [(2, .v .nl), (3, .v (.int .i64 x5275))] [(2, .v (.lst false 0 [])), (3, .v (.int .i64 x5275))] (by simp [leE, lk_cons]) (.cons _ _ _ _ _ (.v _ _ (.nl false)) (.cons _ _ _ _ _ (.v _ _ (.refl _)) .nil)) (by rfl) (by simp [leE, lk_cons]) (by decide) (by decide) rfl (by simp only [go_sem, qa, qb, qc, qd, qe, qf, qg, qh, qi, qj, qk, ↓reduceIte, resQ_tmp, resQ_cell, resQ_nil, retD_one, retD_two, retD_three, retD_none]; try simp [R.val, retD_one, retD_two, retD_three, retD_none])
  · have hh := getL_some h; clear h; obtain ⟨n5278, c5279, h5277, h⟩ := hh
    refine W_sound tab_ok mixed 18 _ _ _ ?_
    simp -implicitDefEqProofs only [go_sem, qa, qb, qc, qd, qe, qf, qg, qh, qi, qj, qk, ↓reduceIte, h5269, h5274, h5276, h5277]
    repeat with_reducible refine And.intro (by first | kernel_rfl | decide) ?_
    have hh := bnd'_some h; clear h; obtain ⟨o5302, h5303, h5304⟩ := hh
    refine Wp_cut (fun s => (.inr ()) = o5302 ∧ s = ⟨[], [(0, .dead), (1, .dead), (2, .dead), (3, .dead), (4, .dead), (5, .dead), (6, .dead), (7, .dead), (11, .dead), (17, .dead), (28, .dead), (36, .dead)], [], 0, []⟩) ?_ ?_
    · refine Wp_block ?_
      refine Wp_loopG (fun n s => ∃ x5280, m33_L0 N p5270 n5278 c5279 n x5280 = some o5302 ∧ s = ⟨[], [(0, .dead), (1, .ptr 0 0), (2, .dead), (3, .dead), (4, .dead), (5, .v (.int .i64 x5280)), (6, .dead), (7, .dead), (11, .dead), (17, .dead), (28, .dead), (36, .dead)], [(0, .p [p5270, (.lst false n5278 c5279)])], 1, []⟩) N _ ((Wk_le (.k (.r (.k (.k (.k (.r (.r (.r (.k (.r (.r (.r .nil)))))))))))) (OLe.refl _)).trans (cmpS_ok (st' := ⟨[], [(0, .dead), (1, .ptr 0 0), (2, .dead), (3, .dead), (4, .dead), (5, .v (.int .i64 ((n5278 : Nat) : Int))), (6, .dead), (7, .dead), (11, .dead), (17, .dead), (28, .dead), (36, .dead)], [(0, .p [p5270, (.lst false n5278 c5279)])], 1, []⟩) (by kernel_rfl))) ⟨_, h5303, rfl⟩ ?_
      clear h5303
      rintro n _ ⟨x5280, h5303, rfl⟩
      cases n with
      | zero => cases h5303
      | succ n =>
        rw [m33_L0] at h5303
        have hh := brn_some h5303; clear h5303; rcases hh with ⟨h5281, h5303⟩ | ⟨h5281, h5303⟩
        · have hh := bnd'_some h5303; clear h5303; obtain ⟨p5282, h5283, h5303⟩ := hh
          refine W_sound tab_ok mixed 16 _ _ _ ?_
          simp -implicitDefEqProofs only [go_sem, qa, qb, qc, qd, qe, qf, qg, qh, qi, qj, qk, ↓reduceIte, h5269, h5274, h5276, h5277, h5281]
          repeat with_reducible refine And.intro (by first | kernel_rfl | decide) ?_
          refine Wp_callP (FnP_le (c73 N N _ _ _ _ h5283) (.cons _ _ _ _ (.refl _) (.cons _ _ _ _ (.refl _) (.cons _ _ _ _ (.nl false) .nil))) (.refl _)) (by kernel_rfl) rfl rfl rfl rfl (by decide) ?_
          have hh := getL_some h5303; clear h5303; obtain ⟨n5285, c5286, h5284, h5303⟩ := hh
          refine W_sound tab_ok mixed 6 _ _ _ ?_
          simp -implicitDefEqProofs only [go_sem, qa, qb, qc, qd, qe, qf, qg, qh, qi, qj, qk, ↓reduceIte, h5269, h5274, h5276, h5277, h5281, h5284]
          repeat with_reducible refine And.intro (by first | kernel_rfl | decide) ?_
          have hh := bnd'_some h5303; clear h5303; obtain ⟨o5305, h5306, h5307⟩ := hh
          refine Wp_cut (fun s => (.inr ()) = o5305 ∧ s = ⟨[], [(0, .dead), (1, .ptr 0 0), (2, .dead), (3, .dead), (4, .dead), (5, .v (.int .i64 x5280)), (6, .dead), (7, .dead), (11, .dead), (17, .dead), (28, .dead), (36, .dead)], [(0, .p [p5270, (.lst false n5278 c5279)])], 1, []⟩) ?_ ?_
          · refine Wp_block ?_
            refine Wp_loopG (fun n s => ∃ x5287, m33_L1 N p5270 n5278 c5279 x5280 n5285 c5286 n x5287 = some o5305 ∧ s = ⟨[], [(0, .dead), (1, .ptr 0 0), (2, .dead), (3, .dead), (4, .dead), (5, .v (.int .i64 x5280)), (6, .v (.lst false n5285 c5286)), (7, .v (.int .i64 x5287)), (11, .dead), (17, .dead), (28, .dead), (36, .dead)], [(0, .p [p5270, (.lst false n5278 c5279)])], 1, []⟩) N _ ((Wk_le (.r (.r (.r (.r (.r (.r (.r (.r (.r (.k (.r (.r .nil)))))))))))) (OLe.refl _)).trans (cmpS_ok (st' := ⟨[], [(0, .dead), (1, .ptr 0 0), (2, .dead), (3, .dead), (4, .dead), (5, .v (.int .i64 x5280)), (6, .v (.lst false n5285 c5286)), (7, .v (.int .i64 0)), (11, .dead), (17, .dead), (28, .dead), (36, .dead)], [(0, .p [p5270, (.lst false n5278 c5279)])], 1, []⟩) (by kernel_rfl))) ⟨_, h5306, rfl⟩ ?_
            clear h5306
            rintro n _ ⟨x5287, h5306, rfl⟩
            cases n with
            | zero => cases h5306
            | succ n =>
              rw [m33_L1] at h5306
              have hh := brn_some h5306; clear h5306; rcases hh with ⟨h5288, h5306⟩ | ⟨h5288, h5306⟩
              · have hh := grd_some h5306; clear h5306; obtain ⟨⟨g5289, g5290⟩, h5306⟩ := hh
                have hh := grd_some h5306; clear h5306; obtain ⟨g5291, h5306⟩ := hh
                have hh := getL_some h5306; clear h5306; obtain ⟨n5293, c5294, h5292, h5306⟩ := hh
                have hh := bnd'_some h5306; clear h5306; obtain ⟨p5295, h5296, h5306⟩ := hh
                refine W_sound tab_ok mixed 19 _ _ _ ?_
                simp -implicitDefEqProofs only [go_sem, qa, qb, qc, qd, qe, qf, qg, qh, qi, qj, qk, ↓reduceIte, h5269, h5274, h5276, h5277, h5281, h5284, h5288, g5289, g5290, g5291, h5292]
                repeat with_reducible refine And.intro (by first | kernel_rfl | decide) ?_
                refine Wp_callP (c83 N _ _ _ h5296) (by kernel_rfl) rfl rfl rfl rfl (by decide) ?_
                have hh := getB_some h5306; clear h5306; obtain ⟨b5298, h5297, h5306⟩ := hh
                have hh := brn_some h5306; clear h5306; rcases hh with ⟨h5299, h5306⟩ | ⟨h5299, h5306⟩
                · refine W_sound tab_ok mixed 13 _ _ _ ?_
                  simp -implicitDefEqProofs only [go_sem, qa, qb, qc, qd, qe, qf, qg, qh, qi, qj, qk, ↓reduceIte, h5269, h5274, h5276, h5277, h5281, h5284, h5288, g5289, g5290, g5291, h5292, h5297, h5299]
                  repeat with_reducible refine And.intro (by first | kernel_rfl | decide) ?_
                  obtain rfl := Option.some.inj h5306
                  (try dsimp only at h5307)
                  obtain rfl := Option.some.inj h5307
                  (try dsimp only at h5304)
                  obtain rfl := Option.some.inj h5304
                  exact finC [(2, .v (.lst false n5293 c5294)), (3, .v (.int .i64 0))] [(2, .v (.lst false n5293 c5294)), (3, .v (.int .i64 0))] (by simp [leE, lk_cons]) (.cons _ _ _ _ _ (.v _ _ (.refl _)) (.cons _ _ _ _ _ (.v _ _ (.refl _)) .nil)) (by rfl) (by simp [leE, lk_cons]) (by decide) (by decide) rfl (by simp only [go_sem, qa, qb, qc, qd, qe, qf, qg, qh, qi, qj, qk, ↓reduceIte, resQ_tmp, resQ_cell, resQ_nil, retD_one, retD_two, retD_three, retD_none]; try simp [R.val, retD_one, retD_two, retD_three, retD_none])
                · refine W_sound tab_ok mixed 9 _ _ _ ?_
                  simp -implicitDefEqProofs only [go_sem, qa, qb, qc, qd, qe, qf, qg, qh, qi, qj, qk, ↓reduceIte, h5269, h5274, h5276, h5277, h5281, h5284, h5288, g5289, g5290, g5291, h5292, h5297, h5299]
                  repeat with_reducible refine And.intro (by first | kernel_rfl | decide) ?_
                  exact cutQ _ ((Wk_le (.r (.r (.r (.r (.r (.r (.r (.r (.r (.r (.k (.k .nil)))))))))))) (OLe.refl _)).trans (cmpS_ok (st' := ⟨[], [(0, .dead), (1, .ptr 0 0), (2, .dead), (3, .dead), (4, .dead), (5, .v (.int .i64 x5280)), (6, .v (.lst false n5285 c5286)), (7, .v (.int .i64 (IntKind.i64.wrap (x5287 + 1)))), (11, .dead), (17, .dead), (28, .dead), (36, .dead)], [(0, .p [p5270, (.lst false n5278 c5279)])], 1, []⟩) (by kernel_rfl))) ⟨n, Nat.lt_succ_self n, _, h5306, rfl⟩
              · refine W_sound tab_ok mixed 10 _ _ _ ?_
                simp -implicitDefEqProofs only [go_sem, qa, qb, qc, qd, qe, qf, qg, qh, qi, qj, qk, ↓reduceIte, h5269, h5274, h5276, h5277, h5281, h5284, h5288]
                repeat with_reducible refine And.intro (by first | kernel_rfl | decide) ?_
                obtain rfl := Option.some.inj h5306
                exact cutQ _ ((Wk_le (.r (.r (.r (.r (.r (.r (.k (.k (.r (.r (.k (.r .nil)))))))))))) (OLe.refl _)).trans (cmpS_ok (st' := ⟨[], [(0, .dead), (1, .ptr 0 0), (2, .dead), (3, .dead), (4, .dead), (5, .v (.int .i64 x5280)), (6, .dead), (7, .dead), (11, .dead), (17, .dead), (28, .dead), (36, .dead)], [(0, .p [p5270, (.lst false n5278 c5279)])], 1, []⟩) (by kernel_rfl))) ⟨rfl, rfl⟩
          · rintro _ ⟨rfl, rfl⟩
            (try dsimp only at h5307)
            refine W_sound tab_ok mixed 6 _ _ _ ?_
            simp -implicitDefEqProofs only [go_sem, qa, qb, qc, qd, qe, qf, qg, qh, qi, qj, qk, ↓reduceIte, h5269, h5274, h5276, h5277, h5281, h5284]
            repeat with_reducible refine And.intro (by first | kernel_rfl | decide) ?_
            exact cutQ _ ((Wk_le (.r (.r (.r (.r (.r (.r (.r (.r (.r (.r (.r (.r .nil)))))))))))) (OLe.refl _)).trans (cmpS_ok (st' := ⟨[], [(0, .dead), (1, .ptr 0 0), (2, .dead), (3, .dead), (4, .dead), (5, .v (.int .i64 (IntKind.i64.wrap (x5280 - 1)))), (6, .dead), (7, .dead), (11, .dead), (17, .dead), (28, .dead), (36, .dead)], [(0, .p [p5270, (.lst false n5278 c5279)])], 1, []⟩) (by kernel_rfl))) ⟨n, Nat.lt_succ_self n, _, h5307, rfl⟩
        · refine W_sound tab_ok mixed 8 _ _ _ ?_
          simp -implicitDefEqProofs only [go_sem, qa, qb, qc, qd, qe, qf, qg, qh, qi, qj, qk, ↓reduceIte, h5269, h5274, h5276, h5277, h5281]
          repeat with_reducible refine And.intro (by first | kernel_rfl | decide) ?_
          obtain rfl := Option.some.inj h5303
          exact cutQ _ ((Wk_le (.r (.k (.r (.r (.r (.k (.r (.r (.r (.k (.r (.r .nil)))))))))))) (OLe.refl _)).trans (cmpS_ok (st' := ⟨[], [(0, .dead), (1, .dead), (2, .dead), (3, .dead), (4, .dead), (5, .dead), (6, .dead), (7, .dead), (11, .dead), (17, .dead), (28, .dead), (36, .dead)], [], 0, []⟩) (by kernel_rfl))) ⟨rfl, rfl⟩
    · rintro _ ⟨rfl, rfl⟩
      (try dsimp only at h5304)
      refine W_sound tab_ok mixed 7 _ _ _ ?_
      simp -implicitDefEqProofs only [go_sem, qa, qb, qc, qd, qe, qf, qg, qh, qi, qj, qk, ↓reduceIte, h5269, h5274, h5276, h5277]
      repeat with_reducible refine And.intro (by first | kernel_rfl | decide) ?_
      obtain rfl := Option.some.inj h5304
      exact finC [(2, .v .nl), (3, .v (.int .i64 0))] [(2, .v (.lst false 0 [])), (3, .v (.int .i64 0))] (by simp [leE, lk_cons]) (.cons _ _ _ _ _ (.v _ _ (.nl false)) (.cons _ _ _ _ _ (.v _ _ (.refl _)) .nil)) (by rfl) (by simp [leE, lk_cons]) (by decide) (by decide) rfl (by simp only [go_sem, qa, qb, qc, qd, qe, qf, qg, qh, qi, qj, qk, ↓reduceIte, resQ_tmp, resQ_cell, resQ_nil, retD_one, retD_two, retD_three, retD_none]; try simp [R.val, retD_one, retD_two, retD_three, retD_none])

def m101_L0 (N : Nat) (x5368 : Int) (n5370 : Nat) (c5371 : List PV) : Nat → Int → Option ((PV ⊕ Unit))
  | 0, _ => none
  | n + 1, x5372 =>
    brn (decide (x5372 < ((n5370 : Nat) : Int))) (
      grd (0 ≤ x5372 ∧ x5372 < ((n5370 : Nat) : Int)) <|
      grd (0 < List.length (List.drop (Int.toNat x5372) c5371)) <|
      getI .i64 (gp c5371 (Int.toNat x5372)) fun x5378 =>
      brn (x5368 == x5378) (
        some (.inl (.int .i64 x5372))) (
        m101_L0 N x5368 n5370 c5371 n (IntKind.i64.wrap (x5372 + 1)))) (
      some (.inr ()))
def m101 (N : Nat) (p5367 : PV) (x5368 : Int) : Option (PV) :=
  getL p5367 fun n5370 c5371 =>
  bnd' (m101_L0 N x5368 n5370 c5371 N 0) fun o =>
  match o with
  | .inl p5380 =>
    some p5380
  | .inr () =>
    some (.int .i64 (-1))
theorem c101 (N : Nat) (p5367 : PV) (x5368 : Int) (r : PV)  (h : m101 N p5367 x5368 = some r) : FnP Tryd.prog 101 [p5367, (.int .i64 x5368)] r := by
  unfold m101 at h
  refine Fn_of (sz := 19) tab_ok [0, 1, 4, 5, 7, 8, 9, 16] [.tmp 4] Tryd.func101 rfl rfl rfl (by simp) ?_
  simp only [initSt, initEnv, List.map_cons, List.map_nil, List.getD_cons_zero, List.getD_cons_succ, List.getD_nil]
  have hh := getL_some h; clear h; obtain ⟨n5370, c5371, h5369, h⟩ := hh
  refine W_sound tab_ok mixed 11 _ _ _ ?_
  simp -implicitDefEqProofs only [go_sem, qa, qb, qc, qd, qe, qf, qg, qh, qi, qj, qk, ↓reduceIte, h5369]
  repeat with_reducible refine And.intro (by first | kernel_rfl | decide) ?_
  have hh := bnd'_some h; clear h; obtain ⟨o5381, h5382, h5383⟩ := hh
  refine Wp_cut (fun s => (.inr ()) = o5381 ∧ s = ⟨[], [(0, .dead), (1, .dead), (4, .dead), (5, .dead), (7, .dead), (8, .dead), (9, .dead), (16, .dead)], [], 0, []⟩) ?_ ?_
  · refine Wp_block ?_
    refine Wp_loopG (fun n s => ∃ x5372, m101_L0 N x5368 n5370 c5371 n x5372 = some o5381 ∧ s = ⟨[], [(0, .v (.lst false n5370 c5371)), (1, .v (.int .i64 x5368)), (4, .dead), (5, .dead), (7, .v (.int .i64 ((n5370 : Nat) : Int))), (8, .v (.int .i64 x5372)), (9, .dead), (16, .dead)], [], 0, []⟩) N _ ((Wk_le (.r (.r (.k (.r (.r (.r (.r (.r .nil)))))))) (OLe.refl _)).trans (cmpS_ok rfl)) ⟨_, h5382, rfl⟩ ?_
    clear h5382
    rintro n _ ⟨x5372, h5382, rfl⟩
    cases n with
    | zero => cases h5382
    | succ n =>
      rw [m101_L0] at h5382
      have hh := brn_some h5382; clear h5382; rcases hh with ⟨h5373, h5382⟩ | ⟨h5373, h5382⟩
      · have hh := grd_some h5382; clear h5382; obtain ⟨⟨g5374, g5375⟩, h5382⟩ := hh
        have hh := grd_some h5382; clear h5382; obtain ⟨g5376, h5382⟩ := hh
        have hh := getI_some h5382; clear h5382; obtain ⟨x5378, h5377, h5382⟩ := hh
        have hh := brn_some h5382; clear h5382; rcases hh with ⟨h5379, h5382⟩ | ⟨h5379, h5382⟩
        · refine W_sound tab_ok mixed 31 _ _ _ ?_
          simp -implicitDefEqProofs only [go_sem, qa, qb, qc, qd, qe, qf, qg, qh, qi, qj, qk, ↓reduceIte, h5369, h5373, g5374, g5375, g5376, h5377, h5379]
          repeat with_reducible refine And.intro (by first | kernel_rfl | decide) ?_
          obtain rfl := Option.some.inj h5382
          (try dsimp only at h5383)
          obtain rfl := Option.some.inj h5383
          exact finC [(4, .v (.int .i64 x5372))] [(4, .v (.int .i64 x5372))] (by simp [leE, lk_cons]) (.cons _ _ _ _ _ (.v _ _ (.refl _)) .nil) (by rfl) (by simp [leE, lk_cons]) (by decide) (by decide) rfl (by simp only [go_sem, qa, qb, qc, qd, qe, qf, qg, qh, qi, qj, qk, ↓reduceIte, resQ_tmp, resQ_cell, resQ_nil, retD_one, retD_two, retD_three, retD_none]; try simp [R.val, retD_one, retD_two, retD_three, retD_none])
        · refine W_sound tab_ok mixed 30 _ _ _ ?_
          simp -implicitDefEqProofs only [go_sem, qa, qb, qc, qd, qe, qf, qg, qh, qi, qj, qk, ↓reduceIte, h5369, h5373, g5374, g5375, g5376, h5377, h5379]
          repeat with_reducible refine And.intro (by first | kernel_rfl | decide) ?_
          exact cutQ _ ((Wk_le (.r (.r (.r (.k (.r (.r (.k (.k .nil)))))))) (OLe.refl _)).trans (cmpS_ok rfl)) ⟨n, Nat.lt_succ_self n, _, h5382, rfl⟩
      · refine W_sound tab_ok mixed 7 _ _ _ ?_
        simp -implicitDefEqProofs only [go_sem, qa, qb, qc, qd, qe, qf, qg, qh, qi, qj, qk, ↓reduceIte, h5369, h5373]
        repeat with_reducible refine And.intro (by first | kernel_rfl | decide) ?_
        obtain rfl := Option.some.inj h5382
        exact cutQ _ ((Wk_le (.k (.k (.r (.r (.k (.k (.k (.r .nil)))))))) (OLe.refl _)).trans (cmpS_ok rfl)) ⟨rfl, rfl⟩
  · rintro _ ⟨rfl, rfl⟩
    (try dsimp only at h5383)
    refine W_sound tab_ok mixed 6 _ _ _ ?_
    simp -implicitDefEqProofs only [go_sem, qa, qb, qc, qd, qe, qf, qg, qh, qi, qj, qk, ↓reduceIte, h5369]
    repeat with_reducible refine And.intro (by first | kernel_rfl | decide) ?_
    obtain rfl := Option.some.inj h5383
    exact finC [(4, .v (.int .i64 (-1)))] [(4, .v (.int .i64 (-1)))] (by simp [leE, lk_cons]) (.cons _ _ _ _ _ (.v _ _ (.refl _)) .nil) (by rfl) (by simp [leE, lk_cons]) (by decide) (by decide) rfl (by simp only [go_sem, qa, qb, qc, qd, qe, qf, qg, qh, qi, qj, qk, ↓reduceIte, resQ_tmp, resQ_cell, resQ_nil, retD_one, retD_two, retD_three, retD_none]; try simp [R.val, retD_one, retD_two, retD_three, retD_none])

def m84 (N : Nat) (p5362 : PV) (x5363 : Int) : Option (PV) :=
  getL p5362 fun n5365 c5366 =>
  bnd' (m101 N (.lst false n5365 c5366) x5363) fun p5384 =>
  getI .i64 p5384 fun x5387 =>
  some (.bool (decide (x5387 ≥ 0)))
theorem c84 (N : Nat) (p5362 : PV) (x5363 : Int) (r : PV)  (h : m84 N p5362 x5363 = some r) : FnP Tryd.prog 84 [p5362, (.int .i64 x5363)] r := by
  unfold m84 at h
  refine Fn_of (sz := 9) tab_ok [0, 1, 4] [.tmp 4] Tryd.func84 rfl rfl rfl (by simp) ?_
  simp only [initSt, initEnv, List.map_cons, List.map_nil, List.getD_cons_zero, List.getD_cons_succ, List.getD_nil]
  have hh := getL_some h; clear h; obtain ⟨n5365, c5366, h5364, h⟩ := hh
  have hh := bnd'_some h; clear h; obtain ⟨p5384, h5385, h⟩ := hh
  refine W_sound tab_ok mixed 8 _ _ _ ?_
  simp -implicitDefEqProofs only [go_sem, qa, qb, qc, qd, qe, qf, qg, qh, qi, qj, qk, ↓reduceIte, h5364]
  repeat with_reducible refine And.intro (by first | kernel_rfl | decide) ?_
  refine Wp_callP (c101 N _ _ _ h5385) (by kernel_rfl) rfl rfl rfl rfl (by decide) ?_
  have hh := getI_some h; clear h; obtain ⟨x5387, h5386, h⟩ := hh
  refine W_sound tab_ok mixed 5 _ _ _ ?_
  simp -implicitDefEqProofs only [go_sem, qa, qb, qc, qd, qe, qf, qg, qh, qi, qj, qk, ↓reduceIte, h5364, h5386]
  repeat with_reducible refine And.intro (by first | kernel_rfl | decide) ?_
  obtain rfl := Option.some.inj h
  exact finC [(4, .v (.bool (decide (x5387 ≥ 0))))] [(4, .v (.bool (decide (x5387 ≥ 0))))] (by simp [leE, lk_cons]) (.cons _ _ _ _ _ (.v _ _ (.refl _)) .nil) (by rfl) (by simp [leE, lk_cons]) (by decide) (by decide) rfl (by simp only [go_sem, qa, qb, qc, qd, qe, qf, qg, qh, qi, qj, qk, ↓reduceIte, resQ_tmp, resQ_cell, resQ_nil, retD_one, retD_two, retD_three, retD_none]; try simp [R.val, retD_one, retD_two, retD_three, retD_none])

def m44 (N : Nat) (p5394 : PV) : Option (Nat × List PV) :=
  getL p5394 fun n5396 c5397 =>
  grd (0 < n5396) <|
  grd (List.length c5397 = n5396) <|
  grd (n5396 ≤ 1099511627776) <|
  some (n5396, c5397)
theorem c44 (N : Nat) (p5394 : PV) (rn : Nat) (rc : List PV) (h : m44 N p5394 = some (rn, rc)) : V.Fn Tryd.prog 44 0 [.v p5394] [] (fun d ob' => d = .sl false 0 0 rn 1 ∧ ob' = [(0, .p rc)]) := by
  unfold m44 at h
  refine Fn_of (sz := 8) tab_ok [0, 2, 4] [.tmp 2] Tryd.func44 rfl rfl rfl (by simp) ?_
  simp only [initSt, initEnv, List.map_cons, List.map_nil, List.getD_cons_zero, List.getD_cons_succ, List.getD_nil]
  have hh := getL_some h; clear h; obtain ⟨n5396, c5397, h5395, h⟩ := hh
  have hh := grd_some h; clear h; obtain ⟨g5398, h⟩ := hh
  have hh := grd_some h; clear h; obtain ⟨g5399, h⟩ := hh
  have hh := grd_some h; clear h; obtain ⟨g5400, h⟩ := hh
  refine W_sound tab_ok mixed 21 _ _ _ ?_
  simp -implicitDefEqProofs only [go_sem, qa, qb, qc, qd, qe, qf, qg, qh, qi, qj, qk, ↓reduceIte, h5395, g5398, g5399, g5400]
  repeat with_reducible refine And.intro (by first | kernel_rfl | decide) ?_
  simp only [Option.some.injEq, Prod.mk.injEq] at h; obtain ⟨rfl, rfl⟩ := h
  exact finD (e2 := [(0, .dead), (2, .sl false 7 0 n5396 1), (4, .dead)]) (ob2 := [(5, .p []), (7, .p c5397)]) (st' := ⟨[], [(0, .dead), (2, .sl false 0 0 n5396 1), (4, .dead)], [(0, .p c5397)], 1, []⟩) (.k (.r (.k .nil))) (.cons _ _ _ _ _ (DLes.refl _) (.cons _ _ _ _ _ (DLes.refl _) .nil)) (by kernel_rfl) (by simp only [go_sem, qa, qb, qc, qd, qe, qf, qg, qh, qi, qj, qk, ↓reduceIte, resQ_tmp, resQ_cell, resQ_nil, retD_one, retD_two, retD_three, retD_none]; first | done | exact ⟨rfl, rfl⟩ | (try simp [R.val, retD_one]))

def m34_L0 (N : Nat) (p5322 : PV) (p5323 : PV) (n5325 : Nat) (c5326 : List PV) (n5328 : Nat) (c5329 : List PV) : Nat → Int → Option ((PV ⊕ Unit))
  | 0, _ => none
  | n + 1, x5330 =>
    brn (decide (x5330 < 2)) (
      grd (0 ≤ x5330 ∧ x5330 < 2) <|
      grd ((Int.toNat x5330) < 2) <|
      getL (gp [(.lst false n5325 c5326), (.lst false n5328 c5329)] (Int.toNat x5330)) fun n5336 c5337 =>
      bnd' (m63 N (.agg [p5322, p5323]) (.lst false n5336 c5337)) fun p5338 =>
      getI .i64 p5338 fun x5341 =>
      brn (x5341 != 0) (
        some (.inl (.tup [(.int .i64 0), (.int .i64 x5341)]))) (
        m34_L0 N p5322 p5323 n5325 c5326 n5328 c5329 n (IntKind.i64.wrap (x5330 + 1)))) (
      some (.inr ()))
def m34_L1 (N : Nat) (p5322 : PV) (p5323 : PV) (n5325 : Nat) (c5326 : List PV) (n5328 : Nat) (c5329 : List PV) : Nat → Int → Option ((PV ⊕ Unit))
  | 0, _ => none
  | n + 1, x5355 =>
    brn (decide (x5355 < ((n5328 : Nat) : Int))) (
      grd (0 ≤ x5355 ∧ x5355 < ((n5328 : Nat) : Int)) <|
      grd (0 < List.length (List.drop (Int.toNat x5355) c5329)) <|
      getI .i64 (gp c5329 (Int.toNat x5355)) fun x5361 =>
      bnd' (m84 N (.lst false n5325 c5326) x5361) fun p5388 =>
      getB p5388 fun b5391 =>
      brn b5391 (
        m34_L1 N p5322 p5323 n5325 c5326 n5328 c5329 n (IntKind.i64.wrap (x5355 + 1))) (
        brn (decide (0 < n5325)) (
          bnd' (m44 N (.lst false n5325 c5326)) fun (n5401, c5402) =>
          grd ((n5401 + 1) ≤ 1099511627776) <|
          grd (List.length c5402 = n5401) <|
          bnd' (m82 N (.agg [p5322, p5323]) (.lst false (n5401 + 1) (c5402 ++ [(.int .i64 x5361)]))) fun p5406 =>
          getB p5406 fun b5409 =>
          brn b5409 (
            some (.inl (.tup [(.int .i64 x5361), (.int .i64 0)]))) (
            m34_L1 N p5322 p5323 n5325 c5326 n5328 c5329 n (IntKind.i64.wrap (x5355 + 1)))) (
          grd (List.length c5326 = n5325) <|
          bnd' (m82 N (.agg [p5322, p5323]) (.lst false 1 [(.int .i64 x5361)])) fun p5412 =>
          getB p5412 fun b5415 =>
          brn b5415 (
            some (.inl (.tup [(.int .i64 x5361), (.int .i64 0)]))) (
            m34_L1 N p5322 p5323 n5325 c5326 n5328 c5329 n (IntKind.i64.wrap (x5355 + 1)))))) (
      some (.inr ()))
def m34 (N : Nat) (p5318 : PV) (p5319 : PV) (p5320 : PV) : Option (PV) :=
  getA2 p5318 fun p5322 p5323 =>
  getL p5319 fun n5325 c5326 =>
  getL p5320 fun n5328 c5329 =>
  bnd' (m34_L0 N p5322 p5323 n5325 c5326 n5328 c5329 N 0) fun o =>
  match o with
  | .inl p5343 =>
    some p5343
  | .inr () =>
    bnd' (m82 N (.agg [p5322, p5323]) (.lst false n5325 c5326)) fun p5344 =>
    getB p5344 fun b5347 =>
    brn b5347 (
      bnd' (m82 N (.agg [p5322, p5323]) (.lst false n5328 c5329)) fun p5349 =>
      getB p5349 fun b5352 =>
      brn b5352 (
        brn (decide (((n5328 : Nat) : Int) ≤ ((n5325 : Nat) : Int))) (
          some (.tup [(.int .i64 0), (.int .i64 5)])) (
          bnd' (m34_L1 N p5322 p5323 n5325 c5326 n5328 c5329 N 0) fun o =>
          match o with
          | .inl p5417 =>
            some p5417
          | .inr () =>
            some (.tup [(.int .i64 0), (.int .i64 14)]))) (
        some (.tup [(.int .i64 0), (.int .i64 12)]))) (
      some (.tup [(.int .i64 0), (.int .i64 12)]))
theorem c34 (N : Nat) (p5318 : PV) (p5319 : PV) (p5320 : PV) (r : PV)  (h : m34 N p5318 p5319 p5320 = some r) : FnP Tryd.prog 34 [p5318, p5319, p5320] r := by
  unfold m34 at h
  refine Fn_of (sz := 66) tab_ok [0, 1, 2, 3, 6, 7, 9, 10, 12, 15, 16, 17, 18, 25, 28, 39, 45, 46, 47, 48, 63] [.tmp 6, .tmp 7] Tryd.func34 rfl rfl rfl (by simp) ?_
  simp only [initSt, initEnv, List.map_cons, List.map_nil, List.getD_cons_zero, List.getD_cons_succ, List.getD_nil]
  have hh := getA2_some h; clear h; obtain ⟨p5322, p5323, h5321, h⟩ := hh
  have hh := getL_some h; clear h; obtain ⟨n5325, c5326, h5324, h⟩ := hh
  have hh := getL_some h; clear h; obtain ⟨n5328, c5329, h5327, h⟩ := hh
  refine W_sound tab_ok mixed 15 _ _ _ ?_
  simp -implicitDefEqProofs only [go_sem, qa, qb, qc, qd, qe, qf, qg, qh, qi, qj, qk, ↓reduceIte, h5321, h5324, h5327]
  repeat with_reducible refine And.intro (by first | kernel_rfl | decide) ?_
  have hh := bnd'_some h; clear h; obtain ⟨o5418, h5419, h5420⟩ := hh
  refine Wp_cut (fun s => (.inr ()) = o5418 ∧ s = ⟨[], [(0, .dead), (1, .v (.lst false n5325 c5326)), (2, .v (.lst false n5328 c5329)), (3, .ptr 0 0), (6, .dead), (7, .dead), (9, .dead), (10, .dead), (12, .dead), (15, .dead), (16, .dead), (17, .dead), (18, .dead), (25, .dead), (28, .dead), (39, .dead), (45, .dead), (46, .dead), (47, .dead), (48, .dead), (63, .dead)], [(0, .p [p5322, p5323])], 1, []⟩) ?_ ?_
  · refine Wp_block ?_
    refine Wp_loopG (fun n s => ∃ x5330, m34_L0 N p5322 p5323 n5325 c5326 n5328 c5329 n x5330 = some o5418 ∧ s = ⟨[], [(0, .dead), (1, .v (.lst false n5325 c5326)), (2, .v (.lst false n5328 c5329)), (3, .ptr 0 0), (6, .dead), (7, .dead), (9, .dead), (10, .dead), (12, .dead), (15, .sl true 1 0 2 1), (16, .v (.int .i64 2)), (17, .v (.int .i64 x5330)), (18, .dead), (25, .dead), (28, .dead), (39, .dead), (45, .dead), (46, .dead), (47, .dead), (48, .dead), (63, .dead)], [(0, .p [p5322, p5323]), (1, .p [(.lst false n5325 c5326), (.lst false n5328 c5329)])], 2, []⟩) N _ ((Wk_le (.k (.r (.r (.r (.k (.k (.r (.r (.r (.r (.r (.r (.r (.r (.r (.r (.r (.r (.r (.r (.r .nil))))))))))))))))))))) (OLe.refl _)).trans (cmpS_ok (st' := ⟨[], [(0, .dead), (1, .v (.lst false n5325 c5326)), (2, .v (.lst false n5328 c5329)), (3, .ptr 0 0), (6, .dead), (7, .dead), (9, .dead), (10, .dead), (12, .dead), (15, .sl true 1 0 2 1), (16, .v (.int .i64 2)), (17, .v (.int .i64 0)), (18, .dead), (25, .dead), (28, .dead), (39, .dead), (45, .dead), (46, .dead), (47, .dead), (48, .dead), (63, .dead)], [(0, .p [p5322, p5323]), (1, .p [(.lst false n5325 c5326), (.lst false n5328 c5329)])], 2, []⟩) (by kernel_rfl))) ⟨_, h5419, rfl⟩ ?_
    clear h5419
    rintro n _ ⟨x5330, h5419, rfl⟩
    cases n with
    | zero => cases h5419
    | succ n =>
      rw [m34_L0] at h5419
      have hh := brn_some h5419; clear h5419; rcases hh with ⟨h5331, h5419⟩ | ⟨h5331, h5419⟩
      · have hh := grd_some h5419; clear h5419; obtain ⟨⟨g5332, g5333⟩, h5419⟩ := hh
        have hh := grd_some h5419; clear h5419; obtain ⟨g5334, h5419⟩ := hh
        have hh := getL_some h5419; clear h5419; obtain ⟨n5336, c5337, h5335, h5419⟩ := hh
        have hh := bnd'_some h5419; clear h5419; obtain ⟨p5338, h5339, h5419⟩ := hh
        refine W_sound tab_ok mixed 19 _ _ _ ?_
        simp -implicitDefEqProofs only [go_sem, qa, qb, qc, qd, qe, qf, qg, qh, qi, qj, qk, ↓reduceIte, h5321, h5324, h5327, h5331, g5332, g5333, g5334, h5335]
        repeat with_reducible refine And.intro (by first | kernel_rfl | decide) ?_
        refine Wp_callP (c63 N _ _ _ h5339) (by kernel_rfl) rfl rfl rfl rfl (by decide) ?_
        have hh := getI_some h5419; clear h5419; obtain ⟨x5341, h5340, h5419⟩ := hh
        have hh := brn_some h5419; clear h5419; rcases hh with ⟨h5342, h5419⟩ | ⟨h5342, h5419⟩
        · refine W_sound tab_ok mixed 16 _ _ _ ?_
          simp -implicitDefEqProofs only [go_sem, qa, qb, qc, qd, qe, qf, qg, qh, qi, qj, qk, ↓reduceIte, h5321, h5324, h5327, h5331, g5332, g5333, g5334, h5335, h5340, h5342]
          repeat with_reducible refine And.intro (by first | kernel_rfl | decide) ?_
          obtain rfl := Option.some.inj h5419
          (try dsimp only at h5420)
          obtain rfl := Option.some.inj h5420
          exact finC [(6, .v (.int .i64 0)), (7, .v (.int .i64 x5341))] [(6, .v (.int .i64 0)), (7, .v (.int .i64 x5341))] (by simp [leE, lk_cons]) (.cons _ _ _ _ _ (.v _ _ (.refl _)) (.cons _ _ _ _ _ (.v _ _ (.refl _)) .nil)) (by rfl) (by simp [leE, lk_cons]) (by decide) (by decide) rfl (by simp only [go_sem, qa, qb, qc, qd, qe, qf, qg, qh, qi, qj, qk, ↓reduceIte, resQ_tmp, resQ_cell, resQ_nil, retD_one, retD_two, retD_three, retD_none]; try simp [R.val, retD_one, retD_two, retD_three, retD_none])
        · refine W_sound tab_ok mixed 14 _ _ _ ?_
          simp -implicitDefEqProofs only [go_sem, qa, qb, qc, qd, qe, qf, qg, qh, qi, qj, qk, ↓reduceIte, h5321, h5324, h5327, h5331, g5332, g5333, g5334, h5335, h5340, h5342]
          repeat with_reducible refine And.intro (by first | kernel_rfl | decide) ?_
          exact cutQ _ ((Wk_le (.r (.r (.r (.r (.r (.r (.k (.k (.r (.r (.r (.r (.k (.k (.r (.r (.r (.r (.r (.r (.r .nil))))))))))))))))))))) (OLe.refl _)).trans (cmpS_ok (st' := ⟨[], [(0, .dead), (1, .v (.lst false n5325 c5326)), (2, .v (.lst false n5328 c5329)), (3, .ptr 0 0), (6, .dead), (7, .dead), (9, .dead), (10, .dead), (12, .dead), (15, .sl true 1 0 2 1), (16, .v (.int .i64 2)), (17, .v (.int .i64 (IntKind.i64.wrap (x5330 + 1)))), (18, .dead), (25, .dead), (28, .dead), (39, .dead), (45, .dead), (46, .dead), (47, .dead), (48, .dead), (63, .dead)], [(0, .p [p5322, p5323]), (1, .p [(.lst false n5325 c5326), (.lst false n5328 c5329)])], 2, []⟩) (by kernel_rfl))) ⟨n, Nat.lt_succ_self n, _, h5419, rfl⟩
      · refine W_sound tab_ok mixed 7 _ _ _ ?_
        simp -implicitDefEqProofs only [go_sem, qa, qb, qc, qd, qe, qf, qg, qh, qi, qj, qk, ↓reduceIte, h5321, h5324, h5327, h5331]
        repeat with_reducible refine And.intro (by first | kernel_rfl | decide) ?_
        obtain rfl := Option.some.inj h5419
        exact cutQ _ ((Wk_le (.r (.r (.r (.r (.r (.r (.r (.r (.r (.k (.k (.k (.k (.r (.r (.r (.r (.r (.r (.r (.r .nil))))))))))))))))))))) (OLe.refl _)).trans (cmpS_ok (st' := ⟨[], [(0, .dead), (1, .v (.lst false n5325 c5326)), (2, .v (.lst false n5328 c5329)), (3, .ptr 0 0), (6, .dead), (7, .dead), (9, .dead), (10, .dead), (12, .dead), (15, .dead), (16, .dead), (17, .dead), (18, .dead), (25, .dead), (28, .dead), (39, .dead), (45, .dead), (46, .dead), (47, .dead), (48, .dead), (63, .dead)], [(0, .p [p5322, p5323])], 1, []⟩) (by kernel_rfl))) ⟨rfl, rfl⟩
  · rintro _ ⟨rfl, rfl⟩
    (try dsimp only at h5420)
    have hh := bnd'_some h5420; clear h5420; obtain ⟨p5344, h5345, h5420⟩ := hh
    refine W_sound tab_ok mixed 6 _ _ _ ?_
    simp -implicitDefEqProofs only [go_sem, qa, qb, qc, qd, qe, qf, qg, qh, qi, qj, qk, ↓reduceIte, h5321, h5324, h5327]
    repeat with_reducible refine And.intro (by first | kernel_rfl | decide) ?_
    refine Wp_callP (c82 N _ _ _ h5345) (by kernel_rfl) rfl rfl rfl rfl (by decide) ?_
    have hh := getB_some h5420; clear h5420; obtain ⟨b5347, h5346, h5420⟩ := hh
    have hh := brn_some h5420; clear h5420; rcases hh with ⟨h5348, h5420⟩ | ⟨h5348, h5420⟩
    · have hh := bnd'_some h5420; clear h5420; obtain ⟨p5349, h5350, h5420⟩ := hh
      refine W_sound tab_ok mixed 4 _ _ _ ?_
      simp -implicitDefEqProofs only [go_sem, qa, qb, qc, qd, qe, qf, qg, qh, qi, qj, qk, ↓reduceIte, h5321, h5324, h5327, h5346, h5348]
      repeat with_reducible refine And.intro (by first | kernel_rfl | decide) ?_
      refine Wp_callP (c82 N _ _ _ h5350) (by kernel_rfl) rfl rfl rfl rfl (by decide) ?_
      have hh := getB_some h5420; clear h5420; obtain ⟨b5352, h5351, h5420⟩ := hh
      have hh := brn_some h5420; clear h5420; rcases hh with ⟨h5353, h5420⟩ | ⟨h5353, h5420⟩
      · have hh := brn_some h5420; clear h5420; rcases hh with ⟨h5354, h5420⟩ | ⟨h5354, h5420⟩
        · refine W_sound tab_ok mixed 22 _ _ _ ?_
          simp -implicitDefEqProofs only [go_sem, qa, qb, qc, qd, qe, qf, qg, qh, qi, qj, qk, ↓reduceIte, h5321, h5324, h5327, h5346, h5348, h5351, h5353, h5354]
          repeat with_reducible refine And.intro (by first | kernel_rfl | decide) ?_
          obtain rfl := Option.some.inj h5420
          exact finC [(6, .v (.int .i64 0)), (7, .v (.int .i64 5))] [(6, .v (.int .i64 0)), (7, .v (.int .i64 5))] (by simp [leE, lk_cons]) (.cons _ _ _ _ _ (.v _ _ (.refl _)) (.cons _ _ _ _ _ (.v _ _ (.refl _)) .nil)) (by rfl) (by simp [leE, lk_cons]) (by decide) (by decide) rfl (by simp only [go_sem, qa, qb, qc, qd, qe, qf, qg, qh, qi, qj, qk, ↓reduceIte, resQ_tmp, resQ_cell, resQ_nil, retD_one, retD_two, retD_three, retD_none]; try simp [R.val, retD_one, retD_two, retD_three, retD_none])
        · refine W_sound tab_ok mixed 24 _ _ _ ?_
          simp -implicitDefEqProofs only [go_sem, qa, qb, qc, qd, qe, qf, qg, qh, qi, qj, qk, ↓reduceIte, h5321, h5324, h5327, h5346, h5348, h5351, h5353, h5354]
          repeat with_reducible refine And.intro (by first | kernel_rfl | decide) ?_
          have hh := bnd'_some h5420; clear h5420; obtain ⟨o5421, h5422, h5423⟩ := hh
          refine Wp_cut (fun s => (.inr ()) = o5421 ∧ s = ⟨[], [(0, .dead), (1, .dead), (2, .dead), (3, .dead), (6, .dead), (7, .dead), (9, .dead), (10, .dead), (12, .dead), (15, .dead), (16, .dead), (17, .dead), (18, .dead), (25, .dead), (28, .dead), (39, .dead), (45, .dead), (46, .dead), (47, .dead), (48, .dead), (63, .dead)], [], 0, []⟩) ?_ ?_
          · refine Wp_block ?_
            refine Wp_loopG (fun n s => ∃ x5355, m34_L1 N p5322 p5323 n5325 c5326 n5328 c5329 n x5355 = some o5421 ∧ s = ⟨[], [(0, .dead), (1, .v (.lst false n5325 c5326)), (2, .dead), (3, .ptr 0 0), (6, .dead), (7, .dead), (9, .dead), (10, .dead), (12, .dead), (15, .dead), (16, .dead), (17, .dead), (18, .dead), (25, .dead), (28, .dead), (39, .dead), (45, .v (.lst false n5328 c5329)), (46, .v (.int .i64 ((n5328 : Nat) : Int))), (47, .v (.int .i64 x5355)), (48, .dead), (63, .dead)], [(0, .p [p5322, p5323])], 1, []⟩) N _ ((Wk_le (.r (.r (.k (.r (.r (.r (.r (.r (.r (.r (.r (.r (.r (.r (.k (.k (.r (.r (.r (.r (.r .nil))))))))))))))))))))) (OLe.refl _)).trans (cmpS_ok (st' := ⟨[], [(0, .dead), (1, .v (.lst false n5325 c5326)), (2, .dead), (3, .ptr 0 0), (6, .dead), (7, .dead), (9, .dead), (10, .dead), (12, .dead), (15, .dead), (16, .dead), (17, .dead), (18, .dead), (25, .dead), (28, .dead), (39, .dead), (45, .v (.lst false n5328 c5329)), (46, .v (.int .i64 ((n5328 : Nat) : Int))), (47, .v (.int .i64 0)), (48, .dead), (63, .dead)], [(0, .p [p5322, p5323])], 1, []⟩) (by kernel_rfl))) ⟨_, h5422, rfl⟩ ?_
            clear h5422
            rintro n _ ⟨x5355, h5422, rfl⟩
            cases n with
            | zero => cases h5422
            | succ n =>
              rw [m34_L1] at h5422
              have hh := brn_some h5422; clear h5422; rcases hh with ⟨h5356, h5422⟩ | ⟨h5356, h5422⟩
              · have hh := grd_some h5422; clear h5422; obtain ⟨⟨g5357, g5358⟩, h5422⟩ := hh
                have hh := grd_some h5422; clear h5422; obtain ⟨g5359, h5422⟩ := hh
                have hh := getI_some h5422; clear h5422; obtain ⟨x5361, h5360, h5422⟩ := hh
                have hh := bnd'_some h5422; clear h5422; obtain ⟨p5388, h5389, h5422⟩ := hh
                refine W_sound tab_ok mixed 19 _ _ _ ?_
                simp -implicitDefEqProofs only [go_sem, qa, qb, qc, qd, qe, qf, qg, qh, qi, qj, qk, ↓reduceIte, h5321, h5324, h5327, h5346, h5348, h5351, h5353, h5354, h5356, g5357, g5358, g5359, h5360]
                repeat with_reducible refine And.intro (by first | kernel_rfl | decide) ?_
                refine Wp_callP (c84 N _ _ _ h5389) (by kernel_rfl) rfl rfl rfl rfl (by decide) ?_
                have hh := getB_some h5422; clear h5422; obtain ⟨b5391, h5390, h5422⟩ := hh
                have hh := brn_some h5422; clear h5422; rcases hh with ⟨h5392, h5422⟩ | ⟨h5392, h5422⟩
                · refine W_sound tab_ok mixed 18 _ _ _ ?_
                  simp -implicitDefEqProofs only [go_sem, qa, qb, qc, qd, qe, qf, qg, qh, qi, qj, qk, ↓reduceIte, h5321, h5324, h5327, h5346, h5348, h5351, h5353, h5354, h5356, g5357, g5358, g5359, h5360, h5390, h5392]
                  repeat with_reducible refine And.intro (by first | kernel_rfl | decide) ?_
                  exact cutQ _ ((Wk_le (.r (.r (.r (.r (.r (.r (.r (.r (.k (.r (.r (.r (.r (.r (.r (.r (.r (.r (.r (.k (.k .nil))))))))))))))))))))) (OLe.refl _)).trans (cmpS_ok (st' := ⟨[], [(0, .dead), (1, .v (.lst false n5325 c5326)), (2, .dead), (3, .ptr 0 0), (6, .dead), (7, .dead), (9, .dead), (10, .dead), (12, .dead), (15, .dead), (16, .dead), (17, .dead), (18, .dead), (25, .dead), (28, .dead), (39, .dead), (45, .v (.lst false n5328 c5329)), (46, .v (.int .i64 ((n5328 : Nat) : Int))), (47, .v (.int .i64 (IntKind.i64.wrap (x5355 + 1)))), (48, .dead), (63, .dead)], [(0, .p [p5322, p5323])], 1, []⟩) (by kernel_rfl))) ⟨n, Nat.lt_succ_self n, _, h5422, rfl⟩
                · have hh := brn_some h5422; clear h5422; rcases hh with ⟨h5393, h5422⟩ | ⟨h5393, h5422⟩
                  · have hh := bnd'_some h5422; clear h5422; obtain ⟨⟨n5401, c5402⟩, h5403, h5422⟩ := hh
                    (try dsimp only at h5422)
                    refine W_sound tab_ok mixed 4 _ _ _ ?_
                    simp -implicitDefEqProofs only [go_sem, qa, qb, qc, qd, qe, qf, qg, qh, qi, qj, qk, ↓reduceIte, h5321, h5324, h5327, h5346, h5348, h5351, h5353, h5354, h5356, g5357, g5358, g5359, h5360, h5390, h5392, h5393]
                    repeat with_reducible refine And.intro (by first | kernel_rfl | decide) ?_
                    refine Wp_callD [] (c44 N _ _ _ h5403) rfl rfl rfl (by first | rfl | (simp only [go_sem, qa, qb, qc, qd, qe, qf, qg, qh, qi, qj, qk, ↓reduceIte, h5321, h5324, h5327, h5346, h5348, h5351, h5353, h5354, h5356, g5357, g5358, g5359, h5360, h5390, h5392, h5393] <;> rfl)) rfl (by kernel_rfl) ?_
                    have hh := grd_some h5422; clear h5422; obtain ⟨g5404, h5422⟩ := hh
                    have hh := grd_some h5422; clear h5422; obtain ⟨g5405, h5422⟩ := hh
                    have hh := bnd'_some h5422; clear h5422; obtain ⟨p5406, h5407, h5422⟩ := hh
                    refine W_sound tab_ok mixed 3 _ _ _ ?_
                    simp -implicitDefEqProofs only [go_sem, qa, qb, qc, qd, qe, qf, qg, qh, qi, qj, qk, ↓reduceIte, h5321, h5324, h5327, h5346, h5348, h5351, h5353, h5354, h5356, g5357, g5358, g5359, h5360, h5390, h5392, h5393, g5404, g5405]
                    repeat with_reducible refine And.intro (by first | kernel_rfl | decide) ?_
                    refine Wp_callF [(62, (c5402 ++ [(.int .i64 x5361)]))] (c82 N _ _ _ h5407) (by kernel_rfl) rfl rfl rfl (by simp only [go_sem, qa, qb, qc, qd, qe, qf, qg, qh, qi, qj, qk, ↓reduceIte, h5321, h5324, h5327, h5346, h5348, h5351, h5353, h5354, h5356, g5357, g5358, g5359, h5360, h5390, h5392, h5393, g5404, g5405] <;> rfl) (by decide) rfl (by simp [roF, obL]) rfl ?_
                    have hh := getB_some h5422; clear h5422; obtain ⟨b5409, h5408, h5422⟩ := hh
                    have hh := brn_some h5422; clear h5422; rcases hh with ⟨h5410, h5422⟩ | ⟨h5410, h5422⟩
                    · refine W_sound tab_ok mixed 11 _ _ _ ?_
                      simp -implicitDefEqProofs only [go_sem, qa, qb, qc, qd, qe, qf, qg, qh, qi, qj, qk, ↓reduceIte, h5321, h5324, h5327, h5346, h5348, h5351, h5353, h5354, h5356, g5357, g5358, g5359, h5360, h5390, h5392, h5393, g5404, g5405, h5408, h5410]
                      repeat with_reducible refine And.intro (by first | kernel_rfl | decide) ?_
                      obtain rfl := Option.some.inj h5422
                      (try dsimp only at h5423)
                      obtain rfl := Option.some.inj h5423
                      exact finC [(6, .v (.int .i64 x5361)), (7, .v (.int .i64 0))] [(6, .v (.int .i64 x5361)), (7, .v (.int .i64 0))] (by simp [leE, lk_cons]) (.cons _ _ _ _ _ (.v _ _ (.refl _)) (.cons _ _ _ _ _ (.v _ _ (.refl _)) .nil)) (by rfl) (by simp [leE, lk_cons]) (by decide) (by decide) rfl (by simp only [go_sem, qa, qb, qc, qd, qe, qf, qg, qh, qi, qj, qk, ↓reduceIte, resQ_tmp, resQ_cell, resQ_nil, retD_one, retD_two, retD_three, retD_none]; try simp [R.val, retD_one, retD_two, retD_three, retD_none])
                    · refine W_sound tab_ok mixed 9 _ _ _ ?_
                      simp -implicitDefEqProofs only [go_sem, qa, qb, qc, qd, qe, qf, qg, qh, qi, qj, qk, ↓reduceIte, h5321, h5324, h5327, h5346, h5348, h5351, h5353, h5354, h5356, g5357, g5358, g5359, h5360, h5390, h5392, h5393, g5404, g5405, h5408, h5410]
                      repeat with_reducible refine And.intro (by first | kernel_rfl | decide) ?_
                      exact cutQ _ ((Wk_le (.r (.r (.r (.r (.r (.r (.r (.r (.k (.r (.r (.r (.r (.r (.r (.r (.r (.r (.r (.k (.k .nil))))))))))))))))))))) (OLe.refl _)).trans (cmpS_ok (st' := ⟨[], [(0, .dead), (1, .v (.lst false n5325 c5326)), (2, .dead), (3, .ptr 0 0), (6, .dead), (7, .dead), (9, .dead), (10, .dead), (12, .dead), (15, .dead), (16, .dead), (17, .dead), (18, .dead), (25, .dead), (28, .dead), (39, .dead), (45, .v (.lst false n5328 c5329)), (46, .v (.int .i64 ((n5328 : Nat) : Int))), (47, .v (.int .i64 (IntKind.i64.wrap (x5355 + 1)))), (48, .dead), (63, .dead)], [(0, .p [p5322, p5323])], 1, []⟩) (by kernel_rfl))) ⟨n, Nat.lt_succ_self n, _, h5422, rfl⟩
                  · have hh := grd_some h5422; clear h5422; obtain ⟨g5411, h5422⟩ := hh
                    refine W_sound tab_ok mixed 4 _ _ _ ?_
                    simp -implicitDefEqProofs only [go_sem, qa, qb, qc, qd, qe, qf, qg, qh, qi, qj, qk, ↓reduceIte, h5321, h5324, h5327, h5346, h5348, h5351, h5353, h5354, h5356, g5357, g5358, g5359, h5360, h5390, h5392, h5393, g5411]
                    repeat with_reducible refine And.intro (by first | kernel_rfl | decide) ?_
                    refine Wp_callP (e44' h5393 (by first | assumption | simp)) (by kernel_rfl) rfl rfl rfl rfl (by decide) ?_
                    have hh := bnd'_some h5422; clear h5422; obtain ⟨p5412, h5413, h5422⟩ := hh
                    refine W_sound tab_ok mixed 3 _ _ _ ?_
                    simp -implicitDefEqProofs only [go_sem, qa, qb, qc, qd, qe, qf, qg, qh, qi, qj, qk, ↓reduceIte, h5321, h5324, h5327, h5346, h5348, h5351, h5353, h5354, h5356, g5357, g5358, g5359, h5360, h5390, h5392, h5393, g5411]
                    repeat with_reducible refine And.intro (by first | kernel_rfl | decide) ?_
                    refine Wp_callF [(62, [(.int .i64 x5361)])] (c82 N _ _ _ h5413) (by kernel_rfl) rfl rfl rfl (by simp only [go_sem, qa, qb, qc, qd, qe, qf, qg, qh, qi, qj, qk, ↓reduceIte, h5321, h5324, h5327, h5346, h5348, h5351, h5353, h5354, h5356, g5357, g5358, g5359, h5360, h5390, h5392, h5393, g5411] <;> rfl) (by decide) rfl (by simp [roF, obL]) rfl ?_
                    have hh := getB_some h5422; clear h5422; obtain ⟨b5415, h5414, h5422⟩ := hh
                    have hh := brn_some h5422; clear h5422; rcases hh with ⟨h5416, h5422⟩ | ⟨h5416, h5422⟩
                    · refine W_sound tab_ok mixed 11 _ _ _ ?_
                      simp -implicitDefEqProofs only [go_sem, qa, qb, qc, qd, qe, qf, qg, qh, qi, qj, qk, ↓reduceIte, h5321, h5324, h5327, h5346, h5348, h5351, h5353, h5354, h5356, g5357, g5358, g5359, h5360, h5390, h5392, h5393, g5411, h5414, h5416]
                      repeat with_reducible refine And.intro (by first | kernel_rfl | decide) ?_
                      obtain rfl := Option.some.inj h5422
                      (try dsimp only at h5423)
                      obtain rfl := Option.some.inj h5423
                      exact finC [(6, .v (.int .i64 x5361)), (7, .v (.int .i64 0))] [(6, .v (.int .i64 x5361)), (7, .v (.int .i64 0))] (by simp [leE, lk_cons]) (.cons _ _ _ _ _ (.v _ _ (.refl _)) (.cons _ _ _ _ _ (.v _ _ (.refl _)) .nil)) (by rfl) (by simp [leE, lk_cons]) (by decide) (by decide) rfl (by simp only [go_sem, qa, qb, qc, qd, qe, qf, qg, qh, qi, qj, qk, ↓reduceIte, resQ_tmp, resQ_cell, resQ_nil, retD_one, retD_two, retD_three, retD_none]; try simp [R.val, retD_one, retD_two, retD_three, retD_none])
                    · refine W_sound tab_ok mixed 9 _ _ _ ?_
                      simp -implicitDefEqProofs only [go_sem, qa, qb, qc, qd, qe, qf, qg, qh, qi, qj, qk, ↓reduceIte, h5321, h5324, h5327, h5346, h5348, h5351, h5353, h5354, h5356, g5357, g5358, g5359, h5360, h5390, h5392, h5393, g5411, h5414, h5416]
                      repeat with_reducible refine And.intro (by first | kernel_rfl | decide) ?_
                      exact cutQ _ ((Wk_le (.r (.r (.r (.r (.r (.r (.r (.r (.k (.r (.r (.r (.r (.r (.r (.r (.r (.r (.r (.k (.k .nil))))))))))))))))))))) (OLe.refl _)).trans (cmpS_ok (st' := ⟨[], [(0, .dead), (1, .v (.lst false n5325 c5326)), (2, .dead), (3, .ptr 0 0), (6, .dead), (7, .dead), (9, .dead), (10, .dead), (12, .dead), (15, .dead), (16, .dead), (17, .dead), (18, .dead), (25, .dead), (28, .dead), (39, .dead), (45, .v (.lst false n5328 c5329)), (46, .v (.int .i64 ((n5328 : Nat) : Int))), (47, .v (.int .i64 (IntKind.i64.wrap (x5355 + 1)))), (48, .dead), (63, .dead)], [(0, .p [p5322, p5323])], 1, []⟩) (by kernel_rfl))) ⟨n, Nat.lt_succ_self n, _, h5422, rfl⟩
              · refine W_sound tab_ok mixed 7 _ _ _ ?_
                simp -implicitDefEqProofs only [go_sem, qa, qb, qc, qd, qe, qf, qg, qh, qi, qj, qk, ↓reduceIte, h5321, h5324, h5327, h5346, h5348, h5351, h5353, h5354, h5356]
                repeat with_reducible refine And.intro (by first | kernel_rfl | decide) ?_
                obtain rfl := Option.some.inj h5422
                exact cutQ _ ((Wk_le (.r (.k (.r (.k (.r (.r (.r (.r (.r (.r (.r (.r (.r (.r (.r (.r (.k (.k (.k (.k (.r .nil))))))))))))))))))))) (OLe.refl _)).trans (cmpS_ok (st' := ⟨[], [(0, .dead), (1, .dead), (2, .dead), (3, .dead), (6, .dead), (7, .dead), (9, .dead), (10, .dead), (12, .dead), (15, .dead), (16, .dead), (17, .dead), (18, .dead), (25, .dead), (28, .dead), (39, .dead), (45, .dead), (46, .dead), (47, .dead), (48, .dead), (63, .dead)], [], 0, []⟩) (by kernel_rfl))) ⟨rfl, rfl⟩
          · rintro _ ⟨rfl, rfl⟩
            (try dsimp only at h5423)
            refine W_sound tab_ok mixed 7 _ _ _ ?_
            simp -implicitDefEqProofs only [go_sem, qa, qb, qc, qd, qe, qf, qg, qh, qi, qj, qk, ↓reduceIte, h5321, h5324, h5327, h5346, h5348, h5351, h5353, h5354]
            repeat with_reducible refine And.intro (by first | kernel_rfl | decide) ?_
            obtain rfl := Option.some.inj h5423
            exact finC [(6, .v (.int .i64 0)), (7, .v (.int .i64 14))] [(6, .v (.int .i64 0)), (7, .v (.int .i64 14))] (by simp [leE, lk_cons]) (.cons _ _ _ _ _ (.v _ _ (.refl _)) (.cons _ _ _ _ _ (.v _ _ (.refl _)) .nil)) (by rfl) (by simp [leE, lk_cons]) (by decide) (by decide) rfl (by simp only [go_sem, qa, qb, qc, qd, qe, qf, qg, qh, qi, qj, qk, ↓reduceIte, resQ_tmp, resQ_cell, resQ_nil, retD_one, retD_two, retD_three, retD_none]; try simp [R.val, retD_one, retD_two, retD_three, retD_none])
      · refine W_sound tab_ok mixed 12 _ _ _ ?_
        simp -implicitDefEqProofs only [go_sem, qa, qb, qc, qd, qe, qf, qg, qh, qi, qj, qk, ↓reduceIte, h5321, h5324, h5327, h5346, h5348, h5351, h5353]
        repeat with_reducible refine And.intro (by first | kernel_rfl | decide) ?_
        obtain rfl := Option.some.inj h5420
        exact finC [(6, .v (.int .i64 0)), (7, .v (.int .i64 12))] [(6, .v (.int .i64 0)), (7, .v (.int .i64 12))] (by simp [leE, lk_cons]) (.cons _ _ _ _ _ (.v _ _ (.refl _)) (.cons _ _ _ _ _ (.v _ _ (.refl _)) .nil)) (by rfl) (by simp [leE, lk_cons]) (by decide) (by decide) rfl (by simp only [go_sem, qa, qb, qc, qd, qe, qf, qg, qh, qi, qj, qk, ↓reduceIte, resQ_tmp, resQ_cell, resQ_nil, retD_one, retD_two, retD_three, retD_none]; try simp [R.val, retD_one, retD_two, retD_three, retD_none])
    · refine W_sound tab_ok mixed 17 _ _ _ ?_
      simp -implicitDefEqProofs only [go_sem, qa, qb, qc, qd, qe, qf, qg, qh, qi, qj, qk, ↓reduceIte, h5321, h5324, h5327, h5346, h5348]
      repeat with_reducible refine And.intro (by first | kernel_rfl | decide) ?_
      obtain rfl := Option.some.inj h5420
      exact finC [(6, .v (.int .i64 0)), (7, .v (.int .i64 12))] [(6, .v (.int .i64 0)), (7, .v (.int .i64 12))] (by simp [leE, lk_cons]) (.cons _ _ _ _ _ (.v _ _ (.refl _)) (.cons _ _ _ _ _ (.v _ _ (.refl _)) .nil)) (by rfl) (by simp [leE, lk_cons]) (by decide) (by decide) rfl (by simp only [go_sem, qa, qb, qc, qd, qe, qf, qg, qh, qi, qj, qk, ↓reduceIte, resQ_tmp, resQ_cell, resQ_nil, retD_one, retD_two, retD_three, retD_none]; try simp [R.val, retD_one, retD_two, retD_three, retD_none])

def m85_3_L0 (N : Nat) (x5475 : Int) (n5477 : Nat) (c5478 : List PV) : Nat → Int → Option ((PV ⊕ Unit))
  | 0, _ => none
  | n + 1, x5479 =>
    brn (decide (x5479 < ((n5477 : Nat) : Int))) (
      grd (0 ≤ x5479 ∧ x5479 < ((n5477 : Nat) : Int)) <|
      grd (0 < List.length (List.drop (Int.toNat x5479) c5478)) <|
      getI .i64 (gp c5478 (Int.toNat x5479)) fun x5485 =>
      brn (x5485 == x5475) (
        some (.inl (.bool true))) (
        m85_3_L0 N x5475 n5477 c5478 n (IntKind.i64.wrap (x5479 + 1)))) (
      some (.inr ()))
def m85_3 (N : Nat) (p5474 : PV) (x5475 : Int) : Option (PV) :=
  getL p5474 fun n5477 c5478 =>
  bnd' (m85_3_L0 N x5475 n5477 c5478 N 0) fun o =>
  match o with
  | .inl p5487 =>
    some p5487
  | .inr () =>
    some (.bool false)
theorem c85_3 (N : Nat) (p5474 : PV) (x5475 : Int) (r : PV)  (h : m85_3 N p5474 x5475 = some r) : FnP Tryd.prog 85 [p5474, (.int .i64 x5475)] r := by
  unfold m85_3 at h
  refine Fn_of (sz := 18) tab_ok [0, 1, 4, 5, 9, 17] [.tmp 4] Tryd.func85 rfl rfl rfl (by simp) ?_
  simp only [initSt, initEnv, List.map_cons, List.map_nil, List.getD_cons_zero, List.getD_cons_succ, List.getD_nil]
  have hh := getL_some h; clear h; obtain ⟨n5477, c5478, h5476, h⟩ := hh
  refine W_sound tab_ok mixed 9 _ _ _ ?_
  simp -implicitDefEqProofs only [go_sem, qa, qb, qc, qd, qe, qf, qg, qh, qi, qj, qk, ↓reduceIte, h5476]
  repeat with_reducible refine And.intro (by first | kernel_rfl | decide) ?_
  have hh := bnd'_some h; clear h; obtain ⟨o5488, h5489, h5490⟩ := hh
  refine Wp_cut (fun s => (.inr ()) = o5488 ∧ s = ⟨[], [(0, .dead), (1, .dead), (4, .dead), (5, .dead), (9, .dead), (17, .dead)], [], 0, []⟩) ?_ ?_
  · refine Wp_block ?_
    refine Wp_loopG (fun n s => ∃ x5479, m85_3_L0 N x5475 n5477 c5478 n x5479 = some o5488 ∧ s = ⟨[], [(0, .v (.lst false n5477 c5478)), (1, .v (.int .i64 x5475)), (4, .dead), (5, .v (.int .i64 x5479)), (9, .dead), (17, .dead)], [], 0, []⟩) N _ ((Wk_le (.r (.r (.k (.r (.r (.r .nil)))))) (OLe.refl _)).trans (cmpS_ok rfl)) ⟨_, h5489, rfl⟩ ?_
    clear h5489
    rintro n _ ⟨x5479, h5489, rfl⟩
    cases n with
    | zero => cases h5489
    | succ n =>
      rw [m85_3_L0] at h5489
      have hh := brn_some h5489; clear h5489; rcases hh with ⟨h5480, h5489⟩ | ⟨h5480, h5489⟩
      · have hh := grd_some h5489; clear h5489; obtain ⟨⟨g5481, g5482⟩, h5489⟩ := hh
        have hh := grd_some h5489; clear h5489; obtain ⟨g5483, h5489⟩ := hh
        have hh := getI_some h5489; clear h5489; obtain ⟨x5485, h5484, h5489⟩ := hh
        have hh := brn_some h5489; clear h5489; rcases hh with ⟨h5486, h5489⟩ | ⟨h5486, h5489⟩
        · refine W_sound tab_ok mixed 28 _ _ _ ?_
          simp -implicitDefEqProofs only [go_sem, qa, qb, qc, qd, qe, qf, qg, qh, qi, qj, qk, ↓reduceIte, h5476, h5480, g5481, g5482, g5483, h5484, h5486]
          repeat with_reducible refine And.intro (by first | kernel_rfl | decide) ?_
          obtain rfl := Option.some.inj h5489
          (try dsimp only at h5490)
          obtain rfl := Option.some.inj h5490
          exact finC [(4, .v (.bool true))] [(4, .v (.bool true))] (by simp [leE, lk_cons]) (.cons _ _ _ _ _ (.v _ _ (.refl _)) .nil) (by rfl) (by simp [leE, lk_cons]) (by decide) (by decide) rfl (by simp only [go_sem, qa, qb, qc, qd, qe, qf, qg, qh, qi, qj, qk, ↓reduceIte, resQ_tmp, resQ_cell, resQ_nil, retD_one, retD_two, retD_three, retD_none]; try simp [R.val, retD_one, retD_two, retD_three, retD_none])
        · refine W_sound tab_ok mixed 29 _ _ _ ?_
          simp -implicitDefEqProofs only [go_sem, qa, qb, qc, qd, qe, qf, qg, qh, qi, qj, qk, ↓reduceIte, h5476, h5480, g5481, g5482, g5483, h5484, h5486]
          repeat with_reducible refine And.intro (by first | kernel_rfl | decide) ?_
          exact cutQ _ ((Wk_le (.r (.r (.r (.r (.k (.k .nil)))))) (OLe.refl _)).trans (cmpS_ok rfl)) ⟨n, Nat.lt_succ_self n, _, h5489, rfl⟩
      · refine W_sound tab_ok mixed 10 _ _ _ ?_
        simp -implicitDefEqProofs only [go_sem, qa, qb, qc, qd, qe, qf, qg, qh, qi, qj, qk, ↓reduceIte, h5476, h5480]
        repeat with_reducible refine And.intro (by first | kernel_rfl | decide) ?_
        obtain rfl := Option.some.inj h5489
        exact cutQ _ ((Wk_le (.k (.k (.r (.k (.k (.r .nil)))))) (OLe.refl _)).trans (cmpS_ok rfl)) ⟨rfl, rfl⟩
  · rintro _ ⟨rfl, rfl⟩
    (try dsimp only at h5490)
    refine W_sound tab_ok mixed 6 _ _ _ ?_
    simp -implicitDefEqProofs only [go_sem, qa, qb, qc, qd, qe, qf, qg, qh, qi, qj, qk, ↓reduceIte, h5476]
    repeat with_reducible refine And.intro (by first | kernel_rfl | decide) ?_
    obtain rfl := Option.some.inj h5490
    exact finC [(4, .v (.bool false))] [(4, .v (.bool false))] (by simp [leE, lk_cons]) (.cons _ _ _ _ _ (.v _ _ (.refl _)) .nil) (by rfl) (by simp [leE, lk_cons]) (by decide) (by decide) rfl (by simp only [go_sem, qa, qb, qc, qd, qe, qf, qg, qh, qi, qj, qk, ↓reduceIte, resQ_tmp, resQ_cell, resQ_nil, retD_one, retD_two, retD_three, retD_none]; try simp [R.val, retD_one, retD_two, retD_three, retD_none])

def m35_L1 (N : Nat) (p5437 : PV) (n5440 : Nat) (c5441 : List PV) (n5443 : Nat) (c5444 : List PV) (x5561 : Int) : Nat → Nat → Int → PV → List PV → Option ((Nat × PV × List PV))
  | 0, _, _, _, _ => none
  | n + 1, n5597, x5598, p5599, c5600 =>
    getL p5599 fun n5602 c5603 =>
    brn (decide (x5598 < ((n5602 : Nat) : Int))) (
      bnd' (m85_3 N (.lst false n5440 c5441) x5598) fun p5605 =>
      getB p5605 fun b5608 =>
      brn b5608 (
        grd ((n5597 + 1) ≤ 1099511627776) <|
        grd (List.length c5600 = n5597) <|
        m35_L1 N p5437 n5440 c5441 n5443 c5444 x5561 n (n5597 + 1) (IntKind.i64.wrap (x5598 + 1)) (.lst false n5602 c5603) (c5600 ++ [(.int .i64 x5598)])) (
        grd (0 ≤ x5561 ∧ x5561 < ((n5443 : Nat) : Int)) <|
        grd (0 < List.length (List.drop (Int.toNat x5561) c5444)) <|
        getI .i64 (gp c5444 (Int.toNat x5561)) fun x5616 =>
        brn (x5598 == x5616) (
          grd ((n5597 + 1) ≤ 1099511627776) <|
          grd (List.length c5600 = n5597) <|
          m35_L1 N p5437 n5440 c5441 n5443 c5444 x5561 n (n5597 + 1) (IntKind.i64.wrap (x5598 + 1)) (.lst false n5602 c5603) (c5600 ++ [(.int .i64 x5598)])) (
          m35_L1 N p5437 n5440 c5441 n5443 c5444 x5561 n n5597 (IntKind.i64.wrap (x5598 + 1)) (.lst false n5602 c5603) c5600))) (
      some (n5597, (.lst false n5602 c5603), c5600))
def m35_L0 (N : Nat) (p5437 : PV) (n5440 : Nat) (c5441 : List PV) (n5443 : Nat) (c5444 : List PV) : Nat → Int → PV → Option ((PV ⊕ Unit))
  | 0, _, _ => none
  | n + 1, x5561, p5562 =>
    brn (decide (x5561 < ((n5443 : Nat) : Int))) (
      bnd' (m35_L1 N p5437 n5440 c5441 n5443 c5444 x5561 N 0 0 p5562 []) fun o =>
      match o with
      | (n5620, p5621, c5622) =>
        grd (List.length c5622 = n5620) <|
        grd (0 ≤ x5561 ∧ x5561 < ((n5443 : Nat) : Int)) <|
        grd (0 < List.length (List.drop (Int.toNat x5561) c5444)) <|
        getI .i64 (gp c5444 (Int.toNat x5561)) fun x5628 =>
        bnd' (m85_3 N (.lst false n5440 c5441) x5628) fun p5629 =>
        getB p5629 fun b5632 =>
        brn b5632 (
          m35_L0 N p5437 n5440 c5441 n5443 c5444 n (IntKind.i64.wrap (x5561 + 1)) p5621) (
          bnd' (m83 N (.agg [p5437, p5621]) (.lst false n5620 c5622)) fun p5634 =>
          getB p5634 fun b5637 =>
          brn b5637 (
            some (.inl (.tup [(.int .i64 x5628), (.int .i64 0)]))) (
            m35_L0 N p5437 n5440 c5441 n5443 c5444 n (IntKind.i64.wrap (x5561 + 1)) p5621))) (
      some (.inr ()))
def m35_L3 (N : Nat) (p5437 : PV) (n5440 : Nat) (c5441 : List PV) (n5443 : Nat) (c5444 : List PV) (x5718 : Int) : Nat → Nat → Int → PV → List PV → Option ((Nat × PV × List PV))
  | 0, _, _, _, _ => none
  | n + 1, n5754, x5755, p5756, c5757 =>
    getL p5756 fun n5759 c5760 =>
    brn (decide (x5755 < ((n5759 : Nat) : Int))) (
      bnd' (m85_3 N (.lst false n5440 c5441) x5755) fun p5762 =>
      getB p5762 fun b5765 =>
      brn b5765 (
        grd ((n5754 + 1) ≤ 1099511627776) <|
        grd (List.length c5757 = n5754) <|
        m35_L3 N p5437 n5440 c5441 n5443 c5444 x5718 n (n5754 + 1) (IntKind.i64.wrap (x5755 + 1)) (.lst false n5759 c5760) (c5757 ++ [(.int .i64 x5755)])) (
        grd (0 ≤ x5718 ∧ x5718 < ((n5443 : Nat) : Int)) <|
        grd (0 < List.length (List.drop (Int.toNat x5718) c5444)) <|
        getI .i64 (gp c5444 (Int.toNat x5718)) fun x5773 =>
        brn (x5755 == x5773) (
          grd ((n5754 + 1) ≤ 1099511627776) <|
          grd (List.length c5757 = n5754) <|
          m35_L3 N p5437 n5440 c5441 n5443 c5444 x5718 n (n5754 + 1) (IntKind.i64.wrap (x5755 + 1)) (.lst false n5759 c5760) (c5757 ++ [(.int .i64 x5755)])) (
          m35_L3 N p5437 n5440 c5441 n5443 c5444 x5718 n n5754 (IntKind.i64.wrap (x5755 + 1)) (.lst false n5759 c5760) c5757))) (
      some (n5754, (.lst false n5759 c5760), c5757))
def m35_L2 (N : Nat) (p5437 : PV) (n5440 : Nat) (c5441 : List PV) (n5443 : Nat) (c5444 : List PV) : Nat → Int → PV → Option ((PV ⊕ Unit))
  | 0, _, _ => none
  | n + 1, x5718, p5719 =>
    brn (decide (x5718 < ((n5443 : Nat) : Int))) (
      bnd' (m35_L3 N p5437 n5440 c5441 n5443 c5444 x5718 N 0 0 p5719 []) fun o =>
      match o with
      | (n5777, p5778, c5779) =>
        grd (List.length c5779 = n5777) <|
        grd (0 ≤ x5718 ∧ x5718 < ((n5443 : Nat) : Int)) <|
        grd (0 < List.length (List.drop (Int.toNat x5718) c5444)) <|
        getI .i64 (gp c5444 (Int.toNat x5718)) fun x5785 =>
        bnd' (m85_3 N (.lst false n5440 c5441) x5785) fun p5786 =>
        getB p5786 fun b5789 =>
        brn b5789 (
          m35_L2 N p5437 n5440 c5441 n5443 c5444 n (IntKind.i64.wrap (x5718 + 1)) p5778) (
          bnd' (m83 N (.agg [p5437, p5778]) (.lst false n5777 c5779)) fun p5791 =>
          getB p5791 fun b5794 =>
          brn b5794 (
            some (.inl (.tup [(.int .i64 x5785), (.int .i64 0)]))) (
            m35_L2 N p5437 n5440 c5441 n5443 c5444 n (IntKind.i64.wrap (x5718 + 1)) p5778))) (
      some (.inr ()))
def m35_L5 (N : Nat) (p5437 : PV) (n5440 : Nat) (c5441 : List PV) (n5443 : Nat) (c5444 : List PV) (x5875 : Int) : Nat → Nat → Int → PV → List PV → Option ((Nat × PV × List PV))
  | 0, _, _, _, _ => none
  | n + 1, n5911, x5912, p5913, c5914 =>
    getL p5913 fun n5916 c5917 =>
    brn (decide (x5912 < ((n5916 : Nat) : Int))) (
      bnd' (m85_3 N (.lst false n5440 c5441) x5912) fun p5919 =>
      getB p5919 fun b5922 =>
      brn b5922 (
        grd ((n5911 + 1) ≤ 1099511627776) <|
        grd (List.length c5914 = n5911) <|
        m35_L5 N p5437 n5440 c5441 n5443 c5444 x5875 n (n5911 + 1) (IntKind.i64.wrap (x5912 + 1)) (.lst false n5916 c5917) (c5914 ++ [(.int .i64 x5912)])) (
        grd (0 ≤ x5875 ∧ x5875 < ((n5443 : Nat) : Int)) <|
        grd (0 < List.length (List.drop (Int.toNat x5875) c5444)) <|
        getI .i64 (gp c5444 (Int.toNat x5875)) fun x5930 =>
        brn (x5912 == x5930) (
          grd ((n5911 + 1) ≤ 1099511627776) <|
          grd (List.length c5914 = n5911) <|
          m35_L5 N p5437 n5440 c5441 n5443 c5444 x5875 n (n5911 + 1) (IntKind.i64.wrap (x5912 + 1)) (.lst false n5916 c5917) (c5914 ++ [(.int .i64 x5912)])) (
          m35_L5 N p5437 n5440 c5441 n5443 c5444 x5875 n n5911 (IntKind.i64.wrap (x5912 + 1)) (.lst false n5916 c5917) c5914))) (
      some (n5911, (.lst false n5916 c5917), c5914))
def m35_L4 (N : Nat) (p5437 : PV) (n5440 : Nat) (c5441 : List PV) (n5443 : Nat) (c5444 : List PV) : Nat → Int → PV → Option ((PV ⊕ Unit))
  | 0, _, _ => none
  | n + 1, x5875, p5876 =>
    brn (decide (x5875 < ((n5443 : Nat) : Int))) (
      bnd' (m35_L5 N p5437 n5440 c5441 n5443 c5444 x5875 N 0 0 p5876 []) fun o =>
      match o with
      | (n5934, p5935, c5936) =>
        grd (List.length c5936 = n5934) <|
        grd (0 ≤ x5875 ∧ x5875 < ((n5443 : Nat) : Int)) <|
        grd (0 < List.length (List.drop (Int.toNat x5875) c5444)) <|
        getI .i64 (gp c5444 (Int.toNat x5875)) fun x5942 =>
        bnd' (m85_3 N (.lst false n5440 c5441) x5942) fun p5943 =>
        getB p5943 fun b5946 =>
        brn b5946 (
          m35_L4 N p5437 n5440 c5441 n5443 c5444 n (IntKind.i64.wrap (x5875 + 1)) p5935) (
          bnd' (m83 N (.agg [p5437, p5935]) (.lst false n5934 c5936)) fun p5948 =>
          getB p5948 fun b5951 =>
          brn b5951 (
            some (.inl (.tup [(.int .i64 x5942), (.int .i64 0)]))) (
            m35_L4 N p5437 n5440 c5441 n5443 c5444 n (IntKind.i64.wrap (x5875 + 1)) p5935))) (
      some (.inr ()))
def m35 (N : Nat) (p5433 : PV) (p5434 : PV) (p5435 : PV) : Option (PV) :=
  getA2 p5433 fun p5437 p5438 =>
  getL p5434 fun n5440 c5441 =>
  getL p5435 fun n5443 c5444 =>
  bnd' (m65 N (.agg [p5437, p5438]) (.lst false n5440 c5441)) fun p5445 =>
  getI .i64 p5445 fun x5448 =>
  brn (x5448 == 0) (
    bnd' (m65 N (.agg [p5437, p5438]) (.lst false n5443 c5444)) fun p5450 =>
    getI .i64 p5450 fun x5453 =>
    brn (x5453 == 0) (
      bnd' (m83 N (.agg [p5437, p5438]) (.lst false n5440 c5441)) fun p5455 =>
      getB p5455 fun b5458 =>
      brn b5458 (
        bnd' (m83 N (.agg [p5437, p5438]) (.lst false n5443 c5444)) fun p5460 =>
        getB p5460 fun b5463 =>
        brn b5463 (
          brn (decide (((n5443 : Nat) : Int) ≤ ((n5440 : Nat) : Int))) (
            some (.tup [(.int .i64 0), (.int .i64 5)])) (
            brn (x5453 != 0) (
              some (.tup [(.int .i64 0), (.int .i64 x5453)])) (
              bnd' (m35_L0 N p5437 n5440 c5441 n5443 c5444 N 0 p5438) fun o =>
              match o with
              | .inl p5639 =>
                some p5639
              | .inr () =>
                some (.tup [(.int .i64 0), (.int .i64 14)])))) (
          some (.tup [(.int .i64 0), (.int .i64 12)]))) (
        some (.tup [(.int .i64 0), (.int .i64 12)]))) (
      brn (x5453 != 0) (
        some (.tup [(.int .i64 0), (.int .i64 x5453)])) (
        bnd' (m35_L2 N p5437 n5440 c5441 n5443 c5444 N 0 p5438) fun o =>
        match o with
        | .inl p5796 =>
          some p5796
        | .inr () =>
          some (.tup [(.int .i64 0), (.int .i64 14)])))) (
    brn (x5448 != 0) (
      some (.tup [(.int .i64 0), (.int .i64 x5448)])) (
      bnd' (m35_L4 N p5437 n5440 c5441 n5443 c5444 N 0 p5438) fun o =>
      match o with
      | .inl p5953 =>
        some p5953
      | .inr () =>
        some (.tup [(.int .i64 0), (.int .i64 14)])))
theorem c35 (N : Nat) (p5433 : PV) (p5434 : PV) (p5435 : PV) (r : PV)  (h : m35 N p5433 p5434 p5435 = some r) : FnP Tryd.prog 35 [p5433, p5434, p5435] r := by
  unfold m35 at h
  refine Fn_of (sz := 90) tab_ok [0, 1, 2, 3, 6, 7, 8, 9, 10, 11, 16, 33, 42, 44, 49, 56, 69, 85] [.tmp 6, .tmp 7] Tryd.func35 rfl rfl rfl (by simp) ?_
  simp only [initSt, initEnv, List.map_cons, List.map_nil, List.getD_cons_zero, List.getD_cons_succ, List.getD_nil]
  have hh := getA2_some h; clear h; obtain ⟨p5437, p5438, h5436, h⟩ := hh
  have hh := getL_some h; clear h; obtain ⟨n5440, c5441, h5439, h⟩ := hh
  have hh := getL_some h; clear h; obtain ⟨n5443, c5444, h5442, h⟩ := hh
  have hh := bnd'_some h; clear h; obtain ⟨p5445, h5446, h⟩ := hh
  refine W_sound tab_ok mixed 10 _ _ _ ?_
  simp -implicitDefEqProofs only [go_sem, qa, qb, qc, qd, qe, qf, qg, qh, qi, qj, qk, ↓reduceIte, h5436, h5439, h5442]
  repeat with_reducible refine And.intro (by first | kernel_rfl | decide) ?_
  refine Wp_callP (c65 N _ _ _ h5446) (by kernel_rfl) rfl rfl rfl rfl (by decide) ?_
  have hh := getI_some h; clear h; obtain ⟨x5448, h5447, h⟩ := hh
  have hh := brn_some h; clear h; rcases hh with ⟨h5449, h⟩ | ⟨h5449, h⟩
  · have hh := bnd'_some h; clear h; obtain ⟨p5450, h5451, h⟩ := hh
    refine W_sound tab_ok mixed 12 _ _ _ ?_
    simp -implicitDefEqProofs only [go_sem, qa, qb, qc, qd, qe, qf, qg, qh, qi, qj, qk, ↓reduceIte, h5436, h5439, h5442, h5447, h5449]
    repeat with_reducible refine And.intro (by first | kernel_rfl | decide) ?_
    refine Wp_callP (c65 N _ _ _ h5451) (by kernel_rfl) rfl rfl rfl rfl (by decide) ?_
    have hh := getI_some h; clear h; obtain ⟨x5453, h5452, h⟩ := hh
    have hh := brn_some h; clear h; rcases hh with ⟨h5454, h⟩ | ⟨h5454, h⟩
    · have hh := bnd'_some h; clear h; obtain ⟨p5455, h5456, h⟩ := hh
      refine W_sound tab_ok mixed 10 _ _ _ ?_
      simp -implicitDefEqProofs only [go_sem, qa, qb, qc, qd, qe, qf, qg, qh, qi, qj, qk, ↓reduceIte, h5436, h5439, h5442, h5447, h5449, h5452, h5454]
      repeat with_reducible refine And.intro (by first | kernel_rfl | decide) ?_
      refine Wp_callP (c83 N _ _ _ h5456) (by kernel_rfl) rfl rfl rfl rfl (by decide) ?_
      have hh := getB_some h; clear h; obtain ⟨b5458, h5457, h⟩ := hh
      have hh := brn_some h; clear h; rcases hh with ⟨h5459, h⟩ | ⟨h5459, h⟩
      · have hh := bnd'_some h; clear h; obtain ⟨p5460, h5461, h⟩ := hh
        refine W_sound tab_ok mixed 4 _ _ _ ?_
        simp -implicitDefEqProofs only [go_sem, qa, qb, qc, qd, qe, qf, qg, qh, qi, qj, qk, ↓reduceIte, h5436, h5439, h5442, h5447, h5449, h5452, h5454, h5457, h5459]
        repeat with_reducible refine And.intro (by first | kernel_rfl | decide) ?_
        refine Wp_callP (c83 N _ _ _ h5461) (by kernel_rfl) rfl rfl rfl rfl (by decide) ?_
        have hh := getB_some h; clear h; obtain ⟨b5463, h5462, h⟩ := hh
        have hh := brn_some h; clear h; rcases hh with ⟨h5464, h⟩ | ⟨h5464, h⟩
        · have hh := brn_some h; clear h; rcases hh with ⟨h5465, h⟩ | ⟨h5465, h⟩
          · refine W_sound tab_ok mixed 38 _ _ _ ?_
            simp -implicitDefEqProofs only [go_sem, qa, qb, qc, qd, qe, qf, qg, qh, qi, qj, qk, ↓reduceIte, h5436, h5439, h5442, h5447, h5449, h5452, h5454, h5457, h5459, h5462, h5464, h5465]
            repeat with_reducible refine And.intro (by first | kernel_rfl | decide) ?_
            obtain rfl := Option.some.inj h
            exact finC [(6, .v (.int .i64 0)), (7, .v (.int .i64 5))] [(6, .v (.int .i64 0)), (7, .v (.int .i64 5))] (by simp [leE, lk_cons]) (.cons _ _ _ _ _ (.v _ _ (.refl _)) (.cons _ _ _ _ _ (.v _ _ (.refl _)) .nil)) (by rfl) (by simp [leE, lk_cons]) (by decide) (by decide) rfl (by simp only [go_sem, qa, qb, qc, qd, qe, qf, qg, qh, qi, qj, qk, ↓reduceIte, resQ_tmp, resQ_cell, resQ_nil, retD_one, retD_two, retD_three, retD_none]; try simp [R.val, retD_one, retD_two, retD_three, retD_none])
          · have hh := brn_some h; clear h; rcases hh with ⟨h5466, h⟩ | ⟨h5466, h⟩
            · refine W_sound tab_ok mixed 36 _ _ _ ?_
              simp -implicitDefEqProofs only [go_sem, qa, qb, qc, qd, qe, qf, qg, qh, qi, qj, qk, ↓reduceIte, h5436, h5439, h5442, h5447, h5449, h5452, h5454, h5457, h5459, h5462, h5464, h5465, h5466]
              repeat with_reducible refine And.intro (by first | kernel_rfl | decide) ?_
              obtain rfl := Option.some.inj h
              exact finC [(6, .v (.int .i64 0)), (7, .v (.int .i64 x5453))] [(6, .v (.int .i64 0)), (7, .v (.int .i64 x5453))] (by simp [leE, lk_cons]) (.cons _ _ _ _ _ (.v _ _ (.refl _)) (.cons _ _ _ _ _ (.v _ _ (.refl _)) .nil)) (by rfl) (by simp [leE, lk_cons]) (by decide) (by decide) rfl (by simp only [go_sem, qa, qb, qc, qd, qe, qf, qg, qh, qi, qj, qk, ↓reduceIte, resQ_tmp, resQ_cell, resQ_nil, retD_one, retD_two, retD_three, retD_none]; try simp [R.val, retD_one, retD_two, retD_three, retD_none])
            · refine W_sound tab_ok mixed 34 _ _ _ ?_
              simp -implicitDefEqProofs only [go_sem, qa, qb, qc, qd, qe, qf, qg, qh, qi, qj, qk, ↓reduceIte, h5436, h5439, h5442, h5447, h5449, h5452, h5454, h5457, h5459, h5462, h5464, h5465, h5466]
              repeat with_reducible refine And.intro (by first | kernel_rfl | decide) ?_
              have hh := bnd'_some h; clear h; obtain ⟨o5954, h5955, h5956⟩ := hh
              refine Wp_cut (fun s => (.inr ()) = o5954 ∧ s = ⟨[], [(0, .dead), (1, .dead), (2, .dead), (3, .dead), (6, .dead), (7, .dead), (8, .dead), (9, .dead), (10, .dead), (11, .dead), (16, .dead), (33, .dead), (42, .dead), (44, .dead), (49, .dead), (56, .dead), (69, .dead), (85, .dead)], [], 0, []⟩) ?_ ?_
              · refine Wp_block ?_
                refine Wp_loopG (fun n s => ∃ x5561, ∃ p5562, m35_L0 N p5437 n5440 c5441 n5443 c5444 n x5561 p5562 = some o5954 ∧ s = ⟨[], [(0, .dead), (1, .v (.lst false n5440 c5441)), (2, .v (.lst false n5443 c5444)), (3, .ptr 0 0), (6, .dead), (7, .dead), (8, .dead), (9, .v (.int .i64 x5561)), (10, .dead), (11, .dead), (16, .dead), (33, .dead), (42, .dead), (44, .dead), (49, .dead), (56, .dead), (69, .dead), (85, .dead)], [(0, .p [p5437, p5562])], 1, []⟩) N _ ((Wk_le (.k (.r (.r (.r (.k (.k (.k (.r (.r (.r (.k (.k (.k (.k (.r (.r (.r (.r .nil)))))))))))))))))) (OLe.refl _)).trans (cmpS_ok (st' := ⟨[], [(0, .dead), (1, .v (.lst false n5440 c5441)), (2, .v (.lst false n5443 c5444)), (3, .ptr 0 0), (6, .dead), (7, .dead), (8, .dead), (9, .v (.int .i64 0)), (10, .dead), (11, .dead), (16, .dead), (33, .dead), (42, .dead), (44, .dead), (49, .dead), (56, .dead), (69, .dead), (85, .dead)], [(0, .p [p5437, p5438])], 1, []⟩) (by kernel_rfl))) ⟨_, _, h5955, rfl⟩ ?_
                clear h5955
                rintro n _ ⟨x5561, p5562, h5955, rfl⟩
                cases n with
                | zero => cases h5955
                | succ n =>
                  rw [m35_L0] at h5955
                  have hh := brn_some h5955; clear h5955; rcases hh with ⟨h5563, h5955⟩ | ⟨h5563, h5955⟩
                  · refine W_sound tab_ok mixed 21 _ _ _ ?_
                    simp -implicitDefEqProofs only [go_sem, qa, qb, qc, qd, qe, qf, qg, qh, qi, qj, qk, ↓reduceIte, h5436, h5439, h5442, h5447, h5449, h5452, h5454, h5457, h5459, h5462, h5464, h5465, h5466, h5563]
                    repeat with_reducible refine And.intro (by first | kernel_rfl | decide) ?_
                    refine Wp_weaken (Wk_ownS 10 1 rfl (by decide) (by decide)) ?_
                    simp -implicitDefEqProofs only [go_sem, qa, qb, qc, qd, qe, qf, qg, qh, qi, qj, qk, ↓reduceIte, h5436, h5439, h5442, h5447, h5449, h5452, h5454, h5457, h5459, h5462, h5464, h5465, h5466, h5563]
                    have hh := bnd'_some h5955; clear h5955; obtain ⟨o5957, h5958, h5959⟩ := hh
                    refine Wp_cut (fun s => ∃ n5620, ∃ p5621, ∃ c5622, (n5620, p5621, c5622) = o5957 ∧ s = ⟨[], [(0, .dead), (1, .v (.lst false n5440 c5441)), (2, .v (.lst false n5443 c5444)), (3, .ptr 0 0), (6, .dead), (7, .dead), (8, .dead), (9, .v (.int .i64 x5561)), (10, .sl false 1 0 n5620 1), (11, .dead), (16, .dead), (33, .dead), (42, .dead), (44, .dead), (49, .dead), (56, .dead), (69, .dead), (85, .dead)], [(0, .p [p5437, p5621]), (1, .p c5622)], 2, []⟩) ?_ ?_
                    · refine Wp_block ?_
                      refine Wp_loopG (fun n s => ∃ n5597, ∃ x5598, ∃ p5599, ∃ c5600, m35_L1 N p5437 n5440 c5441 n5443 c5444 x5561 n n5597 x5598 p5599 c5600 = some o5957 ∧ s = ⟨[], [(0, .dead), (1, .v (.lst false n5440 c5441)), (2, .v (.lst false n5443 c5444)), (3, .ptr 0 0), (6, .dead), (7, .dead), (8, .dead), (9, .v (.int .i64 x5561)), (10, .sl false 1 0 n5597 1), (11, .v (.int .i64 x5598)), (16, .dead), (33, .dead), (42, .dead), (44, .dead), (49, .dead), (56, .dead), (69, .dead), (85, .dead)], [(0, .p [p5437, p5599]), (1, .p c5600)], 2, []⟩) N _ ((Wk_le (.r (.r (.r (.r (.r (.r (.r (.r (.r (.r (.r (.r (.r (.r (.k (.r (.r (.r .nil)))))))))))))))))) (OLe.refl _)).trans (cmpS_ok (st' := ⟨[], [(0, .dead), (1, .v (.lst false n5440 c5441)), (2, .v (.lst false n5443 c5444)), (3, .ptr 0 0), (6, .dead), (7, .dead), (8, .dead), (9, .v (.int .i64 x5561)), (10, .sl false 1 0 0 1), (11, .v (.int .i64 0)), (16, .dead), (33, .dead), (42, .dead), (44, .dead), (49, .dead), (56, .dead), (69, .dead), (85, .dead)], [(0, .p [p5437, p5562]), (1, .p [])], 2, []⟩) (by kernel_rfl))) ⟨_, _, _, _, h5958, rfl⟩ ?_
                      clear h5958
                      rintro n _ ⟨n5597, x5598, p5599, c5600, h5958, rfl⟩
                      cases n with
                      | zero => cases h5958
                      | succ n =>
                        rw [m35_L1] at h5958
                        have hh := getL_some h5958; clear h5958; obtain ⟨n5602, c5603, h5601, h5958⟩ := hh
                        have hh := brn_some h5958; clear h5958; rcases hh with ⟨h5604, h5958⟩ | ⟨h5604, h5958⟩
                        · have hh := bnd'_some h5958; clear h5958; obtain ⟨p5605, h5606, h5958⟩ := hh
                          refine W_sound tab_ok mixed 17 _ _ _ ?_
                          simp -implicitDefEqProofs only [go_sem, qa, qb, qc, qd, qe, qf, qg, qh, qi, qj, qk, ↓reduceIte, h5436, h5439, h5442, h5447, h5449, h5452, h5454, h5457, h5459, h5462, h5464, h5465, h5466, h5563, h5601, h5604]
                          repeat with_reducible refine And.intro (by first | kernel_rfl | decide) ?_
                          refine Wp_callP (c85_3 N _ _ _ h5606) (by kernel_rfl) rfl rfl rfl rfl (by decide) ?_
                          have hh := getB_some h5958; clear h5958; obtain ⟨b5608, h5607, h5958⟩ := hh
                          have hh := brn_some h5958; clear h5958; rcases hh with ⟨h5609, h5958⟩ | ⟨h5609, h5958⟩
                          · have hh := grd_some h5958; clear h5958; obtain ⟨g5610, h5958⟩ := hh
                            have hh := grd_some h5958; clear h5958; obtain ⟨g5611, h5958⟩ := hh
                            refine W_sound tab_ok mixed 23 _ _ _ ?_
                            simp -implicitDefEqProofs only [go_sem, qa, qb, qc, qd, qe, qf, qg, qh, qi, qj, qk, ↓reduceIte, h5436, h5439, h5442, h5447, h5449, h5452, h5454, h5457, h5459, h5462, h5464, h5465, h5466, h5563, h5601, h5604, h5607, h5609, g5610, g5611]
                            repeat with_reducible refine And.intro (by first | kernel_rfl | decide) ?_
                            exact cutQ _ ((Wk_le (.r (.r (.r (.r (.r (.r (.r (.r (.r (.r (.r (.r (.r (.r (.r (.k (.k (.r .nil)))))))))))))))))) (OLe.refl _)).trans (cmpS_ok (st' := ⟨[], [(0, .dead), (1, .v (.lst false n5440 c5441)), (2, .v (.lst false n5443 c5444)), (3, .ptr 0 0), (6, .dead), (7, .dead), (8, .dead), (9, .v (.int .i64 x5561)), (10, .sl false 1 0 (n5597 + 1) 1), (11, .v (.int .i64 (IntKind.i64.wrap (x5598 + 1)))), (16, .dead), (33, .dead), (42, .dead), (44, .dead), (49, .dead), (56, .dead), (69, .dead), (85, .dead)], [(0, .p [p5437, (.lst false n5602 c5603)]), (1, .p (c5600 ++ [(.int .i64 x5598)]))], 2, []⟩) (by kernel_rfl))) ⟨n, Nat.lt_succ_self n, _, _, _, _, h5958, rfl⟩
                          · have hh := grd_some h5958; clear h5958; obtain ⟨⟨g5612, g5613⟩, h5958⟩ := hh
                            have hh := grd_some h5958; clear h5958; obtain ⟨g5614, h5958⟩ := hh
                            have hh := getI_some h5958; clear h5958; obtain ⟨x5616, h5615, h5958⟩ := hh
                            have hh := brn_some h5958; clear h5958; rcases hh with ⟨h5617, h5958⟩ | ⟨h5617, h5958⟩
                            · have hh := grd_some h5958; clear h5958; obtain ⟨g5618, h5958⟩ := hh
                              have hh := grd_some h5958; clear h5958; obtain ⟨g5619, h5958⟩ := hh
                              refine W_sound tab_ok mixed 23 _ _ _ ?_
                              simp -implicitDefEqProofs only [go_sem, qa, qb, qc, qd, qe, qf, qg, qh, qi, qj, qk, ↓reduceIte, h5436, h5439, h5442, h5447, h5449, h5452, h5454, h5457, h5459, h5462, h5464, h5465, h5466, h5563, h5601, h5604, h5607, h5609, g5612, g5613, g5614, h5615, h5617, g5618, g5619]
                              repeat with_reducible refine And.intro (by first | kernel_rfl | decide) ?_
                              exact cutQ _ ((Wk_le (.r (.r (.r (.r (.r (.r (.r (.r (.r (.r (.r (.r (.r (.r (.r (.k (.k (.r .nil)))))))))))))))))) (OLe.refl _)).trans (cmpS_ok (st' := ⟨[], [(0, .dead), (1, .v (.lst false n5440 c5441)), (2, .v (.lst false n5443 c5444)), (3, .ptr 0 0), (6, .dead), (7, .dead), (8, .dead), (9, .v (.int .i64 x5561)), (10, .sl false 1 0 (n5597 + 1) 1), (11, .v (.int .i64 (IntKind.i64.wrap (x5598 + 1)))), (16, .dead), (33, .dead), (42, .dead), (44, .dead), (49, .dead), (56, .dead), (69, .dead), (85, .dead)], [(0, .p [p5437, (.lst false n5602 c5603)]), (1, .p (c5600 ++ [(.int .i64 x5598)]))], 2, []⟩) (by kernel_rfl))) ⟨n, Nat.lt_succ_self n, _, _, _, _, h5958, rfl⟩
                            · refine W_sound tab_ok mixed 17 _ _ _ ?_
                              simp -implicitDefEqProofs only [go_sem, qa, qb, qc, qd, qe, qf, qg, qh, qi, qj, qk, ↓reduceIte, h5436, h5439, h5442, h5447, h5449, h5452, h5454, h5457, h5459, h5462, h5464, h5465, h5466, h5563, h5601, h5604, h5607, h5609, g5612, g5613, g5614, h5615, h5617]
                              repeat with_reducible refine And.intro (by first | kernel_rfl | decide) ?_
                              exact cutQ _ ((Wk_le (.r (.r (.r (.r (.r (.r (.r (.r (.r (.r (.r (.r (.r (.r (.r (.k (.k (.r .nil)))))))))))))))))) (OLe.refl _)).trans (cmpS_ok (st' := ⟨[], [(0, .dead), (1, .v (.lst false n5440 c5441)), (2, .v (.lst false n5443 c5444)), (3, .ptr 0 0), (6, .dead), (7, .dead), (8, .dead), (9, .v (.int .i64 x5561)), (10, .sl false 1 0 n5597 1), (11, .v (.int .i64 (IntKind.i64.wrap (x5598 + 1)))), (16, .dead), (33, .dead), (42, .dead), (44, .dead), (49, .dead), (56, .dead), (69, .dead), (85, .dead)], [(0, .p [p5437, (.lst false n5602 c5603)]), (1, .p c5600)], 2, []⟩) (by kernel_rfl))) ⟨n, Nat.lt_succ_self n, _, _, _, _, h5958, rfl⟩
                        · refine W_sound tab_ok mixed 11 _ _ _ ?_
                          simp -implicitDefEqProofs only [go_sem, qa, qb, qc, qd, qe, qf, qg, qh, qi, qj, qk, ↓reduceIte, h5436, h5439, h5442, h5447, h5449, h5452, h5454, h5457, h5459, h5462, h5464, h5465, h5466, h5563, h5601, h5604]
                          repeat with_reducible refine And.intro (by first | kernel_rfl | decide) ?_
                          obtain rfl := Option.some.inj h5958
                          exact cutQ _ ((Wk_le (.r (.r (.r (.r (.r (.r (.r (.r (.r (.k (.r (.r (.r (.r (.r (.k (.r (.r .nil)))))))))))))))))) (OLe.refl _)).trans (cmpS_ok (st' := ⟨[], [(0, .dead), (1, .v (.lst false n5440 c5441)), (2, .v (.lst false n5443 c5444)), (3, .ptr 0 0), (6, .dead), (7, .dead), (8, .dead), (9, .v (.int .i64 x5561)), (10, .sl false 1 0 n5597 1), (11, .dead), (16, .dead), (33, .dead), (42, .dead), (44, .dead), (49, .dead), (56, .dead), (69, .dead), (85, .dead)], [(0, .p [p5437, (.lst false n5602 c5603)]), (1, .p c5600)], 2, []⟩) (by kernel_rfl))) ⟨_, _, _, rfl, rfl⟩
                    · rintro _ ⟨n5620, p5621, c5622, rfl, rfl⟩
                      (try dsimp only at h5959)
                      refine W_sound tab_ok mixed 1 _ _ _ ?_
                      simp -implicitDefEqProofs only [go_sem, qa, qb, qc, qd, qe, qf, qg, qh, qi, qj, qk, ↓reduceIte, h5436, h5439, h5442, h5447, h5449, h5452, h5454, h5457, h5459, h5462, h5464, h5465, h5466, h5563]
                      repeat with_reducible refine And.intro (by first | kernel_rfl | decide) ?_
                      have hh := grd_some h5959; clear h5959; obtain ⟨g5623, h5959⟩ := hh
                      refine Wp_wkK (Wk_freeze 1 c5622 (by rfl) (by decide) (by decide)) rfl ?_
                      simp -implicitDefEqProofs only [go_sem, qa, qb, qc, qd, qe, qf, qg, qh, qi, qj, qk, ↓reduceIte, h5436, h5439, h5442, h5447, h5449, h5452, h5454, h5457, h5459, h5462, h5464, h5465, h5466, h5563, g5623]
                      have hh := grd_some h5959; clear h5959; obtain ⟨⟨g5624, g5625⟩, h5959⟩ := hh
                      have hh := grd_some h5959; clear h5959; obtain ⟨g5626, h5959⟩ := hh
                      have hh := getI_some h5959; clear h5959; obtain ⟨x5628, h5627, h5959⟩ := hh
                      have hh := bnd'_some h5959; clear h5959; obtain ⟨p5629, h5630, h5959⟩ := hh
                      refine W_sound tab_ok mixed 6 _ _ _ ?_
                      simp -implicitDefEqProofs only [go_sem, qa, qb, qc, qd, qe, qf, qg, qh, qi, qj, qk, ↓reduceIte, h5436, h5439, h5442, h5447, h5449, h5452, h5454, h5457, h5459, h5462, h5464, h5465, h5466, h5563, g5623, g5624, g5625, g5626, h5627]
                      repeat with_reducible refine And.intro (by first | kernel_rfl | decide) ?_
                      refine Wp_callP (c85_3 N _ _ _ h5630) (by kernel_rfl) rfl rfl rfl rfl (by decide) ?_
                      have hh := getB_some h5959; clear h5959; obtain ⟨b5632, h5631, h5959⟩ := hh
                      have hh := brn_some h5959; clear h5959; rcases hh with ⟨h5633, h5959⟩ | ⟨h5633, h5959⟩
                      · refine W_sound tab_ok mixed 15 _ _ _ ?_
                        simp -implicitDefEqProofs only [go_sem, qa, qb, qc, qd, qe, qf, qg, qh, qi, qj, qk, ↓reduceIte, h5436, h5439, h5442, h5447, h5449, h5452, h5454, h5457, h5459, h5462, h5464, h5465, h5466, h5563, g5623, g5624, g5625, g5626, h5627, h5631, h5633]
                        repeat with_reducible refine And.intro (by first | kernel_rfl | decide) ?_
                        exact cutQ _ ((Wk_le (.r (.r (.r (.r (.r (.r (.r (.r (.k (.r (.r (.r (.r (.r (.r (.r (.r (.k .nil)))))))))))))))))) (OLe.refl _)).trans (cmpS_ok (st' := ⟨[], [(0, .dead), (1, .v (.lst false n5440 c5441)), (2, .v (.lst false n5443 c5444)), (3, .ptr 0 0), (6, .dead), (7, .dead), (8, .dead), (9, .v (.int .i64 (IntKind.i64.wrap (x5561 + 1)))), (10, .dead), (11, .dead), (16, .dead), (33, .dead), (42, .dead), (44, .dead), (49, .dead), (56, .dead), (69, .dead), (85, .dead)], [(0, .p [p5437, p5621])], 1, []⟩) (by kernel_rfl))) ⟨n, Nat.lt_succ_self n, _, _, h5959, rfl⟩
                      · have hh := bnd'_some h5959; clear h5959; obtain ⟨p5634, h5635, h5959⟩ := hh
                        refine W_sound tab_ok mixed 4 _ _ _ ?_
                        simp -implicitDefEqProofs only [go_sem, qa, qb, qc, qd, qe, qf, qg, qh, qi, qj, qk, ↓reduceIte, h5436, h5439, h5442, h5447, h5449, h5452, h5454, h5457, h5459, h5462, h5464, h5465, h5466, h5563, g5623, g5624, g5625, g5626, h5627, h5631, h5633]
                        repeat with_reducible refine And.intro (by first | kernel_rfl | decide) ?_
                        refine Wp_callP (c83 N _ _ _ h5635) (by kernel_rfl) rfl rfl rfl rfl (by decide) ?_
                        have hh := getB_some h5959; clear h5959; obtain ⟨b5637, h5636, h5959⟩ := hh
                        have hh := brn_some h5959; clear h5959; rcases hh with ⟨h5638, h5959⟩ | ⟨h5638, h5959⟩
                        · refine W_sound tab_ok mixed 14 _ _ _ ?_
                          simp -implicitDefEqProofs only [go_sem, qa, qb, qc, qd, qe, qf, qg, qh, qi, qj, qk, ↓reduceIte, h5436, h5439, h5442, h5447, h5449, h5452, h5454, h5457, h5459, h5462, h5464, h5465, h5466, h5563, g5623, g5624, g5625, g5626, h5627, h5631, h5633, h5636, h5638]
                          repeat with_reducible refine And.intro (by first | kernel_rfl | decide) ?_
                          obtain rfl := Option.some.inj h5959
                          (try dsimp only at h5956)
                          obtain rfl := Option.some.inj h5956
                          exact finC [(6, .v (.int .i64 x5628)), (7, .v (.int .i64 0))] [(6, .v (.int .i64 x5628)), (7, .v (.int .i64 0))] (by simp [leE, lk_cons]) (.cons _ _ _ _ _ (.v _ _ (.refl _)) (.cons _ _ _ _ _ (.v _ _ (.refl _)) .nil)) (by rfl) (by simp [leE, lk_cons]) (by decide) (by decide) rfl (by simp only [go_sem, qa, qb, qc, qd, qe, qf, qg, qh, qi, qj, qk, ↓reduceIte, resQ_tmp, resQ_cell, resQ_nil, retD_one, retD_two, retD_three, retD_none]; try simp [R.val, retD_one, retD_two, retD_three, retD_none])
                        · refine W_sound tab_ok mixed 10 _ _ _ ?_
                          simp -implicitDefEqProofs only [go_sem, qa, qb, qc, qd, qe, qf, qg, qh, qi, qj, qk, ↓reduceIte, h5436, h5439, h5442, h5447, h5449, h5452, h5454, h5457, h5459, h5462, h5464, h5465, h5466, h5563, g5623, g5624, g5625, g5626, h5627, h5631, h5633, h5636, h5638]
                          repeat with_reducible refine And.intro (by first | kernel_rfl | decide) ?_
                          exact cutQ _ ((Wk_le (.r (.r (.r (.r (.r (.r (.r (.r (.k (.r (.r (.r (.r (.r (.r (.r (.r (.k .nil)))))))))))))))))) (OLe.refl _)).trans (cmpS_ok (st' := ⟨[], [(0, .dead), (1, .v (.lst false n5440 c5441)), (2, .v (.lst false n5443 c5444)), (3, .ptr 0 0), (6, .dead), (7, .dead), (8, .dead), (9, .v (.int .i64 (IntKind.i64.wrap (x5561 + 1)))), (10, .dead), (11, .dead), (16, .dead), (33, .dead), (42, .dead), (44, .dead), (49, .dead), (56, .dead), (69, .dead), (85, .dead)], [(0, .p [p5437, p5621])], 1, []⟩) (by kernel_rfl))) ⟨n, Nat.lt_succ_self n, _, _, h5959, rfl⟩
                  · refine W_sound tab_ok mixed 10 _ _ _ ?_
                    simp -implicitDefEqProofs only [go_sem, qa, qb, qc, qd, qe, qf, qg, qh, qi, qj, qk, ↓reduceIte, h5436, h5439, h5442, h5447, h5449, h5452, h5454, h5457, h5459, h5462, h5464, h5465, h5466, h5563]
                    repeat with_reducible refine And.intro (by first | kernel_rfl | decide) ?_
                    obtain rfl := Option.some.inj h5955
                    exact cutQ _ ((Wk_le (.r (.k (.k (.k (.r (.r (.r (.k (.r (.r (.r (.r (.r (.r (.k (.r (.r (.r .nil)))))))))))))))))) (OLe.refl _)).trans (cmpS_ok (st' := ⟨[], [(0, .dead), (1, .dead), (2, .dead), (3, .dead), (6, .dead), (7, .dead), (8, .dead), (9, .dead), (10, .dead), (11, .dead), (16, .dead), (33, .dead), (42, .dead), (44, .dead), (49, .dead), (56, .dead), (69, .dead), (85, .dead)], [], 0, []⟩) (by kernel_rfl))) ⟨rfl, rfl⟩
              · rintro _ ⟨rfl, rfl⟩
                (try dsimp only at h5956)
                refine W_sound tab_ok mixed 7 _ _ _ ?_
                simp -implicitDefEqProofs only [go_sem, qa, qb, qc, qd, qe, qf, qg, qh, qi, qj, qk, ↓reduceIte, h5436, h5439, h5442, h5447, h5449, h5452, h5454, h5457, h5459, h5462, h5464, h5465, h5466]
                repeat with_reducible refine And.intro (by first | kernel_rfl | decide) ?_
                obtain rfl := Option.some.inj h5956
                exact finC [(6, .v (.int .i64 0)), (7, .v (.int .i64 14))] [(6, .v (.int .i64 0)), (7, .v (.int .i64 14))] (by simp [leE, lk_cons]) (.cons _ _ _ _ _ (.v _ _ (.refl _)) (.cons _ _ _ _ _ (.v _ _ (.refl _)) .nil)) (by rfl) (by simp [leE, lk_cons]) (by decide) (by decide) rfl (by simp only [go_sem, qa, qb, qc, qd, qe, qf, qg, qh, qi, qj, qk, ↓reduceIte, resQ_tmp, resQ_cell, resQ_nil, retD_one, retD_two, retD_three, retD_none]; try simp [R.val, retD_one, retD_two, retD_three, retD_none])
        · refine W_sound tab_ok mixed 38 _ _ _ ?_
          simp -implicitDefEqProofs only [go_sem, qa, qb, qc, qd, qe, qf, qg, qh, qi, qj, qk, ↓reduceIte, h5436, h5439, h5442, h5447, h5449, h5452, h5454, h5457, h5459, h5462, h5464]
          repeat with_reducible refine And.intro (by first | kernel_rfl | decide) ?_
          obtain rfl := Option.some.inj h
          exact finC [(6, .v (.int .i64 0)), (7, .v (.int .i64 12))] [(6, .v (.int .i64 0)), (7, .v (.int .i64 12))] (by simp [leE, lk_cons]) (.cons _ _ _ _ _ (.v _ _ (.refl _)) (.cons _ _ _ _ _ (.v _ _ (.refl _)) .nil)) (by rfl) (by simp [leE, lk_cons]) (by decide) (by decide) rfl (by simp only [go_sem, qa, qb, qc, qd, qe, qf, qg, qh, qi, qj, qk, ↓reduceIte, resQ_tmp, resQ_cell, resQ_nil, retD_one, retD_two, retD_three, retD_none]; try simp [R.val, retD_one, retD_two, retD_three, retD_none])
      · refine W_sound tab_ok mixed 43 _ _ _ ?_
        simp -implicitDefEqProofs only [go_sem, qa, qb, qc, qd, qe, qf, qg, qh, qi, qj, qk, ↓reduceIte, h5436, h5439, h5442, h5447, h5449, h5452, h5454, h5457, h5459]
        repeat with_reducible refine And.intro (by first | kernel_rfl | decide) ?_
        obtain rfl := Option.some.inj h
        exact finC [(6, .v (.int .i64 0)), (7, .v (.int .i64 12))] [(6, .v (.int .i64 0)), (7, .v (.int .i64 12))] (by simp [leE, lk_cons]) (.cons _ _ _ _ _ (.v _ _ (.refl _)) (.cons _ _ _ _ _ (.v _ _ (.refl _)) .nil)) (by rfl) (by simp [leE, lk_cons]) (by decide) (by decide) rfl (by simp only [go_sem, qa, qb, qc, qd, qe, qf, qg, qh, qi, qj, qk, ↓reduceIte, resQ_tmp, resQ_cell, resQ_nil, retD_one, retD_two, retD_three, retD_none]; try simp [R.val, retD_one, retD_two, retD_three, retD_none])
    · have hh := brn_some h; clear h; rcases hh with ⟨h5640, h⟩ | ⟨h5640, h⟩
      · refine W_sound tab_ok mixed 52 _ _ _ ?_
        simp -implicitDefEqProofs only [go_sem, qa, qb, qc, qd, qe, qf, qg, qh, qi, qj, qk, ↓reduceIte, h5436, h5439, h5442, h5447, h5449, h5452, h5454, h5640]
        repeat with_reducible refine And.intro (by first | kernel_rfl | decide) ?_
        obtain rfl := Option.some.inj h
        exact finC [(6, .v (.int .i64 0)), (7, .v (.int .i64 x5453))] [(6, .v (.int .i64 0)), (7, .v (.int .i64 x5453))] (by simp [leE, lk_cons]) (.cons _ _ _ _ _ (.v _ _ (.refl _)) (.cons _ _ _ _ _ (.v _ _ (.refl _)) .nil)) (by rfl) (by simp [leE, lk_cons]) (by decide) (by decide) rfl (by simp only [go_sem, qa, qb, qc, qd, qe, qf, qg, qh, qi, qj, qk, ↓reduceIte, resQ_tmp, resQ_cell, resQ_nil, retD_one, retD_two, retD_three, retD_none]; try simp [R.val, retD_one, retD_two, retD_three, retD_none])
      · refine W_sound tab_ok mixed 50 _ _ _ ?_
        simp -implicitDefEqProofs only [go_sem, qa, qb, qc, qd, qe, qf, qg, qh, qi, qj, qk, ↓reduceIte, h5436, h5439, h5442, h5447, h5449, h5452, h5454, h5640]
        repeat with_reducible refine And.intro (by first | kernel_rfl | decide) ?_
        have hh := bnd'_some h; clear h; obtain ⟨o5960, h5961, h5962⟩ := hh
        refine Wp_cut (fun s => (.inr ()) = o5960 ∧ s = ⟨[], [(0, .dead), (1, .dead), (2, .dead), (3, .dead), (6, .dead), (7, .dead), (8, .dead), (9, .dead), (10, .dead), (11, .dead), (16, .dead), (33, .dead), (42, .dead), (44, .dead), (49, .dead), (56, .dead), (69, .dead), (85, .dead)], [], 0, []⟩) ?_ ?_
        · refine Wp_block ?_
          refine Wp_loopG (fun n s => ∃ x5718, ∃ p5719, m35_L2 N p5437 n5440 c5441 n5443 c5444 n x5718 p5719 = some o5960 ∧ s = ⟨[], [(0, .dead), (1, .v (.lst false n5440 c5441)), (2, .v (.lst false n5443 c5444)), (3, .ptr 0 0), (6, .dead), (7, .dead), (8, .dead), (9, .v (.int .i64 x5718)), (10, .dead), (11, .dead), (16, .dead), (33, .dead), (42, .dead), (44, .dead), (49, .dead), (56, .dead), (69, .dead), (85, .dead)], [(0, .p [p5437, p5719])], 1, []⟩) N _ ((Wk_le (.k (.r (.r (.r (.k (.k (.k (.r (.r (.r (.k (.k (.k (.k (.r (.r (.r (.r .nil)))))))))))))))))) (OLe.refl _)).trans (cmpS_ok (st' := ⟨[], [(0, .dead), (1, .v (.lst false n5440 c5441)), (2, .v (.lst false n5443 c5444)), (3, .ptr 0 0), (6, .dead), (7, .dead), (8, .dead), (9, .v (.int .i64 0)), (10, .dead), (11, .dead), (16, .dead), (33, .dead), (42, .dead), (44, .dead), (49, .dead), (56, .dead), (69, .dead), (85, .dead)], [(0, .p [p5437, p5438])], 1, []⟩) (by kernel_rfl))) ⟨_, _, h5961, rfl⟩ ?_
          clear h5961
          rintro n _ ⟨x5718, p5719, h5961, rfl⟩
          cases n with
          | zero => cases h5961
          | succ n =>
            rw [m35_L2] at h5961
            have hh := brn_some h5961; clear h5961; rcases hh with ⟨h5720, h5961⟩ | ⟨h5720, h5961⟩
            · refine W_sound tab_ok mixed 21 _ _ _ ?_
              simp -implicitDefEqProofs only [go_sem, qa, qb, qc, qd, qe, qf, qg, qh, qi, qj, qk, ↓reduceIte, h5436, h5439, h5442, h5447, h5449, h5452, h5454, h5640, h5720]
              repeat with_reducible refine And.intro (by first | kernel_rfl | decide) ?_
              refine Wp_weaken (Wk_ownS 10 1 rfl (by decide) (by decide)) ?_
              simp -implicitDefEqProofs only [go_sem, qa, qb, qc, qd, qe, qf, qg, qh, qi, qj, qk, ↓reduceIte, h5436, h5439, h5442, h5447, h5449, h5452, h5454, h5640, h5720]
              have hh := bnd'_some h5961; clear h5961; obtain ⟨o5963, h5964, h5965⟩ := hh
              refine Wp_cut (fun s => ∃ n5777, ∃ p5778, ∃ c5779, (n5777, p5778, c5779) = o5963 ∧ s = ⟨[], [(0, .dead), (1, .v (.lst false n5440 c5441)), (2, .v (.lst false n5443 c5444)), (3, .ptr 0 0), (6, .dead), (7, .dead), (8, .dead), (9, .v (.int .i64 x5718)), (10, .sl false 1 0 n5777 1), (11, .dead), (16, .dead), (33, .dead), (42, .dead), (44, .dead), (49, .dead), (56, .dead), (69, .dead), (85, .dead)], [(0, .p [p5437, p5778]), (1, .p c5779)], 2, []⟩) ?_ ?_
              · refine Wp_block ?_
                refine Wp_loopG (fun n s => ∃ n5754, ∃ x5755, ∃ p5756, ∃ c5757, m35_L3 N p5437 n5440 c5441 n5443 c5444 x5718 n n5754 x5755 p5756 c5757 = some o5963 ∧ s = ⟨[], [(0, .dead), (1, .v (.lst false n5440 c5441)), (2, .v (.lst false n5443 c5444)), (3, .ptr 0 0), (6, .dead), (7, .dead), (8, .dead), (9, .v (.int .i64 x5718)), (10, .sl false 1 0 n5754 1), (11, .v (.int .i64 x5755)), (16, .dead), (33, .dead), (42, .dead), (44, .dead), (49, .dead), (56, .dead), (69, .dead), (85, .dead)], [(0, .p [p5437, p5756]), (1, .p c5757)], 2, []⟩) N _ ((Wk_le (.r (.r (.r (.r (.r (.r (.r (.r (.r (.r (.r (.r (.r (.r (.k (.r (.r (.r .nil)))))))))))))))))) (OLe.refl _)).trans (cmpS_ok (st' := ⟨[], [(0, .dead), (1, .v (.lst false n5440 c5441)), (2, .v (.lst false n5443 c5444)), (3, .ptr 0 0), (6, .dead), (7, .dead), (8, .dead), (9, .v (.int .i64 x5718)), (10, .sl false 1 0 0 1), (11, .v (.int .i64 0)), (16, .dead), (33, .dead), (42, .dead), (44, .dead), (49, .dead), (56, .dead), (69, .dead), (85, .dead)], [(0, .p [p5437, p5719]), (1, .p [])], 2, []⟩) (by kernel_rfl))) ⟨_, _, _, _, h5964, rfl⟩ ?_
                clear h5964
                rintro n _ ⟨n5754, x5755, p5756, c5757, h5964, rfl⟩
                cases n with
                | zero => cases h5964
                | succ n =>
                  rw [m35_L3] at h5964
                  have hh := getL_some h5964; clear h5964; obtain ⟨n5759, c5760, h5758, h5964⟩ := hh
                  have hh := brn_some h5964; clear h5964; rcases hh with ⟨h5761, h5964⟩ | ⟨h5761, h5964⟩
                  · have hh := bnd'_some h5964; clear h5964; obtain ⟨p5762, h5763, h5964⟩ := hh
                    refine W_sound tab_ok mixed 17 _ _ _ ?_
                    simp -implicitDefEqProofs only [go_sem, qa, qb, qc, qd, qe, qf, qg, qh, qi, qj, qk, ↓reduceIte, h5436, h5439, h5442, h5447, h5449, h5452, h5454, h5640, h5720, h5758, h5761]
                    repeat with_reducible refine And.intro (by first | kernel_rfl | decide) ?_
                    refine Wp_callP (c85_3 N _ _ _ h5763) (by kernel_rfl) rfl rfl rfl rfl (by decide) ?_
                    have hh := getB_some h5964; clear h5964; obtain ⟨b5765, h5764, h5964⟩ := hh
                    have hh := brn_some h5964; clear h5964; rcases hh with ⟨h5766, h5964⟩ | ⟨h5766, h5964⟩
                    · have hh := grd_some h5964; clear h5964; obtain ⟨g5767, h5964⟩ := hh
                      have hh := grd_some h5964; clear h5964; obtain ⟨g5768, h5964⟩ := hh
                      refine W_sound tab_ok mixed 23 _ _ _ ?_
                      simp -implicitDefEqProofs only [go_sem, qa, qb, qc, qd, qe, qf, qg, qh, qi, qj, qk, ↓reduceIte, h5436, h5439, h5442, h5447, h5449, h5452, h5454, h5640, h5720, h5758, h5761, h5764, h5766, g5767, g5768]
                      repeat with_reducible refine And.intro (by first | kernel_rfl | decide) ?_
                      exact cutQ _ ((Wk_le (.r (.r (.r (.r (.r (.r (.r (.r (.r (.r (.r (.r (.r (.r (.r (.k (.k (.r .nil)))))))))))))))))) (OLe.refl _)).trans (cmpS_ok (st' := ⟨[], [(0, .dead), (1, .v (.lst false n5440 c5441)), (2, .v (.lst false n5443 c5444)), (3, .ptr 0 0), (6, .dead), (7, .dead), (8, .dead), (9, .v (.int .i64 x5718)), (10, .sl false 1 0 (n5754 + 1) 1), (11, .v (.int .i64 (IntKind.i64.wrap (x5755 + 1)))), (16, .dead), (33, .dead), (42, .dead), (44, .dead), (49, .dead), (56, .dead), (69, .dead), (85, .dead)], [(0, .p [p5437, (.lst false n5759 c5760)]), (1, .p (c5757 ++ [(.int .i64 x5755)]))], 2, []⟩) (by kernel_rfl))) ⟨n, Nat.lt_succ_self n, _, _, _, _, h5964, rfl⟩
                    · have hh := grd_some h5964; clear h5964; obtain ⟨⟨g5769, g5770⟩, h5964⟩ := hh
                      have hh := grd_some h5964; clear h5964; obtain ⟨g5771, h5964⟩ := hh
                      have hh := getI_some h5964; clear h5964; obtain ⟨x5773, h5772, h5964⟩ := hh
                      have hh := brn_some h5964; clear h5964; rcases hh with ⟨h5774, h5964⟩ | ⟨h5774, h5964⟩
                      · have hh := grd_some h5964; clear h5964; obtain ⟨g5775, h5964⟩ := hh
                        have hh := grd_some h5964; clear h5964; obtain ⟨g5776, h5964⟩ := hh
                        refine W_sound tab_ok mixed 23 _ _ _ ?_
                        simp -implicitDefEqProofs only [go_sem, qa, qb, qc, qd, qe, qf, qg, qh, qi, qj, qk, ↓reduceIte, h5436, h5439, h5442, h5447, h5449, h5452, h5454, h5640, h5720, h5758, h5761, h5764, h5766, g5769, g5770, g5771, h5772, h5774, g5775, g5776]
                        repeat with_reducible refine And.intro (by first | kernel_rfl | decide) ?_
                        exact cutQ _ ((Wk_le (.r (.r (.r (.r (.r (.r (.r (.r (.r (.r (.r (.r (.r (.r (.r (.k (.k (.r .nil)))))))))))))))))) (OLe.refl _)).trans (cmpS_ok (st' := ⟨[], [(0, .dead), (1, .v (.lst false n5440 c5441)), (2, .v (.lst false n5443 c5444)), (3, .ptr 0 0), (6, .dead), (7, .dead), (8, .dead), (9, .v (.int .i64 x5718)), (10, .sl false 1 0 (n5754 + 1) 1), (11, .v (.int .i64 (IntKind.i64.wrap (x5755 + 1)))), (16, .dead), (33, .dead), (42, .dead), (44, .dead), (49, .dead), (56, .dead), (69, .dead), (85, .dead)], [(0, .p [p5437, (.lst false n5759 c5760)]), (1, .p (c5757 ++ [(.int .i64 x5755)]))], 2, []⟩) (by kernel_rfl))) ⟨n, Nat.lt_succ_self n, _, _, _, _, h5964, rfl⟩
                      · refine W_sound tab_ok mixed 17 _ _ _ ?_
                        simp -implicitDefEqProofs only [go_sem, qa, qb, qc, qd, qe, qf, qg, qh, qi, qj, qk, ↓reduceIte, h5436, h5439, h5442, h5447, h5449, h5452, h5454, h5640, h5720, h5758, h5761, h5764, h5766, g5769, g5770, g5771, h5772, h5774]
                        repeat with_reducible refine And.intro (by first | kernel_rfl | decide) ?_
                        exact cutQ _ ((Wk_le (.r (.r (.r (.r (.r (.r (.r (.r (.r (.r (.r (.r (.r (.r (.r (.k (.k (.r .nil)))))))))))))))))) (OLe.refl _)).trans (cmpS_ok (st' := ⟨[], [(0, .dead), (1, .v (.lst false n5440 c5441)), (2, .v (.lst false n5443 c5444)), (3, .ptr 0 0), (6, .dead), (7, .dead), (8, .dead), (9, .v (.int .i64 x5718)), (10, .sl false 1 0 n5754 1), (11, .v (.int .i64 (IntKind.i64.wrap (x5755 + 1)))), (16, .dead), (33, .dead), (42, .dead), (44, .dead), (49, .dead), (56, .dead), (69, .dead), (85, .dead)], [(0, .p [p5437, (.lst false n5759 c5760)]), (1, .p c5757)], 2, []⟩) (by kernel_rfl))) ⟨n, Nat.lt_succ_self n, _, _, _, _, h5964, rfl⟩
                  · refine W_sound tab_ok mixed 11 _ _ _ ?_
                    simp -implicitDefEqProofs only [go_sem, qa, qb, qc, qd, qe, qf, qg, qh, qi, qj, qk, ↓reduceIte, h5436, h5439, h5442, h5447, h5449, h5452, h5454, h5640, h5720, h5758, h5761]
                    repeat with_reducible refine And.intro (by first | kernel_rfl | decide) ?_
                    obtain rfl := Option.some.inj h5964
                    exact cutQ _ ((Wk_le (.r (.r (.r (.r (.r (.r (.r (.r (.r (.k (.r (.r (.r (.r (.r (.k (.r (.r .nil)))))))))))))))))) (OLe.refl _)).trans (cmpS_ok (st' := ⟨[], [(0, .dead), (1, .v (.lst false n5440 c5441)), (2, .v (.lst false n5443 c5444)), (3, .ptr 0 0), (6, .dead), (7, .dead), (8, .dead), (9, .v (.int .i64 x5718)), (10, .sl false 1 0 n5754 1), (11, .dead), (16, .dead), (33, .dead), (42, .dead), (44, .dead), (49, .dead), (56, .dead), (69, .dead), (85, .dead)], [(0, .p [p5437, (.lst false n5759 c5760)]), (1, .p c5757)], 2, []⟩) (by kernel_rfl))) ⟨_, _, _, rfl, rfl⟩
              · rintro _ ⟨n5777, p5778, c5779, rfl, rfl⟩
                (try dsimp only at h5965)
                refine W_sound tab_ok mixed 1 _ _ _ ?_
                simp -implicitDefEqProofs only [go_sem, qa, qb, qc, qd, qe, qf, qg, qh, qi, qj, qk, ↓reduceIte, h5436, h5439, h5442, h5447, h5449, h5452, h5454, h5640, h5720]
                repeat with_reducible refine And.intro (by first | kernel_rfl | decide) ?_
                have hh := grd_some h5965; clear h5965; obtain ⟨g5780, h5965⟩ := hh
                refine Wp_wkK (Wk_freeze 1 c5779 (by rfl) (by decide) (by decide)) rfl ?_
                simp -implicitDefEqProofs only [go_sem, qa, qb, qc, qd, qe, qf, qg, qh, qi, qj, qk, ↓reduceIte, h5436, h5439, h5442, h5447, h5449, h5452, h5454, h5640, h5720, g5780]
                have hh := grd_some h5965; clear h5965; obtain ⟨⟨g5781, g5782⟩, h5965⟩ := hh
                have hh := grd_some h5965; clear h5965; obtain ⟨g5783, h5965⟩ := hh
                have hh := getI_some h5965; clear h5965; obtain ⟨x5785, h5784, h5965⟩ := hh
                have hh := bnd'_some h5965; clear h5965; obtain ⟨p5786, h5787, h5965⟩ := hh
                refine W_sound tab_ok mixed 6 _ _ _ ?_
                simp -implicitDefEqProofs only [go_sem, qa, qb, qc, qd, qe, qf, qg, qh, qi, qj, qk, ↓reduceIte, h5436, h5439, h5442, h5447, h5449, h5452, h5454, h5640, h5720, g5780, g5781, g5782, g5783, h5784]
                repeat with_reducible refine And.intro (by first | kernel_rfl | decide) ?_
                refine Wp_callP (c85_3 N _ _ _ h5787) (by kernel_rfl) rfl rfl rfl rfl (by decide) ?_
                have hh := getB_some h5965; clear h5965; obtain ⟨b5789, h5788, h5965⟩ := hh
                have hh := brn_some h5965; clear h5965; rcases hh with ⟨h5790, h5965⟩ | ⟨h5790, h5965⟩
                · refine W_sound tab_ok mixed 15 _ _ _ ?_
                  simp -implicitDefEqProofs only [go_sem, qa, qb, qc, qd, qe, qf, qg, qh, qi, qj, qk, ↓reduceIte, h5436, h5439, h5442, h5447, h5449, h5452, h5454, h5640, h5720, g5780, g5781, g5782, g5783, h5784, h5788, h5790]
                  repeat with_reducible refine And.intro (by first | kernel_rfl | decide) ?_
                  exact cutQ _ ((Wk_le (.r (.r (.r (.r (.r (.r (.r (.r (.k (.r (.r (.r (.r (.r (.r (.r (.r (.k .nil)))))))))))))))))) (OLe.refl _)).trans (cmpS_ok (st' := ⟨[], [(0, .dead), (1, .v (.lst false n5440 c5441)), (2, .v (.lst false n5443 c5444)), (3, .ptr 0 0), (6, .dead), (7, .dead), (8, .dead), (9, .v (.int .i64 (IntKind.i64.wrap (x5718 + 1)))), (10, .dead), (11, .dead), (16, .dead), (33, .dead), (42, .dead), (44, .dead), (49, .dead), (56, .dead), (69, .dead), (85, .dead)], [(0, .p [p5437, p5778])], 1, []⟩) (by kernel_rfl))) ⟨n, Nat.lt_succ_self n, _, _, h5965, rfl⟩
                · have hh := bnd'_some h5965; clear h5965; obtain ⟨p5791, h5792, h5965⟩ := hh
                  refine W_sound tab_ok mixed 4 _ _ _ ?_
                  simp -implicitDefEqProofs only [go_sem, qa, qb, qc, qd, qe, qf, qg, qh, qi, qj, qk, ↓reduceIte, h5436, h5439, h5442, h5447, h5449, h5452, h5454, h5640, h5720, g5780, g5781, g5782, g5783, h5784, h5788, h5790]
                  repeat with_reducible refine And.intro (by first | kernel_rfl | decide) ?_
                  refine Wp_callP (c83 N _ _ _ h5792) (by kernel_rfl) rfl rfl rfl rfl (by decide) ?_
                  have hh := getB_some h5965; clear h5965; obtain ⟨b5794, h5793, h5965⟩ := hh
                  have hh := brn_some h5965; clear h5965; rcases hh with ⟨h5795, h5965⟩ | ⟨h5795, h5965⟩
                  · refine W_sound tab_ok mixed 14 _ _ _ ?_
                    simp -implicitDefEqProofs only [go_sem, qa, qb, qc, qd, qe, qf, qg, qh, qi, qj, qk, ↓reduceIte, h5436, h5439, h5442, h5447, h5449, h5452, h5454, h5640, h5720, g5780, g5781, g5782, g5783, h5784, h5788, h5790, h5793, h5795]
                    repeat with_reducible refine And.intro (by first | kernel_rfl | decide) ?_
                    obtain rfl := Option.some.inj h5965
                    (try dsimp only at h5962)
                    obtain rfl := Option.some.inj h5962
                    exact finC [(6, .v (.int .i64 x5785)), (7, .v (.int .i64 0))] [(6, .v (.int .i64 x5785)), (7, .v (.int .i64 0))] (by simp [leE, lk_cons]) (.cons _ _ _ _ _ (.v _ _ (.refl _)) (.cons _ _ _ _ _ (.v _ _ (.refl _)) .nil)) (by rfl) (by simp [leE, lk_cons]) (by decide) (by decide) rfl (by simp only [go_sem, qa, qb, qc, qd, qe, qf, qg, qh, qi, qj, qk, ↓reduceIte, resQ_tmp, resQ_cell, resQ_nil, retD_one, retD_two, retD_three, retD_none]; try simp [R.val, retD_one, retD_two, retD_three, retD_none])
                  · refine W_sound tab_ok mixed 10 _ _ _ ?_
                    simp -implicitDefEqProofs only [go_sem, qa, qb, qc, qd, qe, qf, qg, qh, qi, qj, qk, ↓reduceIte, h5436, h5439, h5442, h5447, h5449, h5452, h5454, h5640, h5720, g5780, g5781, g5782, g5783, h5784, h5788, h5790, h5793, h5795]
                    repeat with_reducible refine And.intro (by first | kernel_rfl | decide) ?_
                    exact cutQ _ ((Wk_le (.r (.r (.r (.r (.r (.r (.r (.r (.k (.r (.r (.r (.r (.r (.r (.r (.r (.k .nil)))))))))))))))))) (OLe.refl _)).trans (cmpS_ok (st' := ⟨[], [(0, .dead), (1, .v (.lst false n5440 c5441)), (2, .v (.lst false n5443 c5444)), (3, .ptr 0 0), (6, .dead), (7, .dead), (8, .dead), (9, .v (.int .i64 (IntKind.i64.wrap (x5718 + 1)))), (10, .dead), (11, .dead), (16, .dead), (33, .dead), (42, .dead), (44, .dead), (49, .dead), (56, .dead), (69, .dead), (85, .dead)], [(0, .p [p5437, p5778])], 1, []⟩) (by kernel_rfl))) ⟨n, Nat.lt_succ_self n, _, _, h5965, rfl⟩
            · refine W_sound tab_ok mixed 10 _ _ _ ?_
              simp -implicitDefEqProofs only [go_sem, qa, qb, qc, qd, qe, qf, qg, qh, qi, qj, qk, ↓reduceIte, h5436, h5439, h5442, h5447, h5449, h5452, h5454, h5640, h5720]
              repeat with_reducible refine And.intro (by first | kernel_rfl | decide) ?_
              obtain rfl := Option.some.inj h5961
              exact cutQ _ ((Wk_le (.r (.k (.k (.k (.r (.r (.r (.k (.r (.r (.r (.r (.r (.r (.k (.r (.r (.r .nil)))))))))))))))))) (OLe.refl _)).trans (cmpS_ok (st' := ⟨[], [(0, .dead), (1, .dead), (2, .dead), (3, .dead), (6, .dead), (7, .dead), (8, .dead), (9, .dead), (10, .dead), (11, .dead), (16, .dead), (33, .dead), (42, .dead), (44, .dead), (49, .dead), (56, .dead), (69, .dead), (85, .dead)], [], 0, []⟩) (by kernel_rfl))) ⟨rfl, rfl⟩
        · rintro _ ⟨rfl, rfl⟩
          (try dsimp only at h5962)
          refine W_sound tab_ok mixed 7 _ _ _ ?_
          simp -implicitDefEqProofs only [go_sem, qa, qb, qc, qd, qe, qf, qg, qh, qi, qj, qk, ↓reduceIte, h5436, h5439, h5442, h5447, h5449, h5452, h5454, h5640]
          repeat with_reducible refine And.intro (by first | kernel_rfl | decide) ?_
          obtain rfl := Option.some.inj h5962
          exact finC [(6, .v (.int .i64 0)), (7, .v (.int .i64 14))] [(6, .v (.int .i64 0)), (7, .v (.int .i64 14))] (by simp [leE, lk_cons]) (.cons _ _ _ _ _ (.v _ _ (.refl _)) (.cons _ _ _ _ _ (.v _ _ (.refl _)) .nil)) (by rfl) (by simp [leE, lk_cons]) (by decide) (by decide) rfl (by simp only [go_sem, qa, qb, qc, qd, qe, qf, qg, qh, qi, qj, qk, ↓reduceIte, resQ_tmp, resQ_cell, resQ_nil, retD_one, retD_two, retD_three, retD_none]; try simp [R.val, retD_one, retD_two, retD_three, retD_none])
  · have hh := brn_some h; clear h; rcases hh with ⟨h5797, h⟩ | ⟨h5797, h⟩
    · refine W_sound tab_ok mixed 60 _ _ _ ?_
      simp -implicitDefEqProofs only [go_sem, qa, qb, qc, qd, qe, qf, qg, qh, qi, qj, qk, ↓reduceIte, h5436, h5439, h5442, h5447, h5449, h5797]
      repeat with_reducible refine And.intro (by first | kernel_rfl | decide) ?_
      obtain rfl := Option.some.inj h
      exact finC [(6, .v (.int .i64 0)), (7, .v (.int .i64 x5448))] [(6, .v (.int .i64 0)), (7, .v (.int .i64 x5448))] (by simp [leE, lk_cons]) (.cons _ _ _ _ _ (.v _ _ (.refl _)) (.cons _ _ _ _ _ (.v _ _ (.refl _)) .nil)) (by rfl) (by simp [leE, lk_cons]) (by decide) (by decide) rfl (by simp only [go_sem, qa, qb, qc, qd, qe, qf, qg, qh, qi, qj, qk, ↓reduceIte, resQ_tmp, resQ_cell, resQ_nil, retD_one, retD_two, retD_three, retD_none]; try simp [R.val, retD_one, retD_two, retD_three, retD_none])
    · refine W_sound tab_ok mixed 58 _ _ _ ?_
      simp -implicitDefEqProofs only [go_sem, qa, qb, qc, qd, qe, qf, qg, qh, qi, qj, qk, ↓reduceIte, h5436, h5439, h5442, h5447, h5449, h5797]
      repeat with_reducible refine And.intro (by first | kernel_rfl | decide) ?_
      have hh := bnd'_some h; clear h; obtain ⟨o5966, h5967, h5968⟩ := hh
      refine Wp_cut (fun s => (.inr ()) = o5966 ∧ s = ⟨[], [(0, .dead), (1, .dead), (2, .dead), (3, .dead), (6, .dead), (7, .dead), (8, .dead), (9, .dead), (10, .dead), (11, .dead), (16, .dead), (33, .dead), (42, .dead), (44, .dead), (49, .dead), (56, .dead), (69, .dead), (85, .dead)], [], 0, []⟩) ?_ ?_
      · refine Wp_block ?_
        refine Wp_loopG (fun n s => ∃ x5875, ∃ p5876, m35_L4 N p5437 n5440 c5441 n5443 c5444 n x5875 p5876 = some o5966 ∧ s = ⟨[], [(0, .dead), (1, .v (.lst false n5440 c5441)), (2, .v (.lst false n5443 c5444)), (3, .ptr 0 0), (6, .dead), (7, .dead), (8, .dead), (9, .v (.int .i64 x5875)), (10, .dead), (11, .dead), (16, .dead), (33, .dead), (42, .dead), (44, .dead), (49, .dead), (56, .dead), (69, .dead), (85, .dead)], [(0, .p [p5437, p5876])], 1, []⟩) N _ ((Wk_le (.k (.r (.r (.r (.k (.k (.k (.r (.r (.r (.k (.k (.k (.k (.r (.r (.r (.r .nil)))))))))))))))))) (OLe.refl _)).trans (cmpS_ok (st' := ⟨[], [(0, .dead), (1, .v (.lst false n5440 c5441)), (2, .v (.lst false n5443 c5444)), (3, .ptr 0 0), (6, .dead), (7, .dead), (8, .dead), (9, .v (.int .i64 0)), (10, .dead), (11, .dead), (16, .dead), (33, .dead), (42, .dead), (44, .dead), (49, .dead), (56, .dead), (69, .dead), (85, .dead)], [(0, .p [p5437, p5438])], 1, []⟩) (by kernel_rfl))) ⟨_, _, h5967, rfl⟩ ?_
        clear h5967
        rintro n _ ⟨x5875, p5876, h5967, rfl⟩
        cases n with
        | zero => cases h5967
        | succ n =>
          rw [m35_L4] at h5967
          have hh := brn_some h5967; clear h5967; rcases hh with ⟨h5877, h5967⟩ | ⟨h5877, h5967⟩
          · refine W_sound tab_ok mixed 21 _ _ _ ?_
            simp -implicitDefEqProofs only [go_sem, qa, qb, qc, qd, qe, qf, qg, qh, qi, qj, qk, ↓reduceIte, h5436, h5439, h5442, h5447, h5449, h5797, h5877]
            repeat with_reducible refine And.intro (by first | kernel_rfl | decide) ?_
            refine Wp_weaken (Wk_ownS 10 1 rfl (by decide) (by decide)) ?_
            simp -implicitDefEqProofs only [go_sem, qa, qb, qc, qd, qe, qf, qg, qh, qi, qj, qk, ↓reduceIte, h5436, h5439, h5442, h5447, h5449, h5797, h5877]
            have hh := bnd'_some h5967; clear h5967; obtain ⟨o5969, h5970, h5971⟩ := hh
            refine Wp_cut (fun s => ∃ n5934, ∃ p5935, ∃ c5936, (n5934, p5935, c5936) = o5969 ∧ s = ⟨[], [(0, .dead), (1, .v (.lst false n5440 c5441)), (2, .v (.lst false n5443 c5444)), (3, .ptr 0 0), (6, .dead), (7, .dead), (8, .dead), (9, .v (.int .i64 x5875)), (10, .sl false 1 0 n5934 1), (11, .dead), (16, .dead), (33, .dead), (42, .dead), (44, .dead), (49, .dead), (56, .dead), (69, .dead), (85, .dead)], [(0, .p [p5437, p5935]), (1, .p c5936)], 2, []⟩) ?_ ?_
            · refine Wp_block ?_
              refine Wp_loopG (fun n s => ∃ n5911, ∃ x5912, ∃ p5913, ∃ c5914, m35_L5 N p5437 n5440 c5441 n5443 c5444 x5875 n n5911 x5912 p5913 c5914 = some o5969 ∧ s = ⟨[], [(0, .dead), (1, .v (.lst false n5440 c5441)), (2, .v (.lst false n5443 c5444)), (3, .ptr 0 0), (6, .dead), (7, .dead), (8, .dead), (9, .v (.int .i64 x5875)), (10, .sl false 1 0 n5911 1), (11, .v (.int .i64 x5912)), (16, .dead), (33, .dead), (42, .dead), (44, .dead), (49, .dead), (56, .dead), (69, .dead), (85, .dead)], [(0, .p [p5437, p5913]), (1, .p c5914)], 2, []⟩) N _ ((Wk_le (.r (.r (.r (.r (.r (.r (.r (.r (.r (.r (.r (.r (.r (.r (.k (.r (.r (.r .nil)))))))))))))))))) (OLe.refl _)).trans (cmpS_ok (st' := ⟨[], [(0, .dead), (1, .v (.lst false n5440 c5441)), (2, .v (.lst false n5443 c5444)), (3, .ptr 0 0), (6, .dead), (7, .dead), (8, .dead), (9, .v (.int .i64 x5875)), (10, .sl false 1 0 0 1), (11, .v (.int .i64 0)), (16, .dead), (33, .dead), (42, .dead), (44, .dead), (49, .dead), (56, .dead), (69, .dead), (85, .dead)], [(0, .p [p5437, p5876]), (1, .p [])], 2, []⟩) (by kernel_rfl))) ⟨_, _, _, _, h5970, rfl⟩ ?_
              clear h5970
              rintro n _ ⟨n5911, x5912, p5913, c5914, h5970, rfl⟩
              cases n with
              | zero => cases h5970
              | succ n =>
                rw [m35_L5] at h5970
                have hh := getL_some h5970; clear h5970; obtain ⟨n5916, c5917, h5915, h5970⟩ := hh
                have hh := brn_some h5970; clear h5970; rcases hh with ⟨h5918, h5970⟩ | ⟨h5918, h5970⟩
                · have hh := bnd'_some h5970; clear h5970; obtain ⟨p5919, h5920, h5970⟩ := hh
                  refine W_sound tab_ok mixed 17 _ _ _ ?_
                  simp -implicitDefEqProofs only [go_sem, qa, qb, qc, qd, qe, qf, qg, qh, qi, qj, qk, ↓reduceIte, h5436, h5439, h5442, h5447, h5449, h5797, h5877, h5915, h5918]
                  repeat with_reducible refine And.intro (by first | kernel_rfl | decide) ?_
                  refine Wp_callP (c85_3 N _ _ _ h5920) (by kernel_rfl) rfl rfl rfl rfl (by decide) ?_
                  have hh := getB_some h5970; clear h5970; obtain ⟨b5922, h5921, h5970⟩ := hh
                  have hh := brn_some h5970; clear h5970; rcases hh with ⟨h5923, h5970⟩ | ⟨h5923, h5970⟩
                  · have hh := grd_some h5970; clear h5970; obtain ⟨g5924, h5970⟩ := hh
                    have hh := grd_some h5970; clear h5970; obtain ⟨g5925, h5970⟩ := hh
                    refine W_sound tab_ok mixed 23 _ _ _ ?_
                    simp -implicitDefEqProofs only [go_sem, qa, qb, qc, qd, qe, qf, qg, qh, qi, qj, qk, ↓reduceIte, h5436, h5439, h5442, h5447, h5449, h5797, h5877, h5915, h5918, h5921, h5923, g5924, g5925]
                    repeat with_reducible refine And.intro (by first | kernel_rfl | decide) ?_
                    exact cutQ _ ((Wk_le (.r (.r (.r (.r (.r (.r (.r (.r (.r (.r (.r (.r (.r (.r (.r (.k (.k (.r .nil)))))))))))))))))) (OLe.refl _)).trans (cmpS_ok (st' := ⟨[], [(0, .dead), (1, .v (.lst false n5440 c5441)), (2, .v (.lst false n5443 c5444)), (3, .ptr 0 0), (6, .dead), (7, .dead), (8, .dead), (9, .v (.int .i64 x5875)), (10, .sl false 1 0 (n5911 + 1) 1), (11, .v (.int .i64 (IntKind.i64.wrap (x5912 + 1)))), (16, .dead), (33, .dead), (42, .dead), (44, .dead), (49, .dead), (56, .dead), (69, .dead), (85, .dead)], [(0, .p [p5437, (.lst false n5916 c5917)]), (1, .p (c5914 ++ [(.int .i64 x5912)]))], 2, []⟩) (by kernel_rfl))) ⟨n, Nat.lt_succ_self n, _, _, _, _, h5970, rfl⟩
                  · have hh := grd_some h5970; clear h5970; obtain ⟨⟨g5926, g5927⟩, h5970⟩ := hh
                    have hh := grd_some h5970; clear h5970; obtain ⟨g5928, h5970⟩ := hh
                    have hh := getI_some h5970; clear h5970; obtain ⟨x5930, h5929, h5970⟩ := hh
                    have hh := brn_some h5970; clear h5970; rcases hh with ⟨h5931, h5970⟩ | ⟨h5931, h5970⟩
                    · have hh := grd_some h5970; clear h5970; obtain ⟨g5932, h5970⟩ := hh
                      have hh := grd_some h5970; clear h5970; obtain ⟨g5933, h5970⟩ := hh
                      refine W_sound tab_ok mixed 23 _ _ _ ?_
                      simp -implicitDefEqProofs only [go_sem, qa, qb, qc, qd, qe, qf, qg, qh, qi, qj, qk, ↓reduceIte, h5436, h5439, h5442, h5447, h5449, h5797, h5877, h5915, h5918, h5921, h5923, g5926, g5927, g5928, h5929, h5931, g5932, g5933]
                      repeat with_reducible refine And.intro (by first | kernel_rfl | decide) ?_
                      exact cutQ _ ((Wk_le (.r (.r (.r (.r (.r (.r (.r (.r (.r (.r (.r (.r (.r (.r (.r (.k (.k (.r .nil)))))))))))))))))) (OLe.refl _)).trans (cmpS_ok (st' := ⟨[], [(0, .dead), (1, .v (.lst false n5440 c5441)), (2, .v (.lst false n5443 c5444)), (3, .ptr 0 0), (6, .dead), (7, .dead), (8, .dead), (9, .v (.int .i64 x5875)), (10, .sl false 1 0 (n5911 + 1) 1), (11, .v (.int .i64 (IntKind.i64.wrap (x5912 + 1)))), (16, .dead), (33, .dead), (42, .dead), (44, .dead), (49, .dead), (56, .dead), (69, .dead), (85, .dead)], [(0, .p [p5437, (.lst false n5916 c5917)]), (1, .p (c5914 ++ [(.int .i64 x5912)]))], 2, []⟩) (by kernel_rfl))) ⟨n, Nat.lt_succ_self n, _, _, _, _, h5970, rfl⟩
                    · refine W_sound tab_ok mixed 17 _ _ _ ?_
                      simp -implicitDefEqProofs only [go_sem, qa, qb, qc, qd, qe, qf, qg, qh, qi, qj, qk, ↓reduceIte, h5436, h5439, h5442, h5447, h5449, h5797, h5877, h5915, h5918, h5921, h5923, g5926, g5927, g5928, h5929, h5931]
                      repeat with_reducible refine And.intro (by first | kernel_rfl | decide) ?_
                      exact cutQ _ ((Wk_le (.r (.r (.r (.r (.r (.r (.r (.r (.r (.r (.r (.r (.r (.r (.r (.k (.k (.r .nil)))))))))))))))))) (OLe.refl _)).trans (cmpS_ok (st' := ⟨[], [(0, .dead), (1, .v (.lst false n5440 c5441)), (2, .v (.lst false n5443 c5444)), (3, .ptr 0 0), (6, .dead), (7, .dead), (8, .dead), (9, .v (.int .i64 x5875)), (10, .sl false 1 0 n5911 1), (11, .v (.int .i64 (IntKind.i64.wrap (x5912 + 1)))), (16, .dead), (33, .dead), (42, .dead), (44, .dead), (49, .dead), (56, .dead), (69, .dead), (85, .dead)], [(0, .p [p5437, (.lst false n5916 c5917)]), (1, .p c5914)], 2, []⟩) (by kernel_rfl))) ⟨n, Nat.lt_succ_self n, _, _, _, _, h5970, rfl⟩
                · refine W_sound tab_ok mixed 11 _ _ _ ?_
                  simp -implicitDefEqProofs only [go_sem, qa, qb, qc, qd, qe, qf, qg, qh, qi, qj, qk, ↓reduceIte, h5436, h5439, h5442, h5447, h5449, h5797, h5877, h5915, h5918]
                  repeat with_reducible refine And.intro (by first | kernel_rfl | decide) ?_
                  obtain rfl := Option.some.inj h5970
                  exact cutQ _ ((Wk_le (.r (.r (.r (.r (.r (.r (.r (.r (.r (.k (.r (.r (.r (.r (.r (.k (.r (.r .nil)))))))))))))))))) (OLe.refl _)).trans (cmpS_ok (st' := ⟨[], [(0, .dead), (1, .v (.lst false n5440 c5441)), (2, .v (.lst false n5443 c5444)), (3, .ptr 0 0), (6, .dead), (7, .dead), (8, .dead), (9, .v (.int .i64 x5875)), (10, .sl false 1 0 n5911 1), (11, .dead), (16, .dead), (33, .dead), (42, .dead), (44, .dead), (49, .dead), (56, .dead), (69, .dead), (85, .dead)], [(0, .p [p5437, (.lst false n5916 c5917)]), (1, .p c5914)], 2, []⟩) (by kernel_rfl))) ⟨_, _, _, rfl, rfl⟩
            · rintro _ ⟨n5934, p5935, c5936, rfl, rfl⟩
              (try dsimp only at h5971)
              refine W_sound tab_ok mixed 1 _ _ _ ?_
              simp -implicitDefEqProofs only [go_sem, qa, qb, qc, qd, qe, qf, qg, qh, qi, qj, qk, ↓reduceIte, h5436, h5439, h5442, h5447, h5449, h5797, h5877]
              repeat with_reducible refine And.intro (by first | kernel_rfl | decide) ?_
              have hh := grd_some h5971; clear h5971; obtain ⟨g5937, h5971⟩ := hh
              refine Wp_wkK (Wk_freeze 1 c5936 (by rfl) (by decide) (by decide)) rfl ?_
              simp -implicitDefEqProofs only [go_sem, qa, qb, qc, qd, qe, qf, qg, qh, qi, qj, qk, ↓reduceIte, h5436, h5439, h5442, h5447, h5449, h5797, h5877, g5937]
              have hh := grd_some h5971; clear h5971; obtain ⟨⟨g5938, g5939⟩, h5971⟩ := hh
              have hh := grd_some h5971; clear h5971; obtain ⟨g5940, h5971⟩ := hh
              have hh := getI_some h5971; clear h5971; obtain ⟨x5942, h5941, h5971⟩ := hh
              have hh := bnd'_some h5971; clear h5971; obtain ⟨p5943, h5944, h5971⟩ := hh
              refine W_sound tab_ok mixed 6 _ _ _ ?_
              simp -implicitDefEqProofs only [go_sem, qa, qb, qc, qd, qe, qf, qg, qh, qi, qj, qk, ↓reduceIte, h5436, h5439, h5442, h5447, h5449, h5797, h5877, g5937, g5938, g5939, g5940, h5941]
              repeat with_reducible refine And.intro (by first | kernel_rfl | decide) ?_
              refine Wp_callP (c85_3 N _ _ _ h5944) (by kernel_rfl) rfl rfl rfl rfl (by decide) ?_
              have hh := getB_some h5971; clear h5971; obtain ⟨b5946, h5945, h5971⟩ := hh
              have hh := brn_some h5971; clear h5971; rcases hh with ⟨h5947, h5971⟩ | ⟨h5947, h5971⟩
              · refine W_sound tab_ok mixed 15 _ _ _ ?_
                simp -implicitDefEqProofs only [go_sem, qa, qb, qc, qd, qe, qf, qg, qh, qi, qj, qk, ↓reduceIte, h5436, h5439, h5442, h5447, h5449, h5797, h5877, g5937, g5938, g5939, g5940, h5941, h5945, h5947]
                repeat with_reducible refine And.intro (by first | kernel_rfl | decide) ?_
                exact cutQ _ ((Wk_le (.r (.r (.r (.r (.r (.r (.r (.r (.k (.r (.r (.r (.r (.r (.r (.r (.r (.k .nil)))))))))))))))))) (OLe.refl _)).trans (cmpS_ok (st' := ⟨[], [(0, .dead), (1, .v (.lst false n5440 c5441)), (2, .v (.lst false n5443 c5444)), (3, .ptr 0 0), (6, .dead), (7, .dead), (8, .dead), (9, .v (.int .i64 (IntKind.i64.wrap (x5875 + 1)))), (10, .dead), (11, .dead), (16, .dead), (33, .dead), (42, .dead), (44, .dead), (49, .dead), (56, .dead), (69, .dead), (85, .dead)], [(0, .p [p5437, p5935])], 1, []⟩) (by kernel_rfl))) ⟨n, Nat.lt_succ_self n, _, _, h5971, rfl⟩
              · have hh := bnd'_some h5971; clear h5971; obtain ⟨p5948, h5949, h5971⟩ := hh
                refine W_sound tab_ok mixed 4 _ _ _ ?_
                simp -implicitDefEqProofs only [go_sem, qa, qb, qc, qd, qe, qf, qg, qh, qi, qj, qk, ↓reduceIte, h5436, h5439, h5442, h5447, h5449, h5797, h5877, g5937, g5938, g5939, g5940, h5941, h5945, h5947]
                repeat with_reducible refine And.intro (by first | kernel_rfl | decide) ?_
                refine Wp_callP (c83 N _ _ _ h5949) (by kernel_rfl) rfl rfl rfl rfl (by decide) ?_
                have hh := getB_some h5971; clear h5971; obtain ⟨b5951, h5950, h5971⟩ := hh
                have hh := brn_some h5971; clear h5971; rcases hh with ⟨h5952, h5971⟩ | ⟨h5952, h5971⟩
                · refine W_sound tab_ok mixed 14 _ _ _ ?_
                  simp -implicitDefEqProofs only [go_sem, qa, qb, qc, qd, qe, qf, qg, qh, qi, qj, qk, ↓reduceIte, h5436, h5439, h5442, h5447, h5449, h5797, h5877, g5937, g5938, g5939, g5940, h5941, h5945, h5947, h5950, h5952]
                  repeat with_reducible refine And.intro (by first | kernel_rfl | decide) ?_
                  obtain rfl := Option.some.inj h5971
                  (try dsimp only at h5968)
                  obtain rfl := Option.some.inj h5968
                  exact finC [(6, .v (.int .i64 x5942)), (7, .v (.int .i64 0))] [(6, .v (.int .i64 x5942)), (7, .v (.int .i64 0))] (by simp [leE, lk_cons]) (.cons _ _ _ _ _ (.v _ _ (.refl _)) (.cons _ _ _ _ _ (.v _ _ (.refl _)) .nil)) (by rfl) (by simp [leE, lk_cons]) (by decide) (by decide) rfl (by simp only [go_sem, qa, qb, qc, qd, qe, qf, qg, qh, qi, qj, qk, ↓reduceIte, resQ_tmp, resQ_cell, resQ_nil, retD_one, retD_two, retD_three, retD_none]; try simp [R.val, retD_one, retD_two, retD_three, retD_none])
                · refine W_sound tab_ok mixed 10 _ _ _ ?_
                  simp -implicitDefEqProofs only [go_sem, qa, qb, qc, qd, qe, qf, qg, qh, qi, qj, qk, ↓reduceIte, h5436, h5439, h5442, h5447, h5449, h5797, h5877, g5937, g5938, g5939, g5940, h5941, h5945, h5947, h5950, h5952]
                  repeat with_reducible refine And.intro (by first | kernel_rfl | decide) ?_
                  exact cutQ _ ((Wk_le (.r (.r (.r (.r (.r (.r (.r (.r (.k (.r (.r (.r (.r (.r (.r (.r (.r (.k .nil)))))))))))))))))) (OLe.refl _)).trans (cmpS_ok (st' := ⟨[], [(0, .dead), (1, .v (.lst false n5440 c5441)), (2, .v (.lst false n5443 c5444)), (3, .ptr 0 0), (6, .dead), (7, .dead), (8, .dead), (9, .v (.int .i64 (IntKind.i64.wrap (x5875 + 1)))), (10, .dead), (11, .dead), (16, .dead), (33, .dead), (42, .dead), (44, .dead), (49, .dead), (56, .dead), (69, .dead), (85, .dead)], [(0, .p [p5437, p5935])], 1, []⟩) (by kernel_rfl))) ⟨n, Nat.lt_succ_self n, _, _, h5971, rfl⟩
          · refine W_sound tab_ok mixed 10 _ _ _ ?_
            simp -implicitDefEqProofs only [go_sem, qa, qb, qc, qd, qe, qf, qg, qh, qi, qj, qk, ↓reduceIte, h5436, h5439, h5442, h5447, h5449, h5797, h5877]
            repeat with_reducible refine And.intro (by first | kernel_rfl | decide) ?_
            obtain rfl := Option.some.inj h5967
            exact cutQ _ ((Wk_le (.r (.k (.k (.k (.r (.r (.r (.k (.r (.r (.r (.r (.r (.r (.k (.r (.r (.r .nil)))))))))))))))))) (OLe.refl _)).trans (cmpS_ok (st' := ⟨[], [(0, .dead), (1, .dead), (2, .dead), (3, .dead), (6, .dead), (7, .dead), (8, .dead), (9, .dead), (10, .dead), (11, .dead), (16, .dead), (33, .dead), (42, .dead), (44, .dead), (49, .dead), (56, .dead), (69, .dead), (85, .dead)], [], 0, []⟩) (by kernel_rfl))) ⟨rfl, rfl⟩
      · rintro _ ⟨rfl, rfl⟩
        (try dsimp only at h5968)
        refine W_sound tab_ok mixed 7 _ _ _ ?_
        simp -implicitDefEqProofs only [go_sem, qa, qb, qc, qd, qe, qf, qg, qh, qi, qj, qk, ↓reduceIte, h5436, h5439, h5442, h5447, h5449, h5797]
        repeat with_reducible refine And.intro (by first | kernel_rfl | decide) ?_
        obtain rfl := Option.some.inj h5968
        exact finC [(6, .v (.int .i64 0)), (7, .v (.int .i64 14))] [(6, .v (.int .i64 0)), (7, .v (.int .i64 14))] (by simp [leE, lk_cons]) (.cons _ _ _ _ _ (.v _ _ (.refl _)) (.cons _ _ _ _ _ (.v _ _ (.refl _)) .nil)) (by rfl) (by simp [leE, lk_cons]) (by decide) (by decide) rfl (by simp only [go_sem, qa, qb, qc, qd, qe, qf, qg, qh, qi, qj, qk, ↓reduceIte, resQ_tmp, resQ_cell, resQ_nil, retD_one, retD_two, retD_three, retD_none]; try simp [R.val, retD_one, retD_two, retD_three, retD_none])

def m5 (N : Nat) (p5143 : PV) (p5144 : PV) (p5145 : PV) : Option (PV) :=
  getA2 p5143 fun p5147 p5148 =>
  getL p5144 fun n5150 c5151 =>
  getL p5145 fun n5153 c5154 =>
  bnd' (m15 N (.agg [p5147, p5148])) fun p5155 =>
  getB p5155 fun b5158 =>
  brn b5158 (
    bnd' (m16 N ) fun p5160 =>
    getB p5160 fun b5163 =>
    some (.bool b5163)) (
    brn (decide (((n5150 : Nat) : Int) > 20)) (
      bnd' (m16 N ) fun p5165 =>
      getB p5165 fun b5168 =>
      some (.bool b5168)) (
      brn (decide (((n5153 : Nat) : Int) > 20)) (
        bnd' (m16 N ) fun p5170 =>
        getB p5170 fun b5173 =>
        some (.bool b5173)) (
        getI .i64 p5147 fun x5175 =>
        bnd' (m30 N (.agg [(.int .i64 x5175), p5148]) (.lst false n5150 c5151)) fun p5193 =>
        getT2 p5193 fun p5196 p5197 =>
        getB p5196 fun b5199 =>
        getI .i64 p5197 fun x5201 =>
        bnd' (m31 N (.agg [(.int .i64 x5175), p5148]) (.lst false n5150 c5151)) fun p5249 =>
        getT2 p5249 fun p5252 p5253 =>
        getB p5252 fun b5255 =>
        getI .i64 p5253 fun x5257 =>
        bnd' (m32 N (.agg [(.int .i64 x5175), p5148])) fun p5258 =>
        getT2 p5258 fun p5261 p5262 =>
        getL p5261 fun n5264 c5265 =>
        getI .i64 p5262 fun x5267 =>
        bnd' (m33 N (.agg [(.int .i64 x5175), p5148])) fun p5308 =>
        getT2 p5308 fun p5311 p5312 =>
        getL p5311 fun n5314 c5315 =>
        getI .i64 p5312 fun x5317 =>
        bnd' (m34 N (.agg [(.int .i64 x5175), p5148]) (.lst false n5150 c5151) (.lst false n5153 c5154)) fun p5424 =>
        getT2 p5424 fun p5427 p5428 =>
        getI .i64 p5427 fun x5430 =>
        getI .i64 p5428 fun x5432 =>
        bnd' (m35 N (.agg [(.int .i64 x5175), p5148]) (.lst false n5150 c5151) (.lst false n5153 c5154)) fun p5972 =>
        getT2 p5972 fun p5975 p5976 =>
        getI .i64 p5975 fun x5978 =>
        getI .i64 p5976 fun x5980 =>
        brn (b5199 == b5255) (
          brn (x5201 == x5257) (
            bnd' (m21 N (.lst false n5264 c5265) (.lst false n5314 c5315)) fun p5983 =>
            getB p5983 fun b5986 =>
            brn b5986 (
              brn (x5267 == x5317) (
                brn (x5430 == x5978) (
                  brn (x5432 == x5980) (
                    bnd' (m16 N ) fun p5991 =>
                    getB p5991 fun b5994 =>
                    some (.bool b5994)) (
                    some (.bool false))) (
                  some (.bool false))) (
                some (.bool false))) (
              some (.bool false))) (
            some (.bool false))) (
          some (.bool false)))))
theorem c5 (N : Nat) (p5143 : PV) (p5144 : PV) (p5145 : PV) (r : PV)  (h : m5 N p5143 p5144 p5145 = some r) : FnP Tryd.prog 5 [p5143, p5144, p5145] r := by
  unfold m5 at h
  refine Fn_of (sz := 101) tab_ok [0, 1, 2, 3, 6, 7, 8, 9, 10, 11, 12, 13, 14, 15, 16, 17, 18, 19, 31] [.tmp 6] Tryd.func5 rfl rfl rfl (by simp) ?_
  simp only [initSt, initEnv, List.map_cons, List.map_nil, List.getD_cons_zero, List.getD_cons_succ, List.getD_nil]
  have hh := getA2_some h; clear h; obtain ⟨p5147, p5148, h5146, h⟩ := hh
  have hh := getL_some h; clear h; obtain ⟨n5150, c5151, h5149, h⟩ := hh
  have hh := getL_some h; clear h; obtain ⟨n5153, c5154, h5152, h⟩ := hh
  have hh := bnd'_some h; clear h; obtain ⟨p5155, h5156, h⟩ := hh
  refine W_sound tab_ok mixed 9 _ _ _ ?_
  simp -implicitDefEqProofs only [go_sem, qa, qb, qc, qd, qe, qf, qg, qh, qi, qj, qk, ↓reduceIte, h5146, h5149, h5152]
  repeat with_reducible refine And.intro (by first | kernel_rfl | decide) ?_
  refine Wp_callP (c15 N _ _ h5156) (by kernel_rfl) rfl rfl rfl rfl (by decide) ?_
  have hh := getB_some h; clear h; obtain ⟨b5158, h5157, h⟩ := hh
  have hh := brn_some h; clear h; rcases hh with ⟨h5159, h⟩ | ⟨h5159, h⟩
  · have hh := bnd'_some h; clear h; obtain ⟨p5160, h5161, h⟩ := hh
    refine W_sound tab_ok mixed 14 _ _ _ ?_
    simp -implicitDefEqProofs only [go_sem, qa, qb, qc, qd, qe, qf, qg, qh, qi, qj, qk, ↓reduceIte, h5146, h5149, h5152, h5157, h5159]
    repeat with_reducible refine And.intro (by first | kernel_rfl | decide) ?_
    refine Wp_callP (c16 N  _ h5161) (by kernel_rfl) rfl rfl rfl rfl (by decide) ?_
    have hh := getB_some h; clear h; obtain ⟨b5163, h5162, h⟩ := hh
    refine W_sound tab_ok mixed 4 _ _ _ ?_
    simp -implicitDefEqProofs only [go_sem, qa, qb, qc, qd, qe, qf, qg, qh, qi, qj, qk, ↓reduceIte, h5146, h5149, h5152, h5157, h5159, h5162]
    repeat with_reducible refine And.intro (by first | kernel_rfl | decide) ?_
    obtain rfl := Option.some.inj h
    exact finC [(6, .v (.bool b5163))] [(6, .v (.bool b5163))] (by simp [leE, lk_cons]) (.cons _ _ _ _ _ (.v _ _ (.refl _)) .nil) (by rfl) (by simp [leE, lk_cons]) (by decide) (by decide) rfl (by simp only [go_sem, qa, qb, qc, qd, qe, qf, qg, qh, qi, qj, qk, ↓reduceIte, resQ_tmp, resQ_cell, resQ_nil, retD_one, retD_two, retD_three, retD_none]; try simp [R.val, retD_one, retD_two, retD_three, retD_none])
  · have hh := brn_some h; clear h; rcases hh with ⟨h5164, h⟩ | ⟨h5164, h⟩
    · have hh := bnd'_some h; clear h; obtain ⟨p5165, h5166, h⟩ := hh
      refine W_sound tab_ok mixed 14 _ _ _ ?_
      simp -implicitDefEqProofs only [go_sem, qa, qb, qc, qd, qe, qf, qg, qh, qi, qj, qk, ↓reduceIte, h5146, h5149, h5152, h5157, h5159, h5164]
      repeat with_reducible refine And.intro (by first | kernel_rfl | decide) ?_
      refine Wp_callP (c16 N  _ h5166) (by kernel_rfl) rfl rfl rfl rfl (by decide) ?_
      have hh := getB_some h; clear h; obtain ⟨b5168, h5167, h⟩ := hh
      refine W_sound tab_ok mixed 4 _ _ _ ?_
      simp -implicitDefEqProofs only [go_sem, qa, qb, qc, qd, qe, qf, qg, qh, qi, qj, qk, ↓reduceIte, h5146, h5149, h5152, h5157, h5159, h5164, h5167]
      repeat with_reducible refine And.intro (by first | kernel_rfl | decide) ?_
      obtain rfl := Option.some.inj h
      exact finC [(6, .v (.bool b5168))] [(6, .v (.bool b5168))] (by simp [leE, lk_cons]) (.cons _ _ _ _ _ (.v _ _ (.refl _)) .nil) (by rfl) (by simp [leE, lk_cons]) (by decide) (by decide) rfl (by simp only [go_sem, qa, qb, qc, qd, qe, qf, qg, qh, qi, qj, qk, ↓reduceIte, resQ_tmp, resQ_cell, resQ_nil, retD_one, retD_two, retD_three, retD_none]; try simp [R.val, retD_one, retD_two, retD_three, retD_none])
    · have hh := brn_some h; clear h; rcases hh with ⟨h5169, h⟩ | ⟨h5169, h⟩
      · have hh := bnd'_some h; clear h; obtain ⟨p5170, h5171, h⟩ := hh
        refine W_sound tab_ok mixed 14 _ _ _ ?_
        simp -implicitDefEqProofs only [go_sem, qa, qb, qc, qd, qe, qf, qg, qh, qi, qj, qk, ↓reduceIte, h5146, h5149, h5152, h5157, h5159, h5164, h5169]
        repeat with_reducible refine And.intro (by first | kernel_rfl | decide) ?_
        refine Wp_callP (c16 N  _ h5171) (by kernel_rfl) rfl rfl rfl rfl (by decide) ?_
        have hh := getB_some h; clear h; obtain ⟨b5173, h5172, h⟩ := hh
        refine W_sound tab_ok mixed 4 _ _ _ ?_
        simp -implicitDefEqProofs only [go_sem, qa, qb, qc, qd, qe, qf, qg, qh, qi, qj, qk, ↓reduceIte, h5146, h5149, h5152, h5157, h5159, h5164, h5169, h5172]
        repeat with_reducible refine And.intro (by first | kernel_rfl | decide) ?_
        obtain rfl := Option.some.inj h
        exact finC [(6, .v (.bool b5173))] [(6, .v (.bool b5173))] (by simp [leE, lk_cons]) (.cons _ _ _ _ _ (.v _ _ (.refl _)) .nil) (by rfl) (by simp [leE, lk_cons]) (by decide) (by decide) rfl (by simp only [go_sem, qa, qb, qc, qd, qe, qf, qg, qh, qi, qj, qk, ↓reduceIte, resQ_tmp, resQ_cell, resQ_nil, retD_one, retD_two, retD_three, retD_none]; try simp [R.val, retD_one, retD_two, retD_three, retD_none])
      · have hh := getI_some h; clear h; obtain ⟨x5175, h5174, h⟩ := hh
        have hh := bnd'_some h; clear h; obtain ⟨p5193, h5194, h⟩ := hh
        refine W_sound tab_ok mixed 23 _ _ _ ?_
        simp -implicitDefEqProofs only [go_sem, qa, qb, qc, qd, qe, qf, qg, qh, qi, qj, qk, ↓reduceIte, h5146, h5149, h5152, h5157, h5159, h5164, h5169, h5174]
        repeat with_reducible refine And.intro (by first | kernel_rfl | decide) ?_
        refine Wp_callP (c30 N _ _ _ h5194) (by kernel_rfl) rfl rfl rfl rfl (by decide) ?_
        have hh := getT2_some h; clear h; obtain ⟨p5196, p5197, h5195, h⟩ := hh
        have hh := getB_some h; clear h; obtain ⟨b5199, h5198, h⟩ := hh
        have hh := getI_some h; clear h; obtain ⟨x5201, h5200, h⟩ := hh
        have hh := bnd'_some h; clear h; obtain ⟨p5249, h5250, h⟩ := hh
        refine W_sound tab_ok mixed 10 _ _ _ ?_
        simp -implicitDefEqProofs only [go_sem, qa, qb, qc, qd, qe, qf, qg, qh, qi, qj, qk, ↓reduceIte, h5146, h5149, h5152, h5157, h5159, h5164, h5169, h5174, h5195, h5198, h5200]
        repeat with_reducible refine And.intro (by first | kernel_rfl | decide) ?_
        refine Wp_callP (c31 N _ _ _ h5250) (by kernel_rfl) rfl rfl rfl rfl (by decide) ?_
        have hh := getT2_some h; clear h; obtain ⟨p5252, p5253, h5251, h⟩ := hh
        have hh := getB_some h; clear h; obtain ⟨b5255, h5254, h⟩ := hh
        have hh := getI_some h; clear h; obtain ⟨x5257, h5256, h⟩ := hh
        have hh := bnd'_some h; clear h; obtain ⟨p5258, h5259, h⟩ := hh
        refine W_sound tab_ok mixed 9 _ _ _ ?_
        simp -implicitDefEqProofs only [go_sem, qa, qb, qc, qd, qe, qf, qg, qh, qi, qj, qk, ↓reduceIte, h5146, h5149, h5152, h5157, h5159, h5164, h5169, h5174, h5195, h5198, h5200, h5251, h5254, h5256]
        repeat with_reducible refine And.intro (by first | kernel_rfl | decide) ?_
        refine Wp_callP (c32 N _ _ h5259) (by kernel_rfl) rfl rfl rfl rfl (by decide) ?_
        have hh := getT2_some h; clear h; obtain ⟨p5261, p5262, h5260, h⟩ := hh
        have hh := getL_some h; clear h; obtain ⟨n5264, c5265, h5263, h⟩ := hh
        have hh := getI_some h; clear h; obtain ⟨x5267, h5266, h⟩ := hh
        have hh := bnd'_some h; clear h; obtain ⟨p5308, h5309, h⟩ := hh
        refine W_sound tab_ok mixed 9 _ _ _ ?_
        simp -implicitDefEqProofs only [go_sem, qa, qb, qc, qd, qe, qf, qg, qh, qi, qj, qk, ↓reduceIte, h5146, h5149, h5152, h5157, h5159, h5164, h5169, h5174, h5195, h5198, h5200, h5251, h5254, h5256, h5260, h5263, h5266]
        repeat with_reducible refine And.intro (by first | kernel_rfl | decide) ?_
        refine Wp_callP (c33 N _ _ h5309) (by kernel_rfl) rfl rfl rfl rfl (by decide) ?_
        have hh := getT2_some h; clear h; obtain ⟨p5311, p5312, h5310, h⟩ := hh
        have hh := getL_some h; clear h; obtain ⟨n5314, c5315, h5313, h⟩ := hh
        have hh := getI_some h; clear h; obtain ⟨x5317, h5316, h⟩ := hh
        have hh := bnd'_some h; clear h; obtain ⟨p5424, h5425, h⟩ := hh
        refine W_sound tab_ok mixed 11 _ _ _ ?_
        simp -implicitDefEqProofs only [go_sem, qa, qb, qc, qd, qe, qf, qg, qh, qi, qj, qk, ↓reduceIte, h5146, h5149, h5152, h5157, h5159, h5164, h5169, h5174, h5195, h5198, h5200, h5251, h5254, h5256, h5260, h5263, h5266, h5310, h5313, h5316]
        repeat with_reducible refine And.intro (by first | kernel_rfl | decide) ?_
        refine Wp_callP (c34 N _ _ _ _ h5425) (by kernel_rfl) rfl rfl rfl rfl (by decide) ?_
        have hh := getT2_some h; clear h; obtain ⟨p5427, p5428, h5426, h⟩ := hh
        have hh := getI_some h; clear h; obtain ⟨x5430, h5429, h⟩ := hh
        have hh := getI_some h; clear h; obtain ⟨x5432, h5431, h⟩ := hh
        have hh := bnd'_some h; clear h; obtain ⟨p5972, h5973, h⟩ := hh
        refine W_sound tab_ok mixed 11 _ _ _ ?_
        simp -implicitDefEqProofs only [go_sem, qa, qb, qc, qd, qe, qf, qg, qh, qi, qj, qk, ↓reduceIte, h5146, h5149, h5152, h5157, h5159, h5164, h5169, h5174, h5195, h5198, h5200, h5251, h5254, h5256, h5260, h5263, h5266, h5310, h5313, h5316, h5426, h5429, h5431]
        repeat with_reducible refine And.intro (by first | kernel_rfl | decide) ?_
        refine Wp_callP (c35 N _ _ _ _ h5973) (by kernel_rfl) rfl rfl rfl rfl (by decide) ?_
        have hh := getT2_some h; clear h; obtain ⟨p5975, p5976, h5974, h⟩ := hh
        have hh := getI_some h; clear h; obtain ⟨x5978, h5977, h⟩ := hh
        have hh := getI_some h; clear h; obtain ⟨x5980, h5979, h⟩ := hh
        have hh := brn_some h; clear h; rcases hh with ⟨h5981, h⟩ | ⟨h5981, h⟩
        · have hh := brn_some h; clear h; rcases hh with ⟨h5982, h⟩ | ⟨h5982, h⟩
          · have hh := bnd'_some h; clear h; obtain ⟨p5983, h5984, h⟩ := hh
            refine W_sound tab_ok mixed 19 _ _ _ ?_
            simp -implicitDefEqProofs only [go_sem, qa, qb, qc, qd, qe, qf, qg, qh, qi, qj, qk, ↓reduceIte, h5146, h5149, h5152, h5157, h5159, h5164, h5169, h5174, h5195, h5198, h5200, h5251, h5254, h5256, h5260, h5263, h5266, h5310, h5313, h5316, h5426, h5429, h5431, h5974, h5977, h5979, h5981, h5982]
            repeat with_reducible refine And.intro (by first | kernel_rfl | decide) ?_
            refine Wp_callP (c21 N _ _ _ h5984) (by kernel_rfl) rfl rfl rfl rfl (by decide) ?_
            have hh := getB_some h; clear h; obtain ⟨b5986, h5985, h⟩ := hh
            have hh := brn_some h; clear h; rcases hh with ⟨h5987, h⟩ | ⟨h5987, h⟩
            · have hh := brn_some h; clear h; rcases hh with ⟨h5988, h⟩ | ⟨h5988, h⟩
              · have hh := brn_some h; clear h; rcases hh with ⟨h5989, h⟩ | ⟨h5989, h⟩
                · have hh := brn_some h; clear h; rcases hh with ⟨h5990, h⟩ | ⟨h5990, h⟩
                  · have hh := bnd'_some h; clear h; obtain ⟨p5991, h5992, h⟩ := hh
                    refine W_sound tab_ok mixed 17 _ _ _ ?_
                    simp -implicitDefEqProofs only [go_sem, qa, qb, qc, qd, qe, qf, qg, qh, qi, qj, qk, ↓reduceIte, h5146, h5149, h5152, h5157, h5159, h5164, h5169, h5174, h5195, h5198, h5200, h5251, h5254, h5256, h5260, h5263, h5266, h5310, h5313, h5316, h5426, h5429, h5431, h5974, h5977, h5979, h5981, h5982, h5985, h5987, h5988, h5989, h5990]
                    repeat with_reducible refine And.intro (by first | kernel_rfl | decide) ?_
                    refine Wp_callP (c16 N  _ h5992) (by kernel_rfl) rfl rfl rfl rfl (by decide) ?_
                    have hh := getB_some h; clear h; obtain ⟨b5994, h5993, h⟩ := hh
                    refine W_sound tab_ok mixed 5 _ _ _ ?_
                    simp -implicitDefEqProofs only [go_sem, qa, qb, qc, qd, qe, qf, qg, qh, qi, qj, qk, ↓reduceIte, h5146, h5149, h5152, h5157, h5159, h5164, h5169, h5174, h5195, h5198, h5200, h5251, h5254, h5256, h5260, h5263, h5266, h5310, h5313, h5316, h5426, h5429, h5431, h5974, h5977, h5979, h5981, h5982, h5985, h5987, h5988, h5989, h5990, h5993]
                    repeat with_reducible refine And.intro (by first | kernel_rfl | decide) ?_
                    obtain rfl := Option.some.inj h
                    exact finC [(6, .v (.bool b5994))] [(6, .v (.bool b5994))] (by simp [leE, lk_cons]) (.cons _ _ _ _ _ (.v _ _ (.refl _)) .nil) (by rfl) (by simp [leE, lk_cons]) (by decide) (by decide) rfl (by simp only [go_sem, qa, qb, qc, qd, qe, qf, qg, qh, qi, qj, qk, ↓reduceIte, resQ_tmp, resQ_cell, resQ_nil, retD_one, retD_two, retD_three, retD_none]; try simp [R.val, retD_one, retD_two, retD_three, retD_none])
                  · refine W_sound tab_ok mixed 23 _ _ _ ?_
                    simp -implicitDefEqProofs only [go_sem, qa, qb, qc, qd, qe, qf, qg, qh, qi, qj, qk, ↓reduceIte, h5146, h5149, h5152, h5157, h5159, h5164, h5169, h5174, h5195, h5198, h5200, h5251, h5254, h5256, h5260, h5263, h5266, h5310, h5313, h5316, h5426, h5429, h5431, h5974, h5977, h5979, h5981, h5982, h5985, h5987, h5988, h5989, h5990]
                    repeat with_reducible refine And.intro (by first | kernel_rfl | decide) ?_
                    obtain rfl := Option.some.inj h
                    exact finC [(6, .v (.bool false))] [(6, .v (.bool false))] (by simp [leE, lk_cons]) (.cons _ _ _ _ _ (.v _ _ (.refl _)) .nil) (by rfl) (by simp [leE, lk_cons]) (by decide) (by decide) rfl (by simp only [go_sem, qa, qb, qc, qd, qe, qf, qg, qh, qi, qj, qk, ↓reduceIte, resQ_tmp, resQ_cell, resQ_nil, retD_one, retD_two, retD_three, retD_none]; try simp [R.val, retD_one, retD_two, retD_three, retD_none])
                · refine W_sound tab_ok mixed 23 _ _ _ ?_
                  simp -implicitDefEqProofs only [go_sem, qa, qb, qc, qd, qe, qf, qg, qh, qi, qj, qk, ↓reduceIte, h5146, h5149, h5152, h5157, h5159, h5164, h5169, h5174, h5195, h5198, h5200, h5251, h5254, h5256, h5260, h5263, h5266, h5310, h5313, h5316, h5426, h5429, h5431, h5974, h5977, h5979, h5981, h5982, h5985, h5987, h5988, h5989]
                  repeat with_reducible refine And.intro (by first | kernel_rfl | decide) ?_
                  obtain rfl := Option.some.inj h
                  exact finC [(6, .v (.bool false))] [(6, .v (.bool false))] (by simp [leE, lk_cons]) (.cons _ _ _ _ _ (.v _ _ (.refl _)) .nil) (by rfl) (by simp [leE, lk_cons]) (by decide) (by decide) rfl (by simp only [go_sem, qa, qb, qc, qd, qe, qf, qg, qh, qi, qj, qk, ↓reduceIte, resQ_tmp, resQ_cell, resQ_nil, retD_one, retD_two, retD_three, retD_none]; try simp [R.val, retD_one, retD_two, retD_three, retD_none])
              · refine W_sound tab_ok mixed 23 _ _ _ ?_
                simp -implicitDefEqProofs only [go_sem, qa, qb, qc, qd, qe, qf, qg, qh, qi, qj, qk, ↓reduceIte, h5146, h5149, h5152, h5157, h5159, h5164, h5169, h5174, h5195, h5198, h5200, h5251, h5254, h5256, h5260, h5263, h5266, h5310, h5313, h5316, h5426, h5429, h5431, h5974, h5977, h5979, h5981, h5982, h5985, h5987, h5988]
                repeat with_reducible refine And.intro (by first | kernel_rfl | decide) ?_
                obtain rfl := Option.some.inj h
                exact finC [(6, .v (.bool false))] [(6, .v (.bool false))] (by simp [leE, lk_cons]) (.cons _ _ _ _ _ (.v _ _ (.refl _)) .nil) (by rfl) (by simp [leE, lk_cons]) (by decide) (by decide) rfl (by simp only [go_sem, qa, qb, qc, qd, qe, qf, qg, qh, qi, qj, qk, ↓reduceIte, resQ_tmp, resQ_cell, resQ_nil, retD_one, retD_two, retD_three, retD_none]; try simp [R.val, retD_one, retD_two, retD_three, retD_none])
            · refine W_sound tab_ok mixed 23 _ _ _ ?_
              simp -implicitDefEqProofs only [go_sem, qa, qb, qc, qd, qe, qf, qg, qh, qi, qj, qk, ↓reduceIte, h5146, h5149, h5152, h5157, h5159, h5164, h5169, h5174, h5195, h5198, h5200, h5251, h5254, h5256, h5260, h5263, h5266, h5310, h5313, h5316, h5426, h5429, h5431, h5974, h5977, h5979, h5981, h5982, h5985, h5987]
              repeat with_reducible refine And.intro (by first | kernel_rfl | decide) ?_
              obtain rfl := Option.some.inj h
              exact finC [(6, .v (.bool false))] [(6, .v (.bool false))] (by simp [leE, lk_cons]) (.cons _ _ _ _ _ (.v _ _ (.refl _)) .nil) (by rfl) (by simp [leE, lk_cons]) (by decide) (by decide) rfl (by simp only [go_sem, qa, qb, qc, qd, qe, qf, qg, qh, qi, qj, qk, ↓reduceIte, resQ_tmp, resQ_cell, resQ_nil, retD_one, retD_two, retD_three, retD_none]; try simp [R.val, retD_one, retD_two, retD_three, retD_none])
          · refine W_sound tab_ok mixed 43 _ _ _ ?_
            simp -implicitDefEqProofs only [go_sem, qa, qb, qc, qd, qe, qf, qg, qh, qi, qj, qk, ↓reduceIte, h5146, h5149, h5152, h5157, h5159, h5164, h5169, h5174, h5195, h5198, h5200, h5251, h5254, h5256, h5260, h5263, h5266, h5310, h5313, h5316, h5426, h5429, h5431, h5974, h5977, h5979, h5981, h5982]
            repeat with_reducible refine And.intro (by first | kernel_rfl | decide) ?_
            obtain rfl := Option.some.inj h
            exact finC [(6, .v (.bool false))] [(6, .v (.bool false))] (by simp [leE, lk_cons]) (.cons _ _ _ _ _ (.v _ _ (.refl _)) .nil) (by rfl) (by simp [leE, lk_cons]) (by decide) (by decide) rfl (by simp only [go_sem, qa, qb, qc, qd, qe, qf, qg, qh, qi, qj, qk, ↓reduceIte, resQ_tmp, resQ_cell, resQ_nil, retD_one, retD_two, retD_three, retD_none]; try simp [R.val, retD_one, retD_two, retD_three, retD_none])
        · refine W_sound tab_ok mixed 43 _ _ _ ?_
          simp -implicitDefEqProofs only [go_sem, qa, qb, qc, qd, qe, qf, qg, qh, qi, qj, qk, ↓reduceIte, h5146, h5149, h5152, h5157, h5159, h5164, h5169, h5174, h5195, h5198, h5200, h5251, h5254, h5256, h5260, h5263, h5266, h5310, h5313, h5316, h5426, h5429, h5431, h5974, h5977, h5979, h5981]
          repeat with_reducible refine And.intro (by first | kernel_rfl | decide) ?_
          obtain rfl := Option.some.inj h
          exact finC [(6, .v (.bool false))] [(6, .v (.bool false))] (by simp [leE, lk_cons]) (.cons _ _ _ _ _ (.v _ _ (.refl _)) .nil) (by rfl) (by simp [leE, lk_cons]) (by decide) (by decide) rfl (by simp only [go_sem, qa, qb, qc, qd, qe, qf, qg, qh, qi, qj, qk, ↓reduceIte, resQ_tmp, resQ_cell, resQ_nil, retD_one, retD_two, retD_three, retD_none]; try simp [R.val, retD_one, retD_two, retD_three, retD_none])
end Go.Proofs.YtnponojgpkbagaaDoor
