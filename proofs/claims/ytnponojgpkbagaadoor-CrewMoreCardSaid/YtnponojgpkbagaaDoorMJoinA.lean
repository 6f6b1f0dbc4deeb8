/-
  Models and laws.
-/
import Derived.Test.YtnponojgpkbagaaDoorMFndA
import Derived.Test.YtnponojgpkbagaaDoorME44
import Derived.Test.YtnponojgpkbagaaDoorB
import Derived.Test.YtnponojgpkbagaaDoorV36
namespace Go.Proofs.YtnponojgpkbagaaDoor
open Go.V
open Nat renaming reduceBEq → qa, reduceAdd → qb, reduceSub → qc, reduceMul → qd, reduceLT → qe, reduceLeDiff → qf
open Int renaming reduceLE → qg, reduceLT → qh, reduceToNat → qi, reduceBEq → qj, reduceBNe → qk
set_option maxRecDepth 100000
set_option maxHeartbeats 4000000
set_option linter.unusedSimpArgs false
set_option linter.unusedVariables false
attribute [local go_sem] tl1 tl2 tl3 tl4 tl5 tl9 tl17 tl21 tl22 tl23 tl24 tl25 tl26 tl27 tl28 tl29 tl31 tl32 tl34 tl35 tl36 tl37 tl38 tl39 tl40 tl41 tl42 tl43 tl44 tl45 tl47 tl48 tl49 tl50 tl51 tl52 tl53 tl54 tl55 tl56 tl57 tl58 tl59 tl60 tl61 tl62 tl63 tl64 tl65 tl66 tl67 tl68 tl69 tl70 tl71 tl72 tl73 tl74 tl75 tl76 tl77 tl78 tl79 tl80 tl81 tl82 tl83 tl84 tl85 tl86 tl87 tl88 tl89 tl90 tl92 tl94 tl95 tl96 tl97 tl98 tl99 tl100 tl101 tl102 tl103 tl104 tl105 tl106 tl107 tl108 tl109 tl110 tl111 tl112 tl113 tl114 tl115 tl116 tl118 tl119 tl121 tl122 tl123 tl124 tl125 tl126 tl127 tl128 tl129 tl131 tl133 tl134 tl135 tl136 tl142 tl146

def m30 (N : Nat) (p5176 : PV) (p5177 : PV) : Option (PV) :=
  getA2 p5176 fun p5179 p5180 =>
  getL p5177 fun n5182 c5183 =>
  bnd' (m63 N (.agg [p5179, p5180]) (.lst false n5182 c5183)) fun p5184 =>
  getI .i64 p5184 fun x5187 =>
  brn (x5187 != 0) (
    some (.tup [(.bool false), (.int .i64 x5187)])) (
    bnd' (m82 N (.agg [p5179, p5180]) (.lst false n5182 c5183)) fun p5189 =>
    getB p5189 fun b5192 =>
    some (.tup [(.bool b5192), (.int .i64 0)]))
theorem c30 (N : Nat) (p5176 : PV) (p5177 : PV) (r : PV)  (h : m30 N p5176 p5177 = some r) : FnP Tryd.prog 30 [p5176, p5177] r := by
  unfold m30 at h
  refine Fn_of (sz := 16) tab_ok [0, 1, 2, 4, 5, 6, 11] [.tmp 4, .tmp 5] Tryd.func30 rfl rfl rfl (by simp) ?_
  simp only [initSt, initEnv, List.map_cons, List.map_nil, List.getD_cons_zero, List.getD_cons_succ, List.getD_nil]
  have hh := getA2_some h; clear h; obtain ⟨p5179, p5180, h5178, h⟩ := hh
  have hh := getL_some h; clear h; obtain ⟨n5182, c5183, h5181, h⟩ := hh
  have hh := bnd'_some h; clear h; obtain ⟨p5184, h5185, h⟩ := hh
  refine W_sound tab_ok mixed 11 _ _ _ ?_
  simp -implicitDefEqProofs only [go_sem, qa, qb, qc, qd, qe, qf, qg, qh, qi, qj, qk, ↓reduceIte, h5178, h5181]
  repeat with_reducible refine And.intro (by first | kernel_rfl | decide) ?_
  refine Wp_callP (c63 N _ _ _ h5185) (by kernel_rfl) rfl rfl rfl rfl (by decide) ?_
  have hh := getI_some h; clear h; obtain ⟨x5187, h5186, h⟩ := hh
  have hh := brn_some h; clear h; rcases hh with ⟨h5188, h⟩ | ⟨h5188, h⟩
  · refine W_sound tab_ok mixed 16 _ _ _ ?_
    simp -implicitDefEqProofs only [go_sem, qa, qb, qc, qd, qe, qf, qg, qh, qi, qj, qk, ↓reduceIte, h5178, h5181, h5186, h5188]
    repeat with_reducible refine And.intro (by first | kernel_rfl | decide) ?_
    obtain rfl := Option.some.inj h
    exact finC [(4, .v (.bool false)), (5, .v (.int .i64 x5187))] [(4, .v (.bool false)), (5, .v (.int .i64 x5187))] (by simp [leE, lk_cons]) (.cons _ _ _ _ _ (.v _ _ (.refl _)) (.cons _ _ _ _ _ (.v _ _ (.refl _)) .nil)) (by rfl) (by simp [leE, lk_cons]) (by decide) (by decide) rfl (by simp only [go_sem, qa, qb, qc, qd, qe, qf, qg, qh, qi, qj, qk, ↓reduceIte, resQ_tmp, resQ_cell, resQ_nil, retD_one, retD_two, retD_three, retD_none]; try simp [R.val, retD_one, retD_two, retD_three, retD_none])
  · have hh := bnd'_some h; clear h; obtain ⟨p5189, h5190, h⟩ := hh
    refine W_sound tab_ok mixed 13 _ _ _ ?_
    simp -implicitDefEqProofs only [go_sem, qa, qb, qc, qd, qe, qf, qg, qh, qi, qj, qk, ↓reduceIte, h5178, h5181, h5186, h5188]
    repeat with_reducible refine And.intro (by first | kernel_rfl | decide) ?_
    refine Wp_callP (c82 N _ _ _ h5190) (by kernel_rfl) rfl rfl rfl rfl (by decide) ?_
    have hh := getB_some h; clear h; obtain ⟨b5192, h5191, h⟩ := hh
    refine W_sound tab_ok mixed 5 _ _ _ ?_
    simp -implicitDefEqProofs only [go_sem, qa, qb, qc, qd, qe, qf, qg, qh, qi, qj, qk, ↓reduceIte, h5178, h5181, h5186, h5188, h5191]
    repeat with_reducible refine And.intro (by first | kernel_rfl | decide) ?_
    obtain rfl := Option.some.inj h
    exact finC [(4, .v (.bool b5192)), (5, .v (.int .i64 0))] [(4, .v (.bool b5192)), (5, .v (.int .i64 0))] (by simp [leE, lk_cons]) (.cons _ _ _ _ _ (.v _ _ (.refl _)) (.cons _ _ _ _ _ (.v _ _ (.refl _)) .nil)) (by rfl) (by simp [leE, lk_cons]) (by decide) (by decide) rfl (by simp only [go_sem, qa, qb, qc, qd, qe, qf, qg, qh, qi, qj, qk, ↓reduceIte, resQ_tmp, resQ_cell, resQ_nil, retD_one, retD_two, retD_three, retD_none]; try simp [R.val, retD_one, retD_two, retD_three, retD_none])

def m101_L0 (N : Nat) (x5368 : Int) (n5370 : Nat) (c5371 : List PV) : Nat → Int → Option ((PV ⊕ Unit))
  | 0, _ => none
  | n + 1, x5372 =>
    brn (decide (x5372 < ((n5370 : Nat) : Int))) (
      grd (0 ≤ x5372 ∧ x5372 < ((n5370 : Nat) : Int)) <|
      grd (0 < List.length (List.drop (Int.toNat x5372) c5371)) <|
      getI .i64 (gp c5371 (Int.toNat x5372)) fun x5378 =>
      brn (x5368 == x5378) (
        some (.inl (.int .i64 x5372))) (
        m101_L0 N x5368 n5370 c5371 n (IntKind.i64.wrap (x5372 + 1)))) (
      some (.inr ()))
def m101 (N : Nat) (p5367 : PV) (x5368 : Int) : Option (PV) :=
  getL p5367 fun n5370 c5371 =>
  bnd' (m101_L0 N x5368 n5370 c5371 N 0) fun o =>
  match o with
  | .inl p5380 =>
    some p5380
  | .inr () =>
    some (.int .i64 (-1))
theorem c101 (N : Nat) (p5367 : PV) (x5368 : Int) (r : PV)  (h : m101 N p5367 x5368 = some r) : FnP Tryd.prog 101 [p5367, (.int .i64 x5368)] r := by
  unfold m101 at h
  refine Fn_of (sz := 19) tab_ok [0, 1, 4, 5, 7, 8, 9, 16] [.tmp 4] Tryd.func101 rfl rfl rfl (by simp) ?_
  simp only [initSt, initEnv, List.map_cons, List.map_nil, List.getD_cons_zero, List.getD_cons_succ, List.getD_nil]
  have hh := getL_some h; clear h; obtain ⟨n5370, c5371, h5369, h⟩ := hh
  refine W_sound tab_ok mixed 11 _ _ _ ?_
  simp -implicitDefEqProofs only [go_sem, qa, qb, qc, qd, qe, qf, qg, qh, qi, qj, qk, ↓reduceIte, h5369]
  repeat with_reducible refine And.intro (by first | kernel_rfl | decide) ?_
  have hh := bnd'_some h; clear h; obtain ⟨o5381, h5382, h5383⟩ := hh
  refine Wp_cut (fun s => (.inr ()) = o5381 ∧ s = ⟨[], [(0, .dead), (1, .dead), (4, .dead), (5, .dead), (7, .dead), (8, .dead), (9, .dead), (16, .dead)], [], 0, []⟩) ?_ ?_
  · refine Wp_block ?_
    refine Wp_loopG (fun n s => ∃ x5372, m101_L0 N x5368 n5370 c5371 n x5372 = some o5381 ∧ s = ⟨[], [(0, .v (.lst false n5370 c5371)), (1, .v (.int .i64 x5368)), (4, .dead), (5, .dead), (7, .v (.int .i64 ((n5370 : Nat) : Int))), (8, .v (.int .i64 x5372)), (9, .dead), (16, .dead)], [], 0, []⟩) N _ ((Wk_le (.r (.r (.k (.r (.r (.r (.r (.r .nil)))))))) (OLe.refl _)).trans (cmpS_ok rfl)) ⟨_, h5382, rfl⟩ ?_
    clear h5382
    rintro n _ ⟨x5372, h5382, rfl⟩
    cases n with
    | zero => cases h5382
    | succ n =>
      rw [m101_L0] at h5382
      have hh := brn_some h5382; clear h5382; rcases hh with ⟨h5373, h5382⟩ | ⟨h5373, h5382⟩
      · have hh := grd_some h5382; clear h5382; obtain ⟨⟨g5374, g5375⟩, h5382⟩ := hh
        have hh := grd_some h5382; clear h5382; obtain ⟨g5376, h5382⟩ := hh
        have hh := getI_some h5382; clear h5382; obtain ⟨x5378, h5377, h5382⟩ := hh
        have hh := brn_some h5382; clear h5382; rcases hh with ⟨h5379, h5382⟩ | ⟨h5379, h5382⟩
        · refine W_sound tab_ok mixed 31 _ _ _ ?_
          simp -implicitDefEqProofs only [go_sem, qa, qb, qc, qd, qe, qf, qg, qh, qi, qj, qk, ↓reduceIte, h5369, h5373, g5374, g5375, g5376, h5377, h5379]
          repeat with_reducible refine And.intro (by first | kernel_rfl | decide) ?_
          obtain rfl := Option.some.inj h5382
          (try dsimp only at h5383)
          obtain rfl := Option.some.inj h5383
          exact finC [(4, .v (.int .i64 x5372))] [(4, .v (.int .i64 x5372))] (by simp [leE, lk_cons]) (.cons _ _ _ _ _ (.v _ _ (.refl _)) .nil) (by rfl) (by simp [leE, lk_cons]) (by decide) (by decide) rfl (by simp only [go_sem, qa, qb, qc, qd, qe, qf, qg, qh, qi, qj, qk, ↓reduceIte, resQ_tmp, resQ_cell, resQ_nil, retD_one, retD_two, retD_three, retD_none]; try simp [R.val, retD_one, retD_two, retD_three, retD_none])
        · refine W_sound tab_ok mixed 30 _ _ _ ?_
          simp -implicitDefEqProofs only [go_sem, qa, qb, qc, qd, qe, qf, qg, qh, qi, qj, qk, ↓reduceIte, h5369, h5373, g5374, g5375, g5376, h5377, h5379]
          repeat with_reducible refine And.intro (by first | kernel_rfl | decide) ?_
          exact cutQ _ ((Wk_le (.r (.r (.r (.k (.r (.r (.k (.k .nil)))))))) (OLe.refl _)).trans (cmpS_ok rfl)) ⟨n, Nat.lt_succ_self n, _, h5382, rfl⟩
      · refine W_sound tab_ok mixed 7 _ _ _ ?_
        simp -implicitDefEqProofs only [go_sem, qa, qb, qc, qd, qe, qf, qg, qh, qi, qj, qk, ↓reduceIte, h5369, h5373]
        repeat with_reducible refine And.intro (by first | kernel_rfl | decide) ?_
        obtain rfl := Option.some.inj h5382
        exact cutQ _ ((Wk_le (.k (.k (.r (.r (.k (.k (.k (.r .nil)))))))) (OLe.refl _)).trans (cmpS_ok rfl)) ⟨rfl, rfl⟩
  · rintro _ ⟨rfl, rfl⟩
    (try dsimp only at h5383)
    refine W_sound tab_ok mixed 6 _ _ _ ?_
    simp -implicitDefEqProofs only [go_sem, qa, qb, qc, qd, qe, qf, qg, qh, qi, qj, qk, ↓reduceIte, h5369]
    repeat with_reducible refine And.intro (by first | kernel_rfl | decide) ?_
    obtain rfl := Option.some.inj h5383
    exact finC [(4, .v (.int .i64 (-1)))] [(4, .v (.int .i64 (-1)))] (by simp [leE, lk_cons]) (.cons _ _ _ _ _ (.v _ _ (.refl _)) .nil) (by rfl) (by simp [leE, lk_cons]) (by decide) (by decide) rfl (by simp only [go_sem, qa, qb, qc, qd, qe, qf, qg, qh, qi, qj, qk, ↓reduceIte, resQ_tmp, resQ_cell, resQ_nil, retD_one, retD_two, retD_three, retD_none]; try simp [R.val, retD_one, retD_two, retD_three, retD_none])

def m84 (N : Nat) (p5362 : PV) (x5363 : Int) : Option (PV) :=
  getL p5362 fun n5365 c5366 =>
  bnd' (m101 N (.lst false n5365 c5366) x5363) fun p5384 =>
  getI .i64 p5384 fun x5387 =>
  some (.bool (decide (x5387 ≥ 0)))
theorem c84 (N : Nat) (p5362 : PV) (x5363 : Int) (r : PV)  (h : m84 N p5362 x5363 = some r) : FnP Tryd.prog 84 [p5362, (.int .i64 x5363)] r := by
  unfold m84 at h
  refine Fn_of (sz := 9) tab_ok [0, 1, 4] [.tmp 4] Tryd.func84 rfl rfl rfl (by simp) ?_
  simp only [initSt, initEnv, List.map_cons, List.map_nil, List.getD_cons_zero, List.getD_cons_succ, List.getD_nil]
  have hh := getL_some h; clear h; obtain ⟨n5365, c5366, h5364, h⟩ := hh
  have hh := bnd'_some h; clear h; obtain ⟨p5384, h5385, h⟩ := hh
  refine W_sound tab_ok mixed 8 _ _ _ ?_
  simp -implicitDefEqProofs only [go_sem, qa, qb, qc, qd, qe, qf, qg, qh, qi, qj, qk, ↓reduceIte, h5364]
  repeat with_reducible refine And.intro (by first | kernel_rfl | decide) ?_
  refine Wp_callP (c101 N _ _ _ h5385) (by kernel_rfl) rfl rfl rfl rfl (by decide) ?_
  have hh := getI_some h; clear h; obtain ⟨x5387, h5386, h⟩ := hh
  refine W_sound tab_ok mixed 5 _ _ _ ?_
  simp -implicitDefEqProofs only [go_sem, qa, qb, qc, qd, qe, qf, qg, qh, qi, qj, qk, ↓reduceIte, h5364, h5386]
  repeat with_reducible refine And.intro (by first | kernel_rfl | decide) ?_
  obtain rfl := Option.some.inj h
  exact finC [(4, .v (.bool (decide (x5387 ≥ 0))))] [(4, .v (.bool (decide (x5387 ≥ 0))))] (by simp [leE, lk_cons]) (.cons _ _ _ _ _ (.v _ _ (.refl _)) .nil) (by rfl) (by simp [leE, lk_cons]) (by decide) (by decide) rfl (by simp only [go_sem, qa, qb, qc, qd, qe, qf, qg, qh, qi, qj, qk, ↓reduceIte, resQ_tmp, resQ_cell, resQ_nil, retD_one, retD_two, retD_three, retD_none]; try simp [R.val, retD_one, retD_two, retD_three, retD_none])

def m44 (N : Nat) (p5394 : PV) : Option (Nat × List PV) :=
  getL p5394 fun n5396 c5397 =>
  grd (0 < n5396) <|
  grd (List.length c5397 = n5396) <|
  grd (n5396 ≤ 1099511627776) <|
  some (n5396, c5397)
theorem c44 (N : Nat) (p5394 : PV) (rn : Nat) (rc : List PV) (h : m44 N p5394 = some (rn, rc)) : V.Fn Tryd.prog 44 0 [.v p5394] [] (fun d ob' => d = .sl false 0 0 rn 1 ∧ ob' = [(0, .p rc)]) := by
  unfold m44 at h
  refine Fn_of (sz := 8) tab_ok [0, 2, 4] [.tmp 2] Tryd.func44 rfl rfl rfl (by simp) ?_
  simp only [initSt, initEnv, List.map_cons, List.map_nil, List.getD_cons_zero, List.getD_cons_succ, List.getD_nil]
  have hh := getL_some h; clear h; obtain ⟨n5396, c5397, h5395, h⟩ := hh
  have hh := grd_some h; clear h; obtain ⟨g5398, h⟩ := hh
  have hh := grd_some h; clear h; obtain ⟨g5399, h⟩ := hh
  have hh := grd_some h; clear h; obtain ⟨g5400, h⟩ := hh
  refine W_sound tab_ok mixed 21 _ _ _ ?_
  simp -implicitDefEqProofs only [go_sem, qa, qb, qc, qd, qe, qf, qg, qh, qi, qj, qk, ↓reduceIte, h5395, g5398, g5399, g5400]
  repeat with_reducible refine And.intro (by first | kernel_rfl | decide) ?_
  simp only [Option.some.injEq, Prod.mk.injEq] at h; obtain ⟨rfl, rfl⟩ := h
  exact finD (e2 := [(0, .dead), (2, .sl false 7 0 n5396 1), (4, .dead)]) (ob2 := [(5, .p []), (7, .p c5397)]) (st' := ⟨[], [(0, .dead), (2, .sl false 0 0 n5396 1), (4, .dead)], [(0, .p c5397)], 1, []⟩) (.k (.r (.k .nil))) (.cons _ _ _ _ _ (DLes.refl _) (.cons _ _ _ _ _ (DLes.refl _) .nil)) (by kernel_rfl) (by simp only [go_sem, qa, qb, qc, qd, qe, qf, qg, qh, qi, qj, qk, ↓reduceIte, resQ_tmp, resQ_cell, resQ_nil, retD_one, retD_two, retD_three, retD_none]; first | done | exact ⟨rfl, rfl⟩ | (try simp [R.val, retD_one]))

def m34_L0 (N : Nat) (p5322 : PV) (p5323 : PV) (n5325 : Nat) (c5326 : List PV) (n5328 : Nat) (c5329 : List PV) : Nat → Int → Option ((PV ⊕ Unit))
  | 0, _ => none
  | n + 1, x5330 =>
    brn (decide (x5330 < 2)) (
      grd (0 ≤ x5330 ∧ x5330 < 2) <|
      grd ((Int.toNat x5330) < 2) <|
      getL (gp [(.lst false n5325 c5326), (.lst false n5328 c5329)] (Int.toNat x5330)) fun n5336 c5337 =>
      bnd' (m63 N (.agg [p5322, p5323]) (.lst false n5336 c5337)) fun p5338 =>
      getI .i64 p5338 fun x5341 =>
      brn (x5341 != 0) (
        some (.inl (.tup [(.int .i64 0), (.int .i64 x5341)]))) (
        m34_L0 N p5322 p5323 n5325 c5326 n5328 c5329 n (IntKind.i64.wrap (x5330 + 1)))) (
      some (.inr ()))
def m34_L1 (N : Nat) (p5322 : PV) (p5323 : PV) (n5325 : Nat) (c5326 : List PV) (n5328 : Nat) (c5329 : List PV) : Nat → Int → Option ((PV ⊕ Unit))
  | 0, _ => none
  | n + 1, x5355 =>
    brn (decide (x5355 < ((n5328 : Nat) : Int))) (
      grd (0 ≤ x5355 ∧ x5355 < ((n5328 : Nat) : Int)) <|
      grd (0 < List.length (List.drop (Int.toNat x5355) c5329)) <|
      getI .i64 (gp c5329 (Int.toNat x5355)) fun x5361 =>
      bnd' (m84 N (.lst false n5325 c5326) x5361) fun p5388 =>
      getB p5388 fun b5391 =>
      brn b5391 (
        m34_L1 N p5322 p5323 n5325 c5326 n5328 c5329 n (IntKind.i64.wrap (x5355 + 1))) (
        brn (decide (0 < n5325)) (
          bnd' (m44 N (.lst false n5325 c5326)) fun (n5401, c5402) =>
          grd ((n5401 + 1) ≤ 1099511627776) <|
          grd (List.length c5402 = n5401) <|
          bnd' (m82 N (.agg [p5322, p5323]) (.lst false (n5401 + 1) (c5402 ++ [(.int .i64 x5361)]))) fun p5406 =>
          getB p5406 fun b5409 =>
          brn b5409 (
            some (.inl (.tup [(.int .i64 x5361), (.int .i64 0)]))) (
            m34_L1 N p5322 p5323 n5325 c5326 n5328 c5329 n (IntKind.i64.wrap (x5355 + 1)))) (
          grd (List.length c5326 = n5325) <|
          bnd' (m82 N (.agg [p5322, p5323]) (.lst false 1 [(.int .i64 x5361)])) fun p5412 =>
          getB p5412 fun b5415 =>
          brn b5415 (
            some (.inl (.tup [(.int .i64 x5361), (.int .i64 0)]))) (
            m34_L1 N p5322 p5323 n5325 c5326 n5328 c5329 n (IntKind.i64.wrap (x5355 + 1)))))) (
      some (.inr ()))
def m34 (N : Nat) (p5318 : PV) (p5319 : PV) (p5320 : PV) : Option (PV) :=
  getA2 p5318 fun p5322 p5323 =>
  getL p5319 fun n5325 c5326 =>
  getL p5320 fun n5328 c5329 =>
  bnd' (m34_L0 N p5322 p5323 n5325 c5326 n5328 c5329 N 0) fun o =>
  match o with
  | .inl p5343 =>
    some p5343
  | .inr () =>
    bnd' (m82 N (.agg [p5322, p5323]) (.lst false n5325 c5326)) fun p5344 =>
    getB p5344 fun b5347 =>
    brn b5347 (
      bnd' (m82 N (.agg [p5322, p5323]) (.lst false n5328 c5329)) fun p5349 =>
      getB p5349 fun b5352 =>
      brn b5352 (
        brn (decide (((n5328 : Nat) : Int) ≤ ((n5325 : Nat) : Int))) (
          some (.tup [(.int .i64 0), (.int .i64 5)])) (
          bnd' (m34_L1 N p5322 p5323 n5325 c5326 n5328 c5329 N 0) fun o =>
          match o with
          | .inl p5417 =>
            some p5417
          | .inr () =>
            some (.tup [(.int .i64 0), (.int .i64 14)]))) (
        some (.tup [(.int .i64 0), (.int .i64 12)]))) (
      some (.tup [(.int .i64 0), (.int .i64 12)]))
theorem c34 (N : Nat) (p5318 : PV) (p5319 : PV) (p5320 : PV) (r : PV)  (h : m34 N p5318 p5319 p5320 = some r) : FnP Tryd.prog 34 [p5318, p5319, p5320] r := by
  unfold m34 at h
  refine Fn_of (sz := 66) tab_ok [0, 1, 2, 3, 6, 7, 9, 10, 12, 15, 16, 17, 18, 25, 28, 39, 45, 46, 47, 48, 63] [.tmp 6, .tmp 7] Tryd.func34 rfl rfl rfl (by simp) ?_
  simp only [initSt, initEnv, List.map_cons, List.map_nil, List.getD_cons_zero, List.getD_cons_succ, List.getD_nil]
  have hh := getA2_some h; clear h; obtain ⟨p5322, p5323, h5321, h⟩ := hh
  have hh := getL_some h; clear h; obtain ⟨n5325, c5326, h5324, h⟩ := hh
  have hh := getL_some h; clear h; obtain ⟨n5328, c5329, h5327, h⟩ := hh
  refine W_sound tab_ok mixed 15 _ _ _ ?_
  simp -implicitDefEqProofs only [go_sem, qa, qb, qc, qd, qe, qf, qg, qh, qi, qj, qk, ↓reduceIte, h5321, h5324, h5327]
  repeat with_reducible refine And.intro (by first | kernel_rfl | decide) ?_
  have hh := bnd'_some h; clear h; obtain ⟨o5418, h5419, h5420⟩ := hh
  refine Wp_cut (fun s => (.inr ()) = o5418 ∧ s = ⟨[], [(0, .dead), (1, .v (.lst false n5325 c5326)), (2, .v (.lst false n5328 c5329)), (3, .ptr 0 0), (6, .dead), (7, .dead), (9, .dead), (10, .dead), (12, .dead), (15, .dead), (16, .dead), (17, .dead), (18, .dead), (25, .dead), (28, .dead), (39, .dead), (45, .dead), (46, .dead), (47, .dead), (48, .dead), (63, .dead)], [(0, .p [p5322, p5323])], 1, []⟩) ?_ ?_
  · refine Wp_block ?_
    refine Wp_loopG (fun n s => ∃ x5330, m34_L0 N p5322 p5323 n5325 c5326 n5328 c5329 n x5330 = some o5418 ∧ s = ⟨[], [(0, .dead), (1, .v (.lst false n5325 c5326)), (2, .v (.lst false n5328 c5329)), (3, .ptr 0 0), (6, .dead), (7, .dead), (9, .dead), (10, .dead), (12, .dead), (15, .sl true 1 0 2 1), (16, .v (.int .i64 2)), (17, .v (.int .i64 x5330)), (18, .dead), (25, .dead), (28, .dead), (39, .dead), (45, .dead), (46, .dead), (47, .dead), (48, .dead), (63, .dead)], [(0, .p [p5322, p5323]), (1, .p [(.lst false n5325 c5326), (.lst false n5328 c5329)])], 2, []⟩) N _ ((Wk_le (.k (.r (.r (.r (.k (.k (.r (.r (.r (.r (.r (.r (.r (.r (.r (.r (.r (.r (.r (.r (.r .nil))))))))))))))))))))) (OLe.refl _)).trans (cmpS_ok (st' := ⟨[], [(0, .dead), (1, .v (.lst false n5325 c5326)), (2, .v (.lst false n5328 c5329)), (3, .ptr 0 0), (6, .dead), (7, .dead), (9, .dead), (10, .dead), (12, .dead), (15, .sl true 1 0 2 1), (16, .v (.int .i64 2)), (17, .v (.int .i64 0)), (18, .dead), (25, .dead), (28, .dead), (39, .dead), (45, .dead), (46, .dead), (47, .dead), (48, .dead), (63, .dead)], [(0, .p [p5322, p5323]), (1, .p [(.lst false n5325 c5326), (.lst false n5328 c5329)])], 2, []⟩) (by kernel_rfl))) ⟨_, h5419, rfl⟩ ?_
    clear h5419
    rintro n _ ⟨x5330, h5419, rfl⟩
    cases n with
    | zero => cases h5419
    | succ n =>
      rw [m34_L0] at h5419
      have hh := brn_some h5419; clear h5419; rcases hh with ⟨h5331, h5419⟩ | ⟨h5331, h5419⟩
      · have hh := grd_some h5419; clear h5419; obtain ⟨⟨g5332, g5333⟩, h5419⟩ := hh
        have hh := grd_some h5419; clear h5419; obtain ⟨g5334, h5419⟩ := hh
        have hh := getL_some h5419; clear h5419; obtain ⟨n5336, c5337, h5335, h5419⟩ := hh
        have hh := bnd'_some h5419; clear h5419; obtain ⟨p5338, h5339, h5419⟩ := hh
        refine W_sound tab_ok mixed 19 _ _ _ ?_
        simp -implicitDefEqProofs only [go_sem, qa, qb, qc, qd, qe, qf, qg, qh, qi, qj, qk, ↓reduceIte, h5321, h5324, h5327, h5331, g5332, g5333, g5334, h5335]
        repeat with_reducible refine And.intro (by first | kernel_rfl | decide) ?_
        refine Wp_callP (c63 N _ _ _ h5339) (by kernel_rfl) rfl rfl rfl rfl (by decide) ?_
        have hh := getI_some h5419; clear h5419; obtain ⟨x5341, h5340, h5419⟩ := hh
        have hh := brn_some h5419; clear h5419; rcases hh with ⟨h5342, h5419⟩ | ⟨h5342, h5419⟩
        · refine W_sound tab_ok mixed 16 _ _ _ ?_
          simp -implicitDefEqProofs only [go_sem, qa, qb, qc, qd, qe, qf, qg, qh, qi, qj, qk, ↓reduceIte, h5321, h5324, h5327, h5331, g5332, g5333, g5334, h5335, h5340, h5342]
          repeat with_reducible refine And.intro (by first | kernel_rfl | decide) ?_
          obtain rfl := Option.some.inj h5419
          (try dsimp only at h5420)
          obtain rfl := Option.some.inj h5420
          exact finC [(6, .v (.int .i64 0)), (7, .v (.int .i64 x5341))] [(6, .v (.int .i64 0)), (7, .v (.int .i64 x5341))] (by simp [leE, lk_cons]) (.cons _ _ _ _ _ (.v _ _ (.refl _)) (.cons _ _ _ _ _ (.v _ _ (.refl _)) .nil)) (by rfl) (by simp [leE, lk_cons]) (by decide) (by decide) rfl (by simp only [go_sem, qa, qb, qc, qd, qe, qf, qg, qh, qi, qj, qk, ↓reduceIte, resQ_tmp, resQ_cell, resQ_nil, retD_one, retD_two, retD_three, retD_none]; try simp [R.val, retD_one, retD_two, retD_three, retD_none])
        · refine W_sound tab_ok mixed 14 _ _ _ ?_
          simp -implicitDefEqProofs only [go_sem, qa, qb, qc, qd, qe, qf, qg, qh, qi, qj, qk, ↓reduceIte, h5321, h5324, h5327, h5331, g5332, g5333, g5334, h5335, h5340, h5342]
          repeat with_reducible refine And.intro (by first | kernel_rfl | decide) ?_
          exact cutQ _ ((Wk_le (.r (.r (.r (.r (.r (.r (.k (.k (.r (.r (.r (.r (.k (.k (.r (.r (.r (.r (.r (.r (.r .nil))))))))))))))))))))) (OLe.refl _)).trans (cmpS_ok (st' := ⟨[], [(0, .dead), (1, .v (.lst false n5325 c5326)), (2, .v (.lst false n5328 c5329)), (3, .ptr 0 0), (6, .dead), (7, .dead), (9, .dead), (10, .dead), (12, .dead), (15, .sl true 1 0 2 1), (16, .v (.int .i64 2)), (17, .v (.int .i64 (IntKind.i64.wrap (x5330 + 1)))), (18, .dead), (25, .dead), (28, .dead), (39, .dead), (45, .dead), (46, .dead), (47, .dead), (48, .dead), (63, .dead)], [(0, .p [p5322, p5323]), (1, .p [(.lst false n5325 c5326), (.lst false n5328 c5329)])], 2, []⟩) (by kernel_rfl))) ⟨n, Nat.lt_succ_self n, _, h5419, rfl⟩
      · refine W_sound tab_ok mixed 7 _ _ _ ?_
        simp -implicitDefEqProofs only [go_sem, qa, qb, qc, qd, qe, qf, qg, qh, qi, qj, qk, ↓reduceIte, h5321, h5324, h5327, h5331]
        repeat with_reducible refine And.intro (by first | kernel_rfl | decide) ?_
        obtain rfl := Option.some.inj h5419
        exact cutQ _ ((Wk_le (.r (.r (.r (.r (.r (.r (.r (.r (.r (.k (.k (.k (.k (.r (.r (.r (.r (.r (.r (.r (.r .nil))))))))))))))))))))) (OLe.refl _)).trans (cmpS_ok (st' := ⟨[], [(0, .dead), (1, .v (.lst false n5325 c5326)), (2, .v (.lst false n5328 c5329)), (3, .ptr 0 0), (6, .dead), (7, .dead), (9, .dead), (10, .dead), (12, .dead), (15, .dead), (16, .dead), (17, .dead), (18, .dead), (25, .dead), (28, .dead), (39, .dead), (45, .dead), (46, .dead), (47, .dead), (48, .dead), (63, .dead)], [(0, .p [p5322, p5323])], 1, []⟩) (by kernel_rfl))) ⟨rfl, rfl⟩
  · rintro _ ⟨rfl, rfl⟩
    (try dsimp only at h5420)
    have hh := bnd'_some h5420; clear h5420; obtain ⟨p5344, h5345, h5420⟩ := hh
    refine W_sound tab_ok mixed 6 _ _ _ ?_
    simp -implicitDefEqProofs only [go_sem, qa, qb, qc, qd, qe, qf, qg, qh, qi, qj, qk, ↓reduceIte, h5321, h5324, h5327]
    repeat with_reducible refine And.intro (by first | kernel_rfl | decide) ?_
    refine Wp_callP (c82 N _ _ _ h5345) (by kernel_rfl) rfl rfl rfl rfl (by decide) ?_
    have hh := getB_some h5420; clear h5420; obtain ⟨b5347, h5346, h5420⟩ := hh
    have hh := brn_some h5420; clear h5420; rcases hh with ⟨h5348, h5420⟩ | ⟨h5348, h5420⟩
    · have hh := bnd'_some h5420; clear h5420; obtain ⟨p5349, h5350, h5420⟩ := hh
      refine W_sound tab_ok mixed 4 _ _ _ ?_
      simp -implicitDefEqProofs only [go_sem, qa, qb, qc, qd, qe, qf, qg, qh, qi, qj, qk, ↓reduceIte, h5321, h5324, h5327, h5346, h5348]
      repeat with_reducible refine And.intro (by first | kernel_rfl | decide) ?_
      refine Wp_callP (c82 N _ _ _ h5350) (by kernel_rfl) rfl rfl rfl rfl (by decide) ?_
      have hh := getB_some h5420; clear h5420; obtain ⟨b5352, h5351, h5420⟩ := hh
      have hh := brn_some h5420; clear h5420; rcases hh with ⟨h5353, h5420⟩ | ⟨h5353, h5420⟩
      · have hh := brn_some h5420; clear h5420; rcases hh with ⟨h5354, h5420⟩ | ⟨h5354, h5420⟩
        · refine W_sound tab_ok mixed 22 _ _ _ ?_
          simp -implicitDefEqProofs only [go_sem, qa, qb, qc, qd, qe, qf, qg, qh, qi, qj, qk, ↓reduceIte, h5321, h5324, h5327, h5346, h5348, h5351, h5353, h5354]
          repeat with_reducible refine And.intro (by first | kernel_rfl | decide) ?_
          obtain rfl := Option.some.inj h5420
          exact finC [(6, .v (.int .i64 0)), (7, .v (.int .i64 5))] [(6, .v (.int .i64 0)), (7, .v (.int .i64 5))] (by simp [leE, lk_cons]) (.cons _ _ _ _ _ (.v _ _ (.refl _)) (.cons _ _ _ _ _ (.v _ _ (.refl _)) .nil)) (by rfl) (by simp [leE, lk_cons]) (by decide) (by decide) rfl (by simp only [go_sem, qa, qb, qc, qd, qe, qf, qg, qh, qi, qj, qk, ↓reduceIte, resQ_tmp, resQ_cell, resQ_nil, retD_one, retD_two, retD_three, retD_none]; try simp [R.val, retD_one, retD_two, retD_three, retD_none])
        · refine W_sound tab_ok mixed 24 _ _ _ ?_
          simp -implicitDefEqProofs only [go_sem, qa, qb, qc, qd, qe, qf, qg, qh, qi, qj, qk, ↓reduceIte, h5321, h5324, h5327, h5346, h5348, h5351, h5353, h5354]
          repeat with_reducible refine And.intro (by first | kernel_rfl | decide) ?_
          have hh := bnd'_some h5420; clear h5420; obtain ⟨o5421, h5422, h5423⟩ := hh
          refine Wp_cut (fun s => (.inr ()) = o5421 ∧ s = ⟨[], [(0, .dead), (1, .dead), (2, .dead), (3, .dead), (6, .dead), (7, .dead), (9, .dead), (10, .dead), (12, .dead), (15, .dead), (16, .dead), (17, .dead), (18, .dead), (25, .dead), (28, .dead), (39, .dead), (45, .dead), (46, .dead), (47, .dead), (48, .dead), (63, .dead)], [], 0, []⟩) ?_ ?_
          · refine Wp_block ?_
            refine Wp_loopG (fun n s => ∃ x5355, m34_L1 N p5322 p5323 n5325 c5326 n5328 c5329 n x5355 = some o5421 ∧ s = ⟨[], [(0, .dead), (1, .v (.lst false n5325 c5326)), (2, .dead), (3, .ptr 0 0), (6, .dead), (7, .dead), (9, .dead), (10, .dead), (12, .dead), (15, .dead), (16, .dead), (17, .dead), (18, .dead), (25, .dead), (28, .dead), (39, .dead), (45, .v (.lst false n5328 c5329)), (46, .v (.int .i64 ((n5328 : Nat) : Int))), (47, .v (.int .i64 x5355)), (48, .dead), (63, .dead)], [(0, .p [p5322, p5323])], 1, []⟩) N _ ((Wk_le (.r (.r (.k (.r (.r (.r (.r (.r (.r (.r (.r (.r (.r (.r (.k (.k (.r (.r (.r (.r (.r .nil))))))))))))))))))))) (OLe.refl _)).trans (cmpS_ok (st' := ⟨[], [(0, .dead), (1, .v (.lst false n5325 c5326)), (2, .dead), (3, .ptr 0 0), (6, .dead), (7, .dead), (9, .dead), (10, .dead), (12, .dead), (15, .dead), (16, .dead), (17, .dead), (18, .dead), (25, .dead), (28, .dead), (39, .dead), (45, .v (.lst false n5328 c5329)), (46, .v (.int .i64 ((n5328 : Nat) : Int))), (47, .v (.int .i64 0)), (48, .dead), (63, .dead)], [(0, .p [p5322, p5323])], 1, []⟩) (by kernel_rfl))) ⟨_, h5422, rfl⟩ ?_
            clear h5422
            rintro n _ ⟨x5355, h5422, rfl⟩
            cases n with
            | zero => cases h5422
            | succ n =>
              rw [m34_L1] at h5422
              have hh := brn_some h5422; clear h5422; rcases hh with ⟨h5356, h5422⟩ | ⟨h5356, h5422⟩
              · have hh := grd_some h5422; clear h5422; obtain ⟨⟨g5357, g5358⟩, h5422⟩ := hh
                have hh := grd_some h5422; clear h5422; obtain ⟨g5359, h5422⟩ := hh
                have hh := getI_some h5422; clear h5422; obtain ⟨x5361, h5360, h5422⟩ := hh
                have hh := bnd'_some h5422; clear h5422; obtain ⟨p5388, h5389, h5422⟩ := hh
                refine W_sound tab_ok mixed 19 _ _ _ ?_
                simp -implicitDefEqProofs only [go_sem, qa, qb, qc, qd, qe, qf, qg, qh, qi, qj, qk, ↓reduceIte, h5321, h5324, h5327, h5346, h5348, h5351, h5353, h5354, h5356, g5357, g5358, g5359, h5360]
                repeat with_reducible refine And.intro (by first | kernel_rfl | decide) ?_
                refine Wp_callP (c84 N _ _ _ h5389) (by kernel_rfl) rfl rfl rfl rfl (by decide) ?_
                have hh := getB_some h5422; clear h5422; obtain ⟨b5391, h5390, h5422⟩ := hh
                have hh := brn_some h5422; clear h5422; rcases hh with ⟨h5392, h5422⟩ | ⟨h5392, h5422⟩
                · refine W_sound tab_ok mixed 18 _ _ _ ?_
                  simp -implicitDefEqProofs only [go_sem, qa, qb, qc, qd, qe, qf, qg, qh, qi, qj, qk, ↓reduceIte, h5321, h5324, h5327, h5346, h5348, h5351, h5353, h5354, h5356, g5357, g5358, g5359, h5360, h5390, h5392]
                  repeat with_reducible refine And.intro (by first | kernel_rfl | decide) ?_
                  exact cutQ _ ((Wk_le (.r (.r (.r (.r (.r (.r (.r (.r (.k (.r (.r (.r (.r (.r (.r (.r (.r (.r (.r (.k (.k .nil))))))))))))))))))))) (OLe.refl _)).trans (cmpS_ok (st' := ⟨[], [(0, .dead), (1, .v (.lst false n5325 c5326)), (2, .dead), (3, .ptr 0 0), (6, .dead), (7, .dead), (9, .dead), (10, .dead), (12, .dead), (15, .dead), (16, .dead), (17, .dead), (18, .dead), (25, .dead), (28, .dead), (39, .dead), (45, .v (.lst false n5328 c5329)), (46, .v (.int .i64 ((n5328 : Nat) : Int))), (47, .v (.int .i64 (IntKind.i64.wrap (x5355 + 1)))), (48, .dead), (63, .dead)], [(0, .p [p5322, p5323])], 1, []⟩) (by kernel_rfl))) ⟨n, Nat.lt_succ_self n, _, h5422, rfl⟩
                · have hh := brn_some h5422; clear h5422; rcases hh with ⟨h5393, h5422⟩ | ⟨h5393, h5422⟩
                  · have hh := bnd'_some h5422; clear h5422; obtain ⟨⟨n5401, c5402⟩, h5403, h5422⟩ := hh
                    (try dsimp only at h5422)
                    refine W_sound tab_ok mixed 4 _ _ _ ?_
                    simp -implicitDefEqProofs only [go_sem, qa, qb, qc, qd, qe, qf, qg, qh, qi, qj, qk, ↓reduceIte, h5321, h5324, h5327, h5346, h5348, h5351, h5353, h5354, h5356, g5357, g5358, g5359, h5360, h5390, h5392, h5393]
                    repeat with_reducible refine And.intro (by first | kernel_rfl | decide) ?_
                    refine Wp_callD [] (c44 N _ _ _ h5403) rfl rfl rfl (by first | rfl | (simp only [go_sem, qa, qb, qc, qd, qe, qf, qg, qh, qi, qj, qk, ↓reduceIte, h5321, h5324, h5327, h5346, h5348, h5351, h5353, h5354, h5356, g5357, g5358, g5359, h5360, h5390, h5392, h5393] <;> rfl)) rfl (by kernel_rfl) ?_
                    have hh := grd_some h5422; clear h5422; obtain ⟨g5404, h5422⟩ := hh
                    have hh := grd_some h5422; clear h5422; obtain ⟨g5405, h5422⟩ := hh
                    have hh := bnd'_some h5422; clear h5422; obtain ⟨p5406, h5407, h5422⟩ := hh
                    refine W_sound tab_ok mixed 3 _ _ _ ?_
                    simp -implicitDefEqProofs only [go_sem, qa, qb, qc, qd, qe, qf, qg, qh, qi, qj, qk, ↓reduceIte, h5321, h5324, h5327, h5346, h5348, h5351, h5353, h5354, h5356, g5357, g5358, g5359, h5360, h5390, h5392, h5393, g5404, g5405]
                    repeat with_reducible refine And.intro (by first | kernel_rfl | decide) ?_
                    refine Wp_callF [(62, (c5402 ++ [(.int .i64 x5361)]))] (c82 N _ _ _ h5407) (by kernel_rfl) rfl rfl rfl (by simp only [go_sem, qa, qb, qc, qd, qe, qf, qg, qh, qi, qj, qk, ↓reduceIte, h5321, h5324, h5327, h5346, h5348, h5351, h5353, h5354, h5356, g5357, g5358, g5359, h5360, h5390, h5392, h5393, g5404, g5405] <;> rfl) (by decide) rfl (by simp [roF, obL]) rfl ?_
                    have hh := getB_some h5422; clear h5422; obtain ⟨b5409, h5408, h5422⟩ := hh
                    have hh := brn_some h5422; clear h5422; rcases hh with ⟨h5410, h5422⟩ | ⟨h5410, h5422⟩
                    · refine W_sound tab_ok mixed 11 _ _ _ ?_
                      simp -implicitDefEqProofs only [go_sem, qa, qb, qc, qd, qe, qf, qg, qh, qi, qj, qk, ↓reduceIte, h5321, h5324, h5327, h5346, h5348, h5351, h5353, h5354, h5356, g5357, g5358, g5359, h5360, h5390, h5392, h5393, g5404, g5405, h5408, h5410]
                      repeat with_reducible refine And.intro (by first | kernel_rfl | decide) ?_
                      obtain rfl := Option.some.inj h5422
                      (try dsimp only at h5423)
                      obtain rfl := Option.some.inj h5423
                      exact finC [(6, .v (.int .i64 x5361)), (7, .v (.int .i64 0))] [(6, .v (.int .i64 x5361)), (7, .v (.int .i64 0))] (by simp [leE, lk_cons]) (.cons _ _ _ _ _ (.v _ _ (.refl _)) (.cons _ _ _ _ _ (.v _ _ (.refl _)) .nil)) (by rfl) (by simp [leE, lk_cons]) (by decide) (by decide) rfl (by simp only [go_sem, qa, qb, qc, qd, qe, qf, qg, qh, qi, qj, qk, ↓reduceIte, resQ_tmp, resQ_cell, resQ_nil, retD_one, retD_two, retD_three, retD_none]; try simp [R.val, retD_one, retD_two, retD_three, retD_none])
                    · refine W_sound tab_ok mixed 9 _ _ _ ?_
                      simp -implicitDefEqProofs only [go_sem, qa, qb, qc, qd, qe, qf, qg, qh, qi, qj, qk, ↓reduceIte, h5321, h5324, h5327, h5346, h5348, h5351, h5353, h5354, h5356, g5357, g5358, g5359, h5360, h5390, h5392, h5393, g5404, g5405, h5408, h5410]
                      repeat with_reducible refine And.intro (by first | kernel_rfl | decide) ?_
                      exact cutQ _ ((Wk_le (.r (.r (.r (.r (.r (.r (.r (.r (.k (.r (.r (.r (.r (.r (.r (.r (.r (.r (.r (.k (.k .nil))))))))))))))))))))) (OLe.refl _)).trans (cmpS_ok (st' := ⟨[], [(0, .dead), (1, .v (.lst false n5325 c5326)), (2, .dead), (3, .ptr 0 0), (6, .dead), (7, .dead), (9, .dead), (10, .dead), (12, .dead), (15, .dead), (16, .dead), (17, .dead), (18, .dead), (25, .dead), (28, .dead), (39, .dead), (45, .v (.lst false n5328 c5329)), (46, .v (.int .i64 ((n5328 : Nat) : Int))), (47, .v (.int .i64 (IntKind.i64.wrap (x5355 + 1)))), (48, .dead), (63, .dead)], [(0, .p [p5322, p5323])], 1, []⟩) (by kernel_rfl))) ⟨n, Nat.lt_succ_self n, _, h5422, rfl⟩
                  · have hh := grd_some h5422; clear h5422; obtain ⟨g5411, h5422⟩ := hh
                    refine W_sound tab_ok mixed 4 _ _ _ ?_
                    simp -implicitDefEqProofs only [go_sem, qa, qb, qc, qd, qe, qf, qg, qh, qi, qj, qk, ↓reduceIte, h5321, h5324, h5327, h5346, h5348, h5351, h5353, h5354, h5356, g5357, g5358, g5359, h5360, h5390, h5392, h5393, g5411]
                    repeat with_reducible refine And.intro (by first | kernel_rfl | decide) ?_
                    refine Wp_callP (e44' h5393 (by first | assumption | simp)) (by kernel_rfl) rfl rfl rfl rfl (by decide) ?_
                    have hh := bnd'_some h5422; clear h5422; obtain ⟨p5412, h5413, h5422⟩ := hh
                    refine W_sound tab_ok mixed 3 _ _ _ ?_
                    simp -implicitDefEqProofs only [go_sem, qa, qb, qc, qd, qe, qf, qg, qh, qi, qj, qk, ↓reduceIte, h5321, h5324, h5327, h5346, h5348, h5351, h5353, h5354, h5356, g5357, g5358, g5359, h5360, h5390, h5392, h5393, g5411]
                    repeat with_reducible refine And.intro (by first | kernel_rfl | decide) ?_
                    refine Wp_callF [(62, [(.int .i64 x5361)])] (c82 N _ _ _ h5413) (by kernel_rfl) rfl rfl rfl (by simp only [go_sem, qa, qb, qc, qd, qe, qf, qg, qh, qi, qj, qk, ↓reduceIte, h5321, h5324, h5327, h5346, h5348, h5351, h5353, h5354, h5356, g5357, g5358, g5359, h5360, h5390, h5392, h5393, g5411] <;> rfl) (by decide) rfl (by simp [roF, obL]) rfl ?_
                    have hh := getB_some h5422; clear h5422; obtain ⟨b5415, h5414, h5422⟩ := hh
                    have hh := brn_some h5422; clear h5422; rcases hh with ⟨h5416, h5422⟩ | ⟨h5416, h5422⟩
                    · refine W_sound tab_ok mixed 11 _ _ _ ?_
                      simp -implicitDefEqProofs only [go_sem, qa, qb, qc, qd, qe, qf, qg, qh, qi, qj, qk, ↓reduceIte, h5321, h5324, h5327, h5346, h5348, h5351, h5353, h5354, h5356, g5357, g5358, g5359, h5360, h5390, h5392, h5393, g5411, h5414, h5416]
                      repeat with_reducible refine And.intro (by first | kernel_rfl | decide) ?_
                      obtain rfl := Option.some.inj h5422
                      (try dsimp only at h5423)
                      obtain rfl := Option.some.inj h5423
                      exact finC [(6, .v (.int .i64 x5361)), (7, .v (.int .i64 0))] [(6, .v (.int .i64 x5361)), (7, .v (.int .i64 0))] (by simp [leE, lk_cons]) (.cons _ _ _ _ _ (.v _ _ (.refl _)) (.cons _ _ _ _ _ (.v _ _ (.refl _)) .nil)) (by rfl) (by simp [leE, lk_cons]) (by decide) (by decide) rfl (by simp only [go_sem, qa, qb, qc, qd, qe, qf, qg, qh, qi, qj, qk, ↓reduceIte, resQ_tmp, resQ_cell, resQ_nil, retD_one, retD_two, retD_three, retD_none]; try simp [R.val, retD_one, retD_two, retD_three, retD_none])
                    · refine W_sound tab_ok mixed 9 _ _ _ ?_
                      simp -implicitDefEqProofs only [go_sem, qa, qb, qc, qd, qe, qf, qg, qh, qi, qj, qk, ↓reduceIte, h5321, h5324, h5327, h5346, h5348, h5351, h5353, h5354, h5356, g5357, g5358, g5359, h5360, h5390, h5392, h5393, g5411, h5414, h5416]
                      repeat with_reducible refine And.intro (by first | kernel_rfl | decide) ?_
                      exact cutQ _ ((Wk_le (.r (.r (.r (.r (.r (.r (.r (.r (.k (.r (.r (.r (.r (.r (.r (.r (.r (.r (.r (.k (.k .nil))))))))))))))))))))) (OLe.refl _)).trans (cmpS_ok (st' := ⟨[], [(0, .dead), (1, .v (.lst false n5325 c5326)), (2, .dead), (3, .ptr 0 0), (6, .dead), (7, .dead), (9, .dead), (10, .dead), (12, .dead), (15, .dead), (16, .dead), (17, .dead), (18, .dead), (25, .dead), (28, .dead), (39, .dead), (45, .v (.lst false n5328 c5329)), (46, .v (.int .i64 ((n5328 : Nat) : Int))), (47, .v (.int .i64 (IntKind.i64.wrap (x5355 + 1)))), (48, .dead), (63, .dead)], [(0, .p [p5322, p5323])], 1, []⟩) (by kernel_rfl))) ⟨n, Nat.lt_succ_self n, _, h5422, rfl⟩
              · refine W_sound tab_ok mixed 7 _ _ _ ?_
                simp -implicitDefEqProofs only [go_sem, qa, qb, qc, qd, qe, qf, qg, qh, qi, qj, qk, ↓reduceIte, h5321, h5324, h5327, h5346, h5348, h5351, h5353, h5354, h5356]
                repeat with_reducible refine And.intro (by first | kernel_rfl | decide) ?_
                obtain rfl := Option.some.inj h5422
                exact cutQ _ ((Wk_le (.r (.k (.r (.k (.r (.r (.r (.r (.r (.r (.r (.r (.r (.r (.r (.r (.k (.k (.k (.k (.r .nil))))))))))))))))))))) (OLe.refl _)).trans (cmpS_ok (st' := ⟨[], [(0, .dead), (1, .dead), (2, .dead), (3, .dead), (6, .dead), (7, .dead), (9, .dead), (10, .dead), (12, .dead), (15, .dead), (16, .dead), (17, .dead), (18, .dead), (25, .dead), (28, .dead), (39, .dead), (45, .dead), (46, .dead), (47, .dead), (48, .dead), (63, .dead)], [], 0, []⟩) (by kernel_rfl))) ⟨rfl, rfl⟩
          · rintro _ ⟨rfl, rfl⟩
            (try dsimp only at h5423)
            refine W_sound tab_ok mixed 7 _ _ _ ?_
            simp -implicitDefEqProofs only [go_sem, qa, qb, qc, qd, qe, qf, qg, qh, qi, qj, qk, ↓reduceIte, h5321, h5324, h5327, h5346, h5348, h5351, h5353, h5354]
            repeat with_reducible refine And.intro (by first | kernel_rfl | decide) ?_
            obtain rfl := Option.some.inj h5423
            exact finC [(6, .v (.int .i64 0)), (7, .v (.int .i64 14))] [(6, .v (.int .i64 0)), (7, .v (.int .i64 14))] (by simp [leE, lk_cons]) (.cons _ _ _ _ _ (.v _ _ (.refl _)) (.cons _ _ _ _ _ (.v _ _ (.refl _)) .nil)) (by rfl) (by simp [leE, lk_cons]) (by decide) (by decide) rfl (by simp only [go_sem, qa, qb, qc, qd, qe, qf, qg, qh, qi, qj, qk, ↓reduceIte, resQ_tmp, resQ_cell, resQ_nil, retD_one, retD_two, retD_three, retD_none]; try simp [R.val, retD_one, retD_two, retD_three, retD_none])
      · refine W_sound tab_ok mixed 12 _ _ _ ?_
        simp -implicitDefEqProofs only [go_sem, qa, qb, qc, qd, qe, qf, qg, qh, qi, qj, qk, ↓reduceIte, h5321, h5324, h5327, h5346, h5348, h5351, h5353]
        repeat with_reducible refine And.intro (by first | kernel_rfl | decide) ?_
        obtain rfl := Option.some.inj h5420
        exact finC [(6, .v (.int .i64 0)), (7, .v (.int .i64 12))] [(6, .v (.int .i64 0)), (7, .v (.int .i64 12))] (by simp [leE, lk_cons]) (.cons _ _ _ _ _ (.v _ _ (.refl _)) (.cons _ _ _ _ _ (.v _ _ (.refl _)) .nil)) (by rfl) (by simp [leE, lk_cons]) (by decide) (by decide) rfl (by simp only [go_sem, qa, qb, qc, qd, qe, qf, qg, qh, qi, qj, qk, ↓reduceIte, resQ_tmp, resQ_cell, resQ_nil, retD_one, retD_two, retD_three, retD_none]; try simp [R.val, retD_one, retD_two, retD_three, retD_none])
    · refine W_sound tab_ok mixed 17 _ _ _ ?_
      simp -implicitDefEqProofs only [go_sem, qa, qb, qc, qd, qe, qf, qg, qh, qi, qj, qk, ↓reduceIte, h5321, h5324, h5327, h5346, h5348]
      repeat with_reducible refine And.intro (by first | kernel_rfl | decide) ?_
      obtain rfl := Option.some.inj h5420
      exact finC [(6, .v (.int .i64 0)), (7, .v (.int .i64 12))] [(6, .v (.int .i64 0)), (7, .v (.int .i64 12))] (by simp [leE, lk_cons]) (.cons _ _ _ _ _ (.v _ _ (.refl _)) (.cons _ _ _ _ _ (.v _ _ (.refl _)) .nil)) (by rfl) (by simp [leE, lk_cons]) (by decide) (by decide) rfl (by simp only [go_sem, qa, qb, qc, qd, qe, qf, qg, qh, qi, qj, qk, ↓reduceIte, resQ_tmp, resQ_cell, resQ_nil, retD_one, retD_two, retD_three, retD_none]; try simp [R.val, retD_one, retD_two, retD_three, retD_none])

end Go.Proofs.YtnponojgpkbagaaDoor
