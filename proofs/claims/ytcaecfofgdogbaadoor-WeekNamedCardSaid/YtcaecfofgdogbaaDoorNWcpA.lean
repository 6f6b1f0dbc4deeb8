/-
  Models and laws.
-/
import Derived.Test.YtcaecfofgdogbaaDoorNK3
import Derived.Test.YtcaecfofgdogbaaDoorNV39
import Derived.Test.YtcaecfofgdogbaaDoorNV36
set_option linter.unusedSimpArgs false
set_option linter.unusedVariables false
namespace Go.Proofs.YtcaecfofgdogbaaDoor
open Go.V
open Nat renaming reduceBEq → qa, reduceAdd → qb, reduceSub → qc, reduceMul → qd, reduceLT → qe, reduceLeDiff → qf
open Int renaming reduceLE → qg, reduceLT → qh, reduceToNat → qi, reduceBEq → qj, reduceBNe → qk
set_option maxRecDepth 100000
set_option maxHeartbeats 4000000
set_option linter.unusedSimpArgs false
set_option linter.unusedVariables false
attribute [local go_sem] tl1 tl2 tl3 tl4 tl5 tl9 tl17 tl21 tl22 tl23 tl24 tl25 tl27 tl28 tl30 tl31 tl32 tl33 tl35 tl36 tl37 tl38 tl39 tl40 tl42 tl43 tl44 tl45 tl46 tl47 tl48 tl49 tl50 tl51 tl52 tl53 tl54 tl55 tl56 tl57 tl58 tl59 tl61 tl62 tl63 tl64 tl65 tl66 tl67 tl68 tl69 tl70 tl71 tl72 tl73 tl74 tl75 tl76 tl77 tl78 tl79 tl80 tl81 tl82 tl83 tl84 tl85 tl87 tl89 tl90 tl91 tl92 tl93 tl94 tl96 tl97 tl98 tl99 tl100 tl101 tl102 tl103 tl104 tl105 tl106 tl107 tl108 tl109 tl115 tl119
def gv1 : List PV := (glk Gv 1).getD []
@[local go_sem] theorem ev_gv1 (get : Nat → D) : evG get (.global 1) = .v (.ipt gv1) := rfl
def m71_L1 (N : Nat) (x111 : Int) : Nat → Int → List PV → Option (List PV)
  | 0, _, _ => none
  | n + 1, x121, c122 =>
    brn (decide (x121 < 5)) (
      grd (0 ≤ x111 ∧ x111 < 5) <|
      grd (0 ≤ x121 ∧ x121 < 5) <|
      grd ((((1 + ((Int.toNat x111) * 5)) + (Int.toNat x121)) + 1) ≤ List.length c122) <|
      m71_L1 N x111 n (IntKind.i64.wrap (x121 + 1)) (List.set c122 ((1 + ((Int.toNat x111) * 5)) + (Int.toNat x121)) (.int .i64 (-1)))) (
      some c122)
def m71_L0 (N : Nat)  : Nat → Int → List PV → Option (List PV)
  | 0, _, _ => none
  | n + 1, x111, c112 =>
    brn (decide (x111 < 5)) (
      bnd' (m71_L1 N x111 N 0 c112) fun c129 =>
      m71_L0 N  n (IntKind.i64.wrap (x111 + 1)) c129) (
      some c112)
def m71 (N : Nat) (x92 : Int) : Option (List PV) :=
  bnd' (m71_L0 N  N 0 [(.int .i64 x92), (.int .i64 0), (.int .i64 0), (.int .i64 0), (.int .i64 0), (.int .i64 0), (.int .i64 0), (.int .i64 0), (.int .i64 0), (.int .i64 0), (.int .i64 0), (.int .i64 0), (.int .i64 0), (.int .i64 0), (.int .i64 0), (.int .i64 0), (.int .i64 0), (.int .i64 0), (.int .i64 0), (.int .i64 0), (.int .i64 0), (.int .i64 0), (.int .i64 0), (.int .i64 0), (.int .i64 0), (.int .i64 0), (.int .u64 0), (.int .u64 0), (.int .u64 0), (.int .u64 0), (.int .u64 0), (.int .u64 0), (.int .u64 0), (.int .u64 0), (.int .u64 0), (.int .u64 0)]) fun c130 =>
  some c130
theorem c71 (N : Nat) (x92 : Int) (r : List PV)  (h : m71 N x92 = some r) : V.Fn Tryd.prog 71 0 [.v (.int .i64 x92)] [] (fun d ob' => match (generalizing := false) r with | c131 => d = .ptr 0 0 ∧ ob' = [(0, .p c131)]) := by
  unfold m71 at h
  refine Fn_of (sz := 25) tab_ok [0, 2, 3, 4, 5, 9, 10, 12, 13] [.tmp 2] Tryd.func71 rfl rfl rfl (by simp) ?_
  simp only [initSt, initEnv, List.map_cons, List.map_nil, List.getD_cons_zero, List.getD_cons_succ, List.getD_nil]
  refine W_sound tab_ok mixed 16 _ _ _ ?_
  simp -implicitDefEqProofs only [go_sem, qa, qb, qc, qd, qe, qf, qg, qh, qi, qj, qk, ↓reduceIte]
  repeat with_reducible refine ⟨by first | kernel_rfl | decide, ?_⟩
  have hh := bnd'_some h; clear h; obtain ⟨o132, h133, h134⟩ := hh
  refine Wp_cut (fun s => ∃ c130, c130 = o132 ∧ s = ⟨[], [(0, .dead), (2, .dead), (3, .ptr 0 0), (4, .dead), (5, .dead), (9, .dead), (10, .dead), (12, .dead), (13, .dead)], [(0, .p c130)], 1, []⟩) ?_ ?_
  · refine Wp_block ?_
    refine Wp_loopG (fun n s => ∃ x111, ∃ c112, m71_L0 N  n x111 c112 = some o132 ∧ s = ⟨[], [(0, .dead), (2, .dead), (3, .ptr 0 0), (4, .dead), (5, .dead), (9, .v (.int .i64 x111)), (10, .dead), (12, .dead), (13, .dead)], [(0, .p c112)], 1, []⟩) N _ ((Wk_le (.k (.k (.r (.r (.r (.r (.r (.r (.r .nil))))))))) (OLe.refl _)).trans (cmpS_ok (st' := ⟨[], [(0, .dead), (2, .dead), (3, .ptr 0 0), (4, .dead), (5, .dead), (9, .v (.int .i64 0)), (10, .dead), (12, .dead), (13, .dead)], [(0, .p [(.int .i64 x92), (.int .i64 0), (.int .i64 0), (.int .i64 0), (.int .i64 0), (.int .i64 0), (.int .i64 0), (.int .i64 0), (.int .i64 0), (.int .i64 0), (.int .i64 0), (.int .i64 0), (.int .i64 0), (.int .i64 0), (.int .i64 0), (.int .i64 0), (.int .i64 0), (.int .i64 0), (.int .i64 0), (.int .i64 0), (.int .i64 0), (.int .i64 0), (.int .i64 0), (.int .i64 0), (.int .i64 0), (.int .i64 0), (.int .u64 0), (.int .u64 0), (.int .u64 0), (.int .u64 0), (.int .u64 0), (.int .u64 0), (.int .u64 0), (.int .u64 0), (.int .u64 0), (.int .u64 0)])], 1, []⟩) (by kernel_rfl))) ⟨_, _, h133, rfl⟩ ?_
    clear h133
    rintro n _ ⟨x111, c112, h133, rfl⟩
    cases n with
    | zero => cases h133
    | succ n =>
      rw [m71_L0] at h133
      have hh := brn_some h133; clear h133; rcases hh with ⟨h113, h133⟩ | ⟨h113, h133⟩
      · refine W_sound tab_ok mixed 18 _ _ _ ?_
        simp -implicitDefEqProofs only [go_sem, qa, qb, qc, qd, qe, qf, qg, qh, qi, qj, qk, ↓reduceIte, h113]
        repeat with_reducible refine ⟨by first | kernel_rfl | decide, ?_⟩
        have hh := bnd'_some h133; clear h133; obtain ⟨o135, h136, h137⟩ := hh
        refine Wp_cut (fun s => ∃ c129, c129 = o135 ∧ s = ⟨[], [(0, .dead), (2, .dead), (3, .ptr 0 0), (4, .dead), (5, .dead), (9, .v (.int .i64 x111)), (10, .dead), (12, .dead), (13, .dead)], [(0, .p c129)], 1, []⟩) ?_ ?_
        · refine Wp_block ?_
          refine Wp_loopG (fun n s => ∃ x121, ∃ c122, m71_L1 N x111 n x121 c122 = some o135 ∧ s = ⟨[], [(0, .dead), (2, .dead), (3, .ptr 0 0), (4, .v (.int .i64 x111)), (5, .dead), (9, .v (.int .i64 x111)), (10, .dead), (12, .v (.int .i64 x121)), (13, .dead)], [(0, .p c122)], 1, []⟩) N _ ((Wk_le (.r (.r (.r (.r (.r (.r (.k (.r (.r .nil))))))))) (OLe.refl _)).trans (cmpS_ok (st' := ⟨[], [(0, .dead), (2, .dead), (3, .ptr 0 0), (4, .v (.int .i64 x111)), (5, .dead), (9, .v (.int .i64 x111)), (10, .dead), (12, .v (.int .i64 0)), (13, .dead)], [(0, .p c112)], 1, []⟩) (by kernel_rfl))) ⟨_, _, h136, rfl⟩ ?_
          clear h136
          rintro n _ ⟨x121, c122, h136, rfl⟩
          cases n with
          | zero => cases h136
          | succ n =>
            rw [m71_L1] at h136
            have hh := brn_some h136; clear h136; rcases hh with ⟨h123, h136⟩ | ⟨h123, h136⟩
            · have hh := grd_some h136; clear h136; obtain ⟨⟨g124, g125⟩, h136⟩ := hh
              have hh := grd_some h136; clear h136; obtain ⟨⟨g126, g127⟩, h136⟩ := hh
              have hh := grd_some h136; clear h136; obtain ⟨g128, h136⟩ := hh
              refine W_sound tab_ok mixed 29 _ _ _ ?_
              simp -implicitDefEqProofs only [go_sem, qa, qb, qc, qd, qe, qf, qg, qh, qi, qj, qk, ↓reduceIte, h113, h123, g124, g125, g126, g127, g128]
              repeat with_reducible refine ⟨by first | kernel_rfl | decide, ?_⟩
              exact cutQ _ ((Wk_le (.r (.r (.r (.r (.k (.r (.r (.r (.k .nil))))))))) (OLe.refl _)).trans (cmpS_ok (st' := ⟨[], [(0, .dead), (2, .dead), (3, .ptr 0 0), (4, .v (.int .i64 x111)), (5, .dead), (9, .v (.int .i64 x111)), (10, .dead), (12, .v (.int .i64 (IntKind.i64.wrap (x121 + 1)))), (13, .dead)], [(0, .p (List.set c122 ((1 + ((Int.toNat x111) * 5)) + (Int.toNat x121)) (.int .i64 (-1))))], 1, []⟩) (by kernel_rfl))) ⟨n, Nat.lt_succ_self n, _, _, h136, rfl⟩
            · refine W_sound tab_ok mixed 7 _ _ _ ?_
              simp -implicitDefEqProofs only [go_sem, qa, qb, qc, qd, qe, qf, qg, qh, qi, qj, qk, ↓reduceIte, h113, h123]
              repeat with_reducible refine ⟨by first | kernel_rfl | decide, ?_⟩
              obtain rfl := Option.some.inj h136
              exact cutQ _ ((Wk_le (.r (.r (.r (.k (.r (.r (.r (.k (.k .nil))))))))) (OLe.refl _)).trans (cmpS_ok (st' := ⟨[], [(0, .dead), (2, .dead), (3, .ptr 0 0), (4, .dead), (5, .dead), (9, .v (.int .i64 x111)), (10, .dead), (12, .dead), (13, .dead)], [(0, .p c122)], 1, []⟩) (by kernel_rfl))) ⟨_, rfl, rfl⟩
        · rintro _ ⟨c129, rfl, rfl⟩
          refine W_sound tab_ok mixed 5 _ _ _ ?_
          simp -implicitDefEqProofs only [go_sem, qa, qb, qc, qd, qe, qf, qg, qh, qi, qj, qk, ↓reduceIte, h113]
          repeat with_reducible refine ⟨by first | kernel_rfl | decide, ?_⟩
          exact cutQ _ ((Wk_le (.r (.r (.r (.r (.r (.r (.r (.r (.r .nil))))))))) (OLe.refl _)).trans (cmpS_ok (st' := ⟨[], [(0, .dead), (2, .dead), (3, .ptr 0 0), (4, .dead), (5, .dead), (9, .v (.int .i64 (IntKind.i64.wrap (x111 + 1)))), (10, .dead), (12, .dead), (13, .dead)], [(0, .p c129)], 1, []⟩) (by kernel_rfl))) ⟨n, Nat.lt_succ_self n, _, _, h137, rfl⟩
      · refine W_sound tab_ok mixed 7 _ _ _ ?_
        simp -implicitDefEqProofs only [go_sem, qa, qb, qc, qd, qe, qf, qg, qh, qi, qj, qk, ↓reduceIte, h113]
        repeat with_reducible refine ⟨by first | kernel_rfl | decide, ?_⟩
        obtain rfl := Option.some.inj h133
        exact cutQ _ ((Wk_le (.r (.r (.r (.r (.r (.k (.k (.r (.r .nil))))))))) (OLe.refl _)).trans (cmpS_ok (st' := ⟨[], [(0, .dead), (2, .dead), (3, .ptr 0 0), (4, .dead), (5, .dead), (9, .dead), (10, .dead), (12, .dead), (13, .dead)], [(0, .p c112)], 1, []⟩) (by kernel_rfl))) ⟨_, rfl, rfl⟩
  · rintro _ ⟨c130, rfl, rfl⟩
    refine W_sound tab_ok mixed 7 _ _ _ ?_
    simp -implicitDefEqProofs only [go_sem, qa, qb, qc, qd, qe, qf, qg, qh, qi, qj, qk, ↓reduceIte]
    repeat with_reducible refine ⟨by first | kernel_rfl | decide, ?_⟩
    obtain rfl := Option.some.inj h134
    exact finD (e2 := [(0, .dead), (2, .ptr 0 0), (3, .dead), (4, .dead), (5, .dead), (9, .dead), (10, .dead), (12, .dead), (13, .dead)]) (ob2 := [(0, .p c130)]) (st' := ⟨[], [(0, .dead), (2, .ptr 0 0), (3, .dead), (4, .dead), (5, .dead), (9, .dead), (10, .dead), (12, .dead), (13, .dead)], [(0, .p c130)], 1, []⟩) (.r (.r (.k (.r (.r (.r (.r (.r (.r .nil))))))))) (.cons _ _ _ _ _ (DLes.refl _) .nil) (by kernel_rfl) (by simp only [go_sem, qa, qb, qc, qd, qe, qf, qg, qh, qi, qj, qk, ↓reduceIte, resQ_tmp, resQ_cell, resQ_nil, retD_one, retD_two, retD_three, retD_none] <;> first | rfl | exact ⟨rfl, rfl⟩ | (try simp [R.val, retD_one, retD_two, retD_three, retD_none]))
theorem c71_a (N : Nat) (x92 : Int) (c131 : List PV) (h : m71 N x92 = some c131) : V.Fn Tryd.prog 71 0 [.v (.int .i64 x92)] [] (fun d ob' => d = .ptr 0 0 ∧ ob' = [(0, .p c131)]) := c71 N x92 _ h
def m72 (N : Nat) (x195 : Int) (x196 : Int) (x197 : Int) (c198 : List PV) : Option ((PV × List PV)) :=
  grd (0 ≤ x195 ∧ x195 < 5) <|
  grd (0 ≤ x196 ∧ x196 < 5) <|
  grd ((((1 + ((Int.toNat x195) * 5)) + (Int.toNat x196)) + 1) ≤ List.length c198) <|
  grd ((26 + (Int.toNat x195)) < List.length c198) <|
  getI .u64 (gp (List.set c198 ((1 + ((Int.toNat x195) * 5)) + (Int.toNat x196)) (.int .i64 x197)) (26 + (Int.toNat x195))) fun x207 =>
  grd (0 ≤ x197) <|
  grd (((26 + (Int.toNat x195)) + 1) ≤ List.length c198) <|
  grd ((31 + (Int.toNat x196)) < List.length c198) <|
  getI .u64 (gp (List.set (List.set c198 ((1 + ((Int.toNat x195) * 5)) + (Int.toNat x196)) (.int .i64 x197)) (26 + (Int.toNat x195)) (.int .u64 (bitsI .or .u64 x207 (IntKind.u64.wrap (1 * 2 ^ (min (Int.toNat x197) 64)))))) (31 + (Int.toNat x196))) fun x212 =>
  grd (((31 + (Int.toNat x196)) + 1) ≤ List.length c198) <|
  some ((.tup []), (List.set (List.set (List.set c198 ((1 + ((Int.toNat x195) * 5)) + (Int.toNat x196)) (.int .i64 x197)) (26 + (Int.toNat x195)) (.int .u64 (bitsI .or .u64 x207 (IntKind.u64.wrap (1 * 2 ^ (min (Int.toNat x197) 64)))))) (31 + (Int.toNat x196)) (.int .u64 (bitsI .or .u64 x212 (IntKind.u64.wrap (1 * 2 ^ (min (Int.toNat x197) 64)))))))
theorem c72 (N : Nat) (x195 : Int) (x196 : Int) (x197 : Int) (c198 : List PV) (r : PV) (c215 : List PV) (h : m72 N x195 x196 x197 c198 = some (r, c215)) : V.Fn Tryd.prog 72 1 [.ptr 0 0, .v (.int .i64 x195), .v (.int .i64 x196), .v (.int .i64 x197)] [(0, .p c198)] (fun d ob' => d = .v r ∧ ob' = [(0, .p c215)]) := by
  unfold m72 at h
  refine Fn_of (sz := 40) tab_ok [0, 1, 2, 3] [] Tryd.func72 rfl rfl rfl (by simp) ?_
  simp only [initSt, initEnv, List.map_cons, List.map_nil, List.getD_cons_zero, List.getD_cons_succ, List.getD_nil]
  have hh := grd_some h; clear h; obtain ⟨⟨g200, g201⟩, h⟩ := hh
  have hh := grd_some h; clear h; obtain ⟨⟨g202, g203⟩, h⟩ := hh
  have hh := grd_some h; clear h; obtain ⟨g204, h⟩ := hh
  have hh := grd_some h; clear h; obtain ⟨g205, h⟩ := hh
  have hh := getI_some h; clear h; obtain ⟨x207, h206, h⟩ := hh
  have hh := grd_some h; clear h; obtain ⟨g208, h⟩ := hh
  have hh := grd_some h; clear h; obtain ⟨g209, h⟩ := hh
  have hh := grd_some h; clear h; obtain ⟨g210, h⟩ := hh
  have hh := getI_some h; clear h; obtain ⟨x212, h211, h⟩ := hh
  have hh := grd_some h; clear h; obtain ⟨g213, h⟩ := hh
  refine W_sound tab_ok mixed 44 _ _ _ ?_
  simp -implicitDefEqProofs only [go_sem, qa, qb, qc, qd, qe, qf, qg, qh, qi, qj, qk, ↓reduceIte, g200, g201, g202, g203, g204, g205, h206, g208, g209, g210, h211, g213]
  repeat with_reducible refine ⟨by first | kernel_rfl | decide, ?_⟩
  simp only [Option.some.injEq, Prod.mk.injEq] at h; obtain ⟨rfl, rfl⟩ := h
  exact finD (e2 := [(0, .dead), (1, .dead), (2, .dead), (3, .dead)]) (ob2 := [(0, .p (List.set (List.set (List.set c198 ((1 + ((Int.toNat x195) * 5)) + (Int.toNat x196)) (.int .i64 x197)) (26 + (Int.toNat x195)) (.int .u64 (bitsI .or .u64 x207 (IntKind.u64.wrap (1 * 2 ^ (min (Int.toNat x197) 64)))))) (31 + (Int.toNat x196)) (.int .u64 (bitsI .or .u64 x212 (IntKind.u64.wrap (1 * 2 ^ (min (Int.toNat x197) 64)))))))]) (st' := ⟨[], [(0, .dead), (1, .dead), (2, .dead), (3, .dead)], [(0, .p (List.set (List.set (List.set c198 ((1 + ((Int.toNat x195) * 5)) + (Int.toNat x196)) (.int .i64 x197)) (26 + (Int.toNat x195)) (.int .u64 (bitsI .or .u64 x207 (IntKind.u64.wrap (1 * 2 ^ (min (Int.toNat x197) 64)))))) (31 + (Int.toNat x196)) (.int .u64 (bitsI .or .u64 x212 (IntKind.u64.wrap (1 * 2 ^ (min (Int.toNat x197) 64)))))))], 1, []⟩) (.k (.k (.k (.k .nil)))) (.cons _ _ _ _ _ (DLes.refl _) .nil) (by kernel_rfl) (by simp only [go_sem, qa, qb, qc, qd, qe, qf, qg, qh, qi, qj, qk, ↓reduceIte, resQ_tmp, resQ_cell, resQ_nil, retD_one, retD_two, retD_three, retD_none]; try simp [R.val, retD_one, retD_two, retD_three, retD_none])
def m61_L1 (N : Nat) (x80 : Int) (x82 : Int) (n84 : Nat) (c85 : List PV) (x251 : Int) (n258 : Nat) (c259 : List PV) : Nat → Int → List PV → Option (((Int ⊕ (Int × List PV)) ⊕ List PV))
  | 0, _, _ => none
  | n + 1, x292, c293 =>
    brn (decide (x292 < ((n258 : Nat) : Int))) (
      grd (0 ≤ x292 ∧ x292 < ((n258 : Nat) : Int)) <|
      grd (0 < List.length (List.drop (Int.toNat x292) c259)) <|
      getI .i64 (gp c259 (Int.toNat x292)) fun x299 =>
      brn (decide (x299 < 0)) (
        some (.inl (.inl 2))) (
        brn (decide (x299 ≥ x80)) (
          some (.inl (.inl 2))) (
          grd (x251 < 5) <|
          grd ((26 + (Int.toNat x251)) < List.length c293) <|
          getI .u64 (gp c293 (26 + (Int.toNat x251))) fun x307 =>
          grd (0 ≤ x299) <|
          brn ((bitsI .and .u64 (Int.fdiv x307 (2 ^ (min (Int.toNat x299) 64))) 1) == 1) (
            some (.inl (.inl 6))) (
            grd (x292 < 5) <|
            grd ((31 + (Int.toNat x292)) < List.length c293) <|
            getI .u64 (gp c293 (31 + (Int.toNat x292))) fun x314 =>
            brn ((bitsI .and .u64 (Int.fdiv x314 (2 ^ (min (Int.toNat x299) 64))) 1) == 1) (
              some (.inl (.inl 13))) (
              bnd' (m72 N x251 x292 x299 c293) fun (p317, c319) =>
              getT0 p317 <|
              m61_L1 N x80 x82 n84 c85 x251 n258 c259 n (IntKind.i64.wrap (x292 + 1)) c319))))) (
      some (.inr c293))
def m61_L0 (N : Nat) (x80 : Int) (x82 : Int) (n84 : Nat) (c85 : List PV) : Nat → Int → List PV → Option (((Int ⊕ (Int × List PV)) ⊕ List PV))
  | 0, _, _ => none
  | n + 1, x251, c252 =>
    brn (decide (x251 < ((n84 : Nat) : Int))) (
      grd (0 ≤ x251 ∧ x251 < ((n84 : Nat) : Int)) <|
      grd (0 < List.length (List.drop (Int.toNat x251) c85)) <|
      getL (gp c85 (Int.toNat x251)) fun n258 c259 =>
      brn (((n258 : Nat) : Int) != x82) (
        some (.inl (.inl 5))) (
        brn (decide (x82 > x80)) (
          some (.inl (.inl 5))) (
          bnd' (m61_L1 N x80 x82 n84 c85 x251 n258 c259 N 0 c252) fun o =>
          match o with
          | .inl p321 =>
            some (.inl p321)
          | .inr c322 =>
            m61_L0 N x80 x82 n84 c85 n (IntKind.i64.wrap (x251 + 1)) c322))) (
      some (.inr c252))
def m61 (N : Nat) (x80 : Int) (p81 : PV) (x82 : Int) : Option ((Int ⊕ (Int × List PV))) :=
  getL p81 fun n84 c85 =>
  brn (decide (x80 < 1)) (
    some (.inl 1)) (
    brn (decide (x80 > 5)) (
      some (.inl 1)) (
      brn (decide (((n84 : Nat) : Int) > x80)) (
        some (.inl 3)) (
        bnd' (m71 N x80) fun o =>
        match o with
        | c139 =>
          bnd' (m61_L0 N x80 x82 n84 c85 N 0 c139) fun o =>
          match o with
          | .inl p323 =>
            some p323
          | .inr c324 =>
            some (.inr (0, c324)))))
theorem c61 (N : Nat) (x80 : Int) (p81 : PV) (x82 : Int) (r : (Int ⊕ (Int × List PV)))  (h : m61 N x80 p81 x82 = some r) : V.Fn Tryd.prog 61 0 [.v (.int .i64 x80), .v p81, .v (.int .i64 x82)] [] (fun d ob' => match (generalizing := false) r with | .inl x87 => d = .v (.tup [(.fn 999999 [.bool true]), (.int .i64 x87)]) ∧ ob' = [] | .inr (x325, c326) => d = .tup [.ptr 0 0, .v (.int .i64 x325)] ∧ ob' = [(0, .p c326)]) := by
  unfold m61 at h
  refine Fn_of (sz := 88) tab_ok [0, 1, 2, 6, 7, 8, 9, 10, 11, 12, 13, 20, 27, 28, 29, 30, 42, 43, 44, 45, 46, 50, 58, 69] [.tmp 6, .tmp 7] Tryd.func61 rfl rfl rfl (by simp) ?_
  simp only [initSt, initEnv, List.map_cons, List.map_nil, List.getD_cons_zero, List.getD_cons_succ, List.getD_nil]
  have hh := getL_some h; clear h; obtain ⟨n84, c85, h83, h⟩ := hh
  have hh := brn_some h; clear h; rcases hh with ⟨h86, h⟩ | ⟨h86, h⟩
  · refine W_sound tab_ok mixed 25 _ _ _ ?_
    simp -implicitDefEqProofs only [go_sem, qa, qb, qc, qd, qe, qf, qg, qh, qi, qj, qk, ↓reduceIte, h83, h86]
    repeat with_reducible refine ⟨by first | kernel_rfl | decide, ?_⟩
    obtain rfl := Option.some.inj h
    exact finD (e2 := [(0, .dead), (1, .dead), (2, .dead), (6, .v (.fn 999999 [.bool true])), (7, .v (.int .i64 1)), (8, .dead), (9, .dead), (10, .dead), (11, .dead), (12, .dead), (13, .dead), (20, .dead), (27, .dead), (28, .dead), (29, .dead), (30, .dead), (42, .dead), (43, .dead), (44, .dead), (45, .dead), (46, .dead), (50, .dead), (58, .dead), (69, .dead)]) (ob2 := []) (st' := ⟨[], [(0, .dead), (1, .dead), (2, .dead), (6, .v (.fn 999999 [.bool true])), (7, .v (.int .i64 1)), (8, .dead), (9, .dead), (10, .dead), (11, .dead), (12, .dead), (13, .dead), (20, .dead), (27, .dead), (28, .dead), (29, .dead), (30, .dead), (42, .dead), (43, .dead), (44, .dead), (45, .dead), (46, .dead), (50, .dead), (58, .dead), (69, .dead)], [], 0, []⟩) (.k (.k (.k (.r (.r (.r (.r (.r (.r (.r (.k (.r (.r (.r (.r (.r (.r (.r (.r (.r (.r (.r (.r (.r .nil)))))))))))))))))))))))) .nil (by kernel_rfl) (by simp only [go_sem, qa, qb, qc, qd, qe, qf, qg, qh, qi, qj, qk, ↓reduceIte, resQ_tmp, resQ_cell, resQ_nil, retD_one, retD_two, retD_three, retD_none] <;> first | rfl | exact ⟨rfl, rfl⟩ | (try simp [R.val, retD_one, retD_two, retD_three, retD_none]))
  · have hh := brn_some h; clear h; rcases hh with ⟨h88, h⟩ | ⟨h88, h⟩
    · refine W_sound tab_ok mixed 25 _ _ _ ?_
      simp -implicitDefEqProofs only [go_sem, qa, qb, qc, qd, qe, qf, qg, qh, qi, qj, qk, ↓reduceIte, h83, h86, h88]
      repeat with_reducible refine ⟨by first | kernel_rfl | decide, ?_⟩
      obtain rfl := Option.some.inj h
      exact finD (e2 := [(0, .dead), (1, .dead), (2, .dead), (6, .v (.fn 999999 [.bool true])), (7, .v (.int .i64 1)), (8, .dead), (9, .dead), (10, .dead), (11, .dead), (12, .dead), (13, .dead), (20, .dead), (27, .dead), (28, .dead), (29, .dead), (30, .dead), (42, .dead), (43, .dead), (44, .dead), (45, .dead), (46, .dead), (50, .dead), (58, .dead), (69, .dead)]) (ob2 := []) (st' := ⟨[], [(0, .dead), (1, .dead), (2, .dead), (6, .v (.fn 999999 [.bool true])), (7, .v (.int .i64 1)), (8, .dead), (9, .dead), (10, .dead), (11, .dead), (12, .dead), (13, .dead), (20, .dead), (27, .dead), (28, .dead), (29, .dead), (30, .dead), (42, .dead), (43, .dead), (44, .dead), (45, .dead), (46, .dead), (50, .dead), (58, .dead), (69, .dead)], [], 0, []⟩) (.k (.k (.k (.r (.r (.r (.r (.r (.r (.r (.k (.r (.r (.r (.r (.r (.r (.r (.r (.r (.r (.r (.r (.r .nil)))))))))))))))))))))))) .nil (by kernel_rfl) (by simp only [go_sem, qa, qb, qc, qd, qe, qf, qg, qh, qi, qj, qk, ↓reduceIte, resQ_tmp, resQ_cell, resQ_nil, retD_one, retD_two, retD_three, retD_none] <;> first | rfl | exact ⟨rfl, rfl⟩ | (try simp [R.val, retD_one, retD_two, retD_three, retD_none]))
    · have hh := brn_some h; clear h; rcases hh with ⟨h90, h⟩ | ⟨h90, h⟩
      · refine W_sound tab_ok mixed 34 _ _ _ ?_
        simp -implicitDefEqProofs only [go_sem, qa, qb, qc, qd, qe, qf, qg, qh, qi, qj, qk, ↓reduceIte, h83, h86, h88, h90]
        repeat with_reducible refine ⟨by first | kernel_rfl | decide, ?_⟩
        obtain rfl := Option.some.inj h
        exact finD (e2 := [(0, .dead), (1, .dead), (2, .dead), (6, .v (.fn 999999 [.bool true])), (7, .v (.int .i64 3)), (8, .dead), (9, .dead), (10, .dead), (11, .dead), (12, .dead), (13, .dead), (20, .dead), (27, .dead), (28, .dead), (29, .dead), (30, .dead), (42, .dead), (43, .dead), (44, .dead), (45, .dead), (46, .dead), (50, .dead), (58, .dead), (69, .dead)]) (ob2 := []) (st' := ⟨[], [(0, .dead), (1, .dead), (2, .dead), (6, .v (.fn 999999 [.bool true])), (7, .v (.int .i64 3)), (8, .dead), (9, .dead), (10, .dead), (11, .dead), (12, .dead), (13, .dead), (20, .dead), (27, .dead), (28, .dead), (29, .dead), (30, .dead), (42, .dead), (43, .dead), (44, .dead), (45, .dead), (46, .dead), (50, .dead), (58, .dead), (69, .dead)], [], 0, []⟩) (.k (.k (.k (.r (.r (.r (.r (.r (.r (.r (.k (.k (.r (.r (.r (.r (.r (.r (.r (.r (.r (.r (.r (.r .nil)))))))))))))))))))))))) .nil (by kernel_rfl) (by simp only [go_sem, qa, qb, qc, qd, qe, qf, qg, qh, qi, qj, qk, ↓reduceIte, resQ_tmp, resQ_cell, resQ_nil, retD_one, retD_two, retD_three, retD_none] <;> first | rfl | exact ⟨rfl, rfl⟩ | (try simp [R.val, retD_one, retD_two, retD_three, retD_none]))
      · have hh := bnd'_some h; clear h; obtain ⟨c139, h138, h⟩ := hh
        (try dsimp only at h)
        refine W_sound tab_ok mixed 32 _ _ _ ?_
        simp -implicitDefEqProofs only [go_sem, qa, qb, qc, qd, qe, qf, qg, qh, qi, qj, qk, ↓reduceIte, h83, h86, h88, h90]
        repeat with_reducible refine ⟨by first | kernel_rfl | decide, ?_⟩
        refine Wp_callD [] (c71_a N _ _ h138) rfl rfl rfl (by first | rfl | (simp only [go_sem, qa, qb, qc, qd, qe, qf, qg, qh, qi, qj, qk, ↓reduceIte, h83, h86, h88, h90] <;> rfl)) rfl (by kernel_rfl) ?_
        refine W_sound tab_ok mixed 9 _ _ _ ?_
        simp -implicitDefEqProofs only [go_sem, qa, qb, qc, qd, qe, qf, qg, qh, qi, qj, qk, ↓reduceIte, h83, h86, h88, h90]
        repeat with_reducible refine ⟨by first | kernel_rfl | decide, ?_⟩
        have hh := bnd'_some h; clear h; obtain ⟨o327, h328, h329⟩ := hh
        refine Wp_cut (fun s => ∃ c324, (.inr c324) = o327 ∧ s = ⟨[], [(0, .dead), (1, .dead), (2, .dead), (6, .dead), (7, .dead), (8, .ptr 0 0), (9, .dead), (10, .dead), (11, .dead), (12, .dead), (13, .dead), (20, .dead), (27, .dead), (28, .dead), (29, .dead), (30, .dead), (42, .dead), (43, .dead), (44, .dead), (45, .dead), (46, .dead), (50, .dead), (58, .dead), (69, .dead)], [(0, .p c324)], 1, []⟩) ?_ ?_
        · refine Wp_block ?_
          refine Wp_loopG (fun n s => ∃ x251, ∃ c252, m61_L0 N x80 x82 n84 c85 n x251 c252 = some o327 ∧ s = ⟨[], [(0, .v (.int .i64 x80)), (1, .dead), (2, .v (.int .i64 x82)), (6, .dead), (7, .dead), (8, .ptr 0 0), (9, .dead), (10, .dead), (11, .dead), (12, .dead), (13, .dead), (20, .dead), (27, .v (.lst false n84 c85)), (28, .v (.int .i64 ((n84 : Nat) : Int))), (29, .v (.int .i64 x251)), (30, .dead), (42, .dead), (43, .dead), (44, .dead), (45, .dead), (46, .dead), (50, .dead), (58, .dead), (69, .dead)], [(0, .p c252)], 1, []⟩) N _ ((Wk_le (.r (.k (.r (.k (.k (.r (.r (.r (.r (.r (.k (.k (.r (.r (.r (.r (.r (.r (.r (.r (.r (.r (.r (.r .nil)))))))))))))))))))))))) (OLe.refl _)).trans (cmpS_ok (st' := ⟨[], [(0, .v (.int .i64 x80)), (1, .dead), (2, .v (.int .i64 x82)), (6, .dead), (7, .dead), (8, .ptr 0 0), (9, .dead), (10, .dead), (11, .dead), (12, .dead), (13, .dead), (20, .dead), (27, .v (.lst false n84 c85)), (28, .v (.int .i64 ((n84 : Nat) : Int))), (29, .v (.int .i64 0)), (30, .dead), (42, .dead), (43, .dead), (44, .dead), (45, .dead), (46, .dead), (50, .dead), (58, .dead), (69, .dead)], [(0, .p c139)], 1, []⟩) (by kernel_rfl))) ⟨_, _, h328, rfl⟩ ?_
          clear h328
          rintro n _ ⟨x251, c252, h328, rfl⟩
          cases n with
          | zero => cases h328
          | succ n =>
            rw [m61_L0] at h328
            have hh := brn_some h328; clear h328; rcases hh with ⟨h253, h328⟩ | ⟨h253, h328⟩
            · have hh := grd_some h328; clear h328; obtain ⟨⟨g254, g255⟩, h328⟩ := hh
              have hh := grd_some h328; clear h328; obtain ⟨g256, h328⟩ := hh
              have hh := getL_some h328; clear h328; obtain ⟨n258, c259, h257, h328⟩ := hh
              have hh := brn_some h328; clear h328; rcases hh with ⟨h260, h328⟩ | ⟨h260, h328⟩
              · refine W_sound tab_ok mixed 38 _ _ _ ?_
                simp -implicitDefEqProofs only [go_sem, qa, qb, qc, qd, qe, qf, qg, qh, qi, qj, qk, ↓reduceIte, h83, h86, h88, h90, h253, g254, g255, g256, h257, h260]
                repeat with_reducible refine ⟨by first | kernel_rfl | decide, ?_⟩
                obtain rfl := Option.some.inj h328
                (try dsimp only at h329)
                obtain rfl := Option.some.inj h329
                exact finD (e2 := [(0, .dead), (1, .dead), (2, .dead), (6, .v (.fn 999999 [.bool true])), (7, .v (.int .i64 5)), (8, .dead), (9, .dead), (10, .dead), (11, .dead), (12, .dead), (13, .dead), (20, .dead), (27, .dead), (28, .dead), (29, .dead), (30, .dead), (42, .dead), (43, .dead), (44, .dead), (45, .dead), (46, .dead), (50, .dead), (58, .dead), (69, .dead)]) (ob2 := [(0, .p c252)]) (st' := ⟨[], [(0, .dead), (1, .dead), (2, .dead), (6, .v (.fn 999999 [.bool true])), (7, .v (.int .i64 5)), (8, .dead), (9, .dead), (10, .dead), (11, .dead), (12, .dead), (13, .dead), (20, .dead), (27, .dead), (28, .dead), (29, .dead), (30, .dead), (42, .dead), (43, .dead), (44, .dead), (45, .dead), (46, .dead), (50, .dead), (58, .dead), (69, .dead)], [], 0, []⟩) (.k (.r (.k (.r (.r (.k (.k (.k (.r (.r (.r (.r (.k (.k (.k (.k (.k (.r (.r (.r (.r (.r (.r (.r .nil)))))))))))))))))))))))) (.cons _ _ _ _ _ (DLes.refl _) .nil) (by kernel_rfl) (by simp only [go_sem, qa, qb, qc, qd, qe, qf, qg, qh, qi, qj, qk, ↓reduceIte, resQ_tmp, resQ_cell, resQ_nil, retD_one, retD_two, retD_three, retD_none] <;> first | rfl | exact ⟨rfl, rfl⟩ | (try simp [R.val, retD_one, retD_two, retD_three, retD_none]))
              · have hh := brn_some h328; clear h328; rcases hh with ⟨h262, h328⟩ | ⟨h262, h328⟩
                · refine W_sound tab_ok mixed 38 _ _ _ ?_
                  simp -implicitDefEqProofs only [go_sem, qa, qb, qc, qd, qe, qf, qg, qh, qi, qj, qk, ↓reduceIte, h83, h86, h88, h90, h253, g254, g255, g256, h257, h260, h262]
                  repeat with_reducible refine ⟨by first | kernel_rfl | decide, ?_⟩
                  obtain rfl := Option.some.inj h328
                  (try dsimp only at h329)
                  obtain rfl := Option.some.inj h329
                  exact finD (e2 := [(0, .dead), (1, .dead), (2, .dead), (6, .v (.fn 999999 [.bool true])), (7, .v (.int .i64 5)), (8, .dead), (9, .dead), (10, .dead), (11, .dead), (12, .dead), (13, .dead), (20, .dead), (27, .dead), (28, .dead), (29, .dead), (30, .dead), (42, .dead), (43, .dead), (44, .dead), (45, .dead), (46, .dead), (50, .dead), (58, .dead), (69, .dead)]) (ob2 := [(0, .p c252)]) (st' := ⟨[], [(0, .dead), (1, .dead), (2, .dead), (6, .v (.fn 999999 [.bool true])), (7, .v (.int .i64 5)), (8, .dead), (9, .dead), (10, .dead), (11, .dead), (12, .dead), (13, .dead), (20, .dead), (27, .dead), (28, .dead), (29, .dead), (30, .dead), (42, .dead), (43, .dead), (44, .dead), (45, .dead), (46, .dead), (50, .dead), (58, .dead), (69, .dead)], [], 0, []⟩) (.k (.r (.k (.r (.r (.k (.k (.k (.r (.r (.r (.r (.k (.k (.k (.k (.k (.r (.r (.r (.r (.r (.r (.r .nil)))))))))))))))))))))))) (.cons _ _ _ _ _ (DLes.refl _) .nil) (by kernel_rfl) (by simp only [go_sem, qa, qb, qc, qd, qe, qf, qg, qh, qi, qj, qk, ↓reduceIte, resQ_tmp, resQ_cell, resQ_nil, retD_one, retD_two, retD_three, retD_none] <;> first | rfl | exact ⟨rfl, rfl⟩ | (try simp [R.val, retD_one, retD_two, retD_three, retD_none]))
                · refine W_sound tab_ok mixed 38 _ _ _ ?_
                  simp -implicitDefEqProofs only [go_sem, qa, qb, qc, qd, qe, qf, qg, qh, qi, qj, qk, ↓reduceIte, h83, h86, h88, h90, h253, g254, g255, g256, h257, h260, h262]
                  repeat with_reducible refine ⟨by first | kernel_rfl | decide, ?_⟩
                  have hh := bnd'_some h328; clear h328; obtain ⟨o330, h331, h332⟩ := hh
                  refine Wp_cut (fun s => ∃ c322, (.inr c322) = o330 ∧ s = ⟨[], [(0, .v (.int .i64 x80)), (1, .dead), (2, .v (.int .i64 x82)), (6, .dead), (7, .dead), (8, .ptr 0 0), (9, .dead), (10, .dead), (11, .dead), (12, .dead), (13, .dead), (20, .dead), (27, .v (.lst false n84 c85)), (28, .v (.int .i64 ((n84 : Nat) : Int))), (29, .v (.int .i64 x251)), (30, .dead), (42, .dead), (43, .dead), (44, .dead), (45, .dead), (46, .dead), (50, .dead), (58, .dead), (69, .dead)], [(0, .p c322)], 1, []⟩) ?_ ?_
                  · refine Wp_block ?_
                    refine Wp_loopG (fun n s => ∃ x292, ∃ c293, m61_L1 N x80 x82 n84 c85 x251 n258 c259 n x292 c293 = some o330 ∧ s = ⟨[], [(0, .v (.int .i64 x80)), (1, .dead), (2, .v (.int .i64 x82)), (6, .dead), (7, .dead), (8, .ptr 0 0), (9, .v (.int .i64 x251)), (10, .dead), (11, .dead), (12, .dead), (13, .dead), (20, .dead), (27, .v (.lst false n84 c85)), (28, .v (.int .i64 ((n84 : Nat) : Int))), (29, .v (.int .i64 x251)), (30, .dead), (42, .dead), (43, .v (.lst false n258 c259)), (44, .v (.int .i64 ((n258 : Nat) : Int))), (45, .v (.int .i64 x292)), (46, .dead), (50, .dead), (58, .dead), (69, .dead)], [(0, .p c293)], 1, []⟩) N _ ((Wk_le (.r (.r (.r (.r (.r (.r (.r (.k (.r (.r (.r (.r (.r (.r (.r (.k (.k (.r (.r (.r (.r (.r (.r (.r .nil)))))))))))))))))))))))) (OLe.refl _)).trans (cmpS_ok (st' := ⟨[], [(0, .v (.int .i64 x80)), (1, .dead), (2, .v (.int .i64 x82)), (6, .dead), (7, .dead), (8, .ptr 0 0), (9, .v (.int .i64 x251)), (10, .dead), (11, .dead), (12, .dead), (13, .dead), (20, .dead), (27, .v (.lst false n84 c85)), (28, .v (.int .i64 ((n84 : Nat) : Int))), (29, .v (.int .i64 x251)), (30, .dead), (42, .dead), (43, .v (.lst false n258 c259)), (44, .v (.int .i64 ((n258 : Nat) : Int))), (45, .v (.int .i64 0)), (46, .dead), (50, .dead), (58, .dead), (69, .dead)], [(0, .p c252)], 1, []⟩) (by kernel_rfl))) ⟨_, _, h331, rfl⟩ ?_
                    clear h331
                    rintro n _ ⟨x292, c293, h331, rfl⟩
                    cases n with
                    | zero => cases h331
                    | succ n =>
                      rw [m61_L1] at h331
                      have hh := brn_some h331; clear h331; rcases hh with ⟨h294, h331⟩ | ⟨h294, h331⟩
                      · have hh := grd_some h331; clear h331; obtain ⟨⟨g295, g296⟩, h331⟩ := hh
                        have hh := grd_some h331; clear h331; obtain ⟨g297, h331⟩ := hh
                        have hh := getI_some h331; clear h331; obtain ⟨x299, h298, h331⟩ := hh
                        have hh := brn_some h331; clear h331; rcases hh with ⟨h300, h331⟩ | ⟨h300, h331⟩
                        · refine W_sound tab_ok mixed 38 _ _ _ ?_
                          simp -implicitDefEqProofs only [go_sem, qa, qb, qc, qd, qe, qf, qg, qh, qi, qj, qk, ↓reduceIte, h83, h86, h88, h90, h253, g254, g255, g256, h257, h260, h262, h294, g295, g296, g297, h298, h300]
                          repeat with_reducible refine ⟨by first | kernel_rfl | decide, ?_⟩
                          obtain rfl := Option.some.inj h331
                          (try dsimp only at h332)
                          obtain rfl := Option.some.inj h332
                          (try dsimp only at h329)
                          obtain rfl := Option.some.inj h329
                          exact finD (e2 := [(0, .dead), (1, .dead), (2, .dead), (6, .v (.fn 999999 [.bool true])), (7, .v (.int .i64 2)), (8, .dead), (9, .dead), (10, .dead), (11, .dead), (12, .dead), (13, .dead), (20, .dead), (27, .dead), (28, .dead), (29, .dead), (30, .dead), (42, .dead), (43, .dead), (44, .dead), (45, .dead), (46, .dead), (50, .dead), (58, .dead), (69, .dead)]) (ob2 := [(0, .p c293)]) (st' := ⟨[], [(0, .dead), (1, .dead), (2, .dead), (6, .v (.fn 999999 [.bool true])), (7, .v (.int .i64 2)), (8, .dead), (9, .dead), (10, .dead), (11, .dead), (12, .dead), (13, .dead), (20, .dead), (27, .dead), (28, .dead), (29, .dead), (30, .dead), (42, .dead), (43, .dead), (44, .dead), (45, .dead), (46, .dead), (50, .dead), (58, .dead), (69, .dead)], [], 0, []⟩) (.k (.r (.k (.r (.r (.k (.k (.r (.k (.k (.r (.r (.k (.k (.k (.r (.r (.k (.k (.k (.k (.k (.r (.r .nil)))))))))))))))))))))))) (.cons _ _ _ _ _ (DLes.refl _) .nil) (by kernel_rfl) (by simp only [go_sem, qa, qb, qc, qd, qe, qf, qg, qh, qi, qj, qk, ↓reduceIte, resQ_tmp, resQ_cell, resQ_nil, retD_one, retD_two, retD_three, retD_none] <;> first | rfl | exact ⟨rfl, rfl⟩ | (try simp [R.val, retD_one, retD_two, retD_three, retD_none]))
                        · have hh := brn_some h331; clear h331; rcases hh with ⟨h302, h331⟩ | ⟨h302, h331⟩
                          · refine W_sound tab_ok mixed 38 _ _ _ ?_
                            simp -implicitDefEqProofs only [go_sem, qa, qb, qc, qd, qe, qf, qg, qh, qi, qj, qk, ↓reduceIte, h83, h86, h88, h90, h253, g254, g255, g256, h257, h260, h262, h294, g295, g296, g297, h298, h300, h302]
                            repeat with_reducible refine ⟨by first | kernel_rfl | decide, ?_⟩
                            obtain rfl := Option.some.inj h331
                            (try dsimp only at h332)
                            obtain rfl := Option.some.inj h332
                            (try dsimp only at h329)
                            obtain rfl := Option.some.inj h329
                            exact finD (e2 := [(0, .dead), (1, .dead), (2, .dead), (6, .v (.fn 999999 [.bool true])), (7, .v (.int .i64 2)), (8, .dead), (9, .dead), (10, .dead), (11, .dead), (12, .dead), (13, .dead), (20, .dead), (27, .dead), (28, .dead), (29, .dead), (30, .dead), (42, .dead), (43, .dead), (44, .dead), (45, .dead), (46, .dead), (50, .dead), (58, .dead), (69, .dead)]) (ob2 := [(0, .p c293)]) (st' := ⟨[], [(0, .dead), (1, .dead), (2, .dead), (6, .v (.fn 999999 [.bool true])), (7, .v (.int .i64 2)), (8, .dead), (9, .dead), (10, .dead), (11, .dead), (12, .dead), (13, .dead), (20, .dead), (27, .dead), (28, .dead), (29, .dead), (30, .dead), (42, .dead), (43, .dead), (44, .dead), (45, .dead), (46, .dead), (50, .dead), (58, .dead), (69, .dead)], [], 0, []⟩) (.k (.r (.k (.r (.r (.k (.k (.r (.k (.k (.r (.r (.k (.k (.k (.r (.r (.k (.k (.k (.k (.k (.r (.r .nil)))))))))))))))))))))))) (.cons _ _ _ _ _ (DLes.refl _) .nil) (by kernel_rfl) (by simp only [go_sem, qa, qb, qc, qd, qe, qf, qg, qh, qi, qj, qk, ↓reduceIte, resQ_tmp, resQ_cell, resQ_nil, retD_one, retD_two, retD_three, retD_none] <;> first | rfl | exact ⟨rfl, rfl⟩ | (try simp [R.val, retD_one, retD_two, retD_three, retD_none]))
                          · have hh := grd_some h331; clear h331; obtain ⟨g304, h331⟩ := hh
                            have hh := grd_some h331; clear h331; obtain ⟨g305, h331⟩ := hh
                            have hh := getI_some h331; clear h331; obtain ⟨x307, h306, h331⟩ := hh
                            have hh := grd_some h331; clear h331; obtain ⟨g308, h331⟩ := hh
                            have hh := brn_some h331; clear h331; rcases hh with ⟨h309, h331⟩ | ⟨h309, h331⟩
                            · refine W_sound tab_ok mixed 53 _ _ _ ?_
                              simp -implicitDefEqProofs only [go_sem, qa, qb, qc, qd, qe, qf, qg, qh, qi, qj, qk, ↓reduceIte, h83, h86, h88, h90, h253, g254, g255, g256, h257, h260, h262, h294, g295, g296, g297, h298, h300, h302, g304, g305, h306, g308, h309]
                              repeat with_reducible refine ⟨by first | kernel_rfl | decide, ?_⟩
                              obtain rfl := Option.some.inj h331
                              (try dsimp only at h332)
                              obtain rfl := Option.some.inj h332
                              (try dsimp only at h329)
                              obtain rfl := Option.some.inj h329
                              exact finD (e2 := [(0, .dead), (1, .dead), (2, .dead), (6, .v (.fn 999999 [.bool true])), (7, .v (.int .i64 6)), (8, .dead), (9, .dead), (10, .dead), (11, .dead), (12, .dead), (13, .dead), (20, .dead), (27, .dead), (28, .dead), (29, .dead), (30, .dead), (42, .dead), (43, .dead), (44, .dead), (45, .dead), (46, .dead), (50, .dead), (58, .dead), (69, .dead)]) (ob2 := [(0, .p c293)]) (st' := ⟨[], [(0, .dead), (1, .dead), (2, .dead), (6, .v (.fn 999999 [.bool true])), (7, .v (.int .i64 6)), (8, .dead), (9, .dead), (10, .dead), (11, .dead), (12, .dead), (13, .dead), (20, .dead), (27, .dead), (28, .dead), (29, .dead), (30, .dead), (42, .dead), (43, .dead), (44, .dead), (45, .dead), (46, .dead), (50, .dead), (58, .dead), (69, .dead)], [], 0, []⟩) (.k (.r (.k (.r (.r (.k (.k (.r (.k (.k (.r (.r (.k (.k (.k (.r (.r (.k (.k (.k (.k (.k (.k (.r .nil)))))))))))))))))))))))) (.cons _ _ _ _ _ (DLes.refl _) .nil) (by kernel_rfl) (by simp only [go_sem, qa, qb, qc, qd, qe, qf, qg, qh, qi, qj, qk, ↓reduceIte, resQ_tmp, resQ_cell, resQ_nil, retD_one, retD_two, retD_three, retD_none] <;> first | rfl | exact ⟨rfl, rfl⟩ | (try simp [R.val, retD_one, retD_two, retD_three, retD_none]))
                            · have hh := grd_some h331; clear h331; obtain ⟨g311, h331⟩ := hh
                              have hh := grd_some h331; clear h331; obtain ⟨g312, h331⟩ := hh
                              have hh := getI_some h331; clear h331; obtain ⟨x314, h313, h331⟩ := hh
                              have hh := brn_some h331; clear h331; rcases hh with ⟨h315, h331⟩ | ⟨h315, h331⟩
                              · refine W_sound tab_ok mixed 68 _ _ _ ?_
                                simp -implicitDefEqProofs only [go_sem, qa, qb, qc, qd, qe, qf, qg, qh, qi, qj, qk, ↓reduceIte, h83, h86, h88, h90, h253, g254, g255, g256, h257, h260, h262, h294, g295, g296, g297, h298, h300, h302, g304, g305, h306, g308, h309, g311, g312, h313, h315]
                                repeat with_reducible refine ⟨by first | kernel_rfl | decide, ?_⟩
                                obtain rfl := Option.some.inj h331
                                (try dsimp only at h332)
                                obtain rfl := Option.some.inj h332
                                (try dsimp only at h329)
                                obtain rfl := Option.some.inj h329
                                exact finD (e2 := [(0, .dead), (1, .dead), (2, .dead), (6, .v (.fn 999999 [.bool true])), (7, .v (.int .i64 13)), (8, .dead), (9, .dead), (10, .dead), (11, .dead), (12, .dead), (13, .dead), (20, .dead), (27, .dead), (28, .dead), (29, .dead), (30, .dead), (42, .dead), (43, .dead), (44, .dead), (45, .dead), (46, .dead), (50, .dead), (58, .dead), (69, .dead)]) (ob2 := [(0, .p c293)]) (st' := ⟨[], [(0, .dead), (1, .dead), (2, .dead), (6, .v (.fn 999999 [.bool true])), (7, .v (.int .i64 13)), (8, .dead), (9, .dead), (10, .dead), (11, .dead), (12, .dead), (13, .dead), (20, .dead), (27, .dead), (28, .dead), (29, .dead), (30, .dead), (42, .dead), (43, .dead), (44, .dead), (45, .dead), (46, .dead), (50, .dead), (58, .dead), (69, .dead)], [], 0, []⟩) (.k (.r (.k (.r (.r (.k (.k (.r (.k (.k (.r (.r (.k (.k (.k (.r (.r (.k (.k (.k (.k (.k (.k (.k .nil)))))))))))))))))))))))) (.cons _ _ _ _ _ (DLes.refl _) .nil) (by kernel_rfl) (by simp only [go_sem, qa, qb, qc, qd, qe, qf, qg, qh, qi, qj, qk, ↓reduceIte, resQ_tmp, resQ_cell, resQ_nil, retD_one, retD_two, retD_three, retD_none] <;> first | rfl | exact ⟨rfl, rfl⟩ | (try simp [R.val, retD_one, retD_two, retD_three, retD_none]))
                              · have hh := bnd'_some h331; clear h331; obtain ⟨⟨p317, c319⟩, h318, h331⟩ := hh
                                (try dsimp only at h331)
                                refine W_sound tab_ok mixed 68 _ _ _ ?_
                                simp -implicitDefEqProofs only [go_sem, qa, qb, qc, qd, qe, qf, qg, qh, qi, qj, qk, ↓reduceIte, h83, h86, h88, h90, h253, g254, g255, g256, h257, h260, h262, h294, g295, g296, g297, h298, h300, h302, g304, g305, h306, g308, h309, g311, g312, h313, h315]
                                repeat with_reducible refine ⟨by first | kernel_rfl | decide, ?_⟩
                                refine Wp_callD [0] (c72 N _ _ _ _ _ _ h318) rfl rfl rfl (by first | rfl | (simp only [go_sem, qa, qb, qc, qd, qe, qf, qg, qh, qi, qj, qk, ↓reduceIte, h83, h86, h88, h90, h253, g254, g255, g256, h257, h260, h262, h294, g295, g296, g297, h298, h300, h302, g304, g305, h306, g308, h309, g311, g312, h313, h315] <;> rfl)) rfl (by kernel_rfl) ?_
                                have hh := getT0_some h331; clear h331; obtain ⟨h320, h331⟩ := hh
                                refine W_sound tab_ok mixed 6 _ _ _ ?_
                                simp -implicitDefEqProofs only [go_sem, qa, qb, qc, qd, qe, qf, qg, qh, qi, qj, qk, ↓reduceIte, h83, h86, h88, h90, h253, g254, g255, g256, h257, h260, h262, h294, g295, g296, g297, h298, h300, h302, g304, g305, h306, g308, h309, g311, g312, h313, h315, h320]
                                repeat with_reducible refine ⟨by first | kernel_rfl | decide, ?_⟩
                                exact cutQ _ ((Wk_le (.r (.r (.r (.r (.r (.r (.r (.r (.k (.k (.r (.r (.r (.r (.r (.r (.r (.r (.r (.r (.k (.k (.k (.k .nil)))))))))))))))))))))))) (OLe.refl _)).trans (cmpS_ok (st' := ⟨[], [(0, .v (.int .i64 x80)), (1, .dead), (2, .v (.int .i64 x82)), (6, .dead), (7, .dead), (8, .ptr 0 0), (9, .v (.int .i64 x251)), (10, .dead), (11, .dead), (12, .dead), (13, .dead), (20, .dead), (27, .v (.lst false n84 c85)), (28, .v (.int .i64 ((n84 : Nat) : Int))), (29, .v (.int .i64 x251)), (30, .dead), (42, .dead), (43, .v (.lst false n258 c259)), (44, .v (.int .i64 ((n258 : Nat) : Int))), (45, .v (.int .i64 (IntKind.i64.wrap (x292 + 1)))), (46, .dead), (50, .dead), (58, .dead), (69, .dead)], [(0, .p c319)], 1, []⟩) (by kernel_rfl))) ⟨n, Nat.lt_succ_self n, _, _, h331, rfl⟩
                      · refine W_sound tab_ok mixed 7 _ _ _ ?_
                        simp -implicitDefEqProofs only [go_sem, qa, qb, qc, qd, qe, qf, qg, qh, qi, qj, qk, ↓reduceIte, h83, h86, h88, h90, h253, g254, g255, g256, h257, h260, h262, h294]
                        repeat with_reducible refine ⟨by first | kernel_rfl | decide, ?_⟩
                        obtain rfl := Option.some.inj h331
                        exact cutQ _ ((Wk_le (.r (.r (.r (.r (.r (.r (.k (.r (.r (.r (.r (.r (.r (.r (.r (.r (.r (.k (.k (.k (.k (.r (.r (.r .nil)))))))))))))))))))))))) (OLe.refl _)).trans (cmpS_ok (st' := ⟨[], [(0, .v (.int .i64 x80)), (1, .dead), (2, .v (.int .i64 x82)), (6, .dead), (7, .dead), (8, .ptr 0 0), (9, .dead), (10, .dead), (11, .dead), (12, .dead), (13, .dead), (20, .dead), (27, .v (.lst false n84 c85)), (28, .v (.int .i64 ((n84 : Nat) : Int))), (29, .v (.int .i64 x251)), (30, .dead), (42, .dead), (43, .dead), (44, .dead), (45, .dead), (46, .dead), (50, .dead), (58, .dead), (69, .dead)], [(0, .p c293)], 1, []⟩) (by kernel_rfl))) ⟨_, rfl, rfl⟩
                  · rintro _ ⟨c322, rfl, rfl⟩
                    (try dsimp only at h332)
                    refine W_sound tab_ok mixed 5 _ _ _ ?_
                    simp -implicitDefEqProofs only [go_sem, qa, qb, qc, qd, qe, qf, qg, qh, qi, qj, qk, ↓reduceIte, h83, h86, h88, h90, h253, g254, g255, g256, h257, h260, h262]
                    repeat with_reducible refine ⟨by first | kernel_rfl | decide, ?_⟩
                    exact cutQ _ ((Wk_le (.r (.r (.r (.r (.r (.r (.r (.r (.r (.r (.r (.r (.r (.r (.r (.r (.r (.r (.r (.r (.r (.r (.r (.r .nil)))))))))))))))))))))))) (OLe.refl _)).trans (cmpS_ok (st' := ⟨[], [(0, .v (.int .i64 x80)), (1, .dead), (2, .v (.int .i64 x82)), (6, .dead), (7, .dead), (8, .ptr 0 0), (9, .dead), (10, .dead), (11, .dead), (12, .dead), (13, .dead), (20, .dead), (27, .v (.lst false n84 c85)), (28, .v (.int .i64 ((n84 : Nat) : Int))), (29, .v (.int .i64 (IntKind.i64.wrap (x251 + 1)))), (30, .dead), (42, .dead), (43, .dead), (44, .dead), (45, .dead), (46, .dead), (50, .dead), (58, .dead), (69, .dead)], [(0, .p c322)], 1, []⟩) (by kernel_rfl))) ⟨n, Nat.lt_succ_self n, _, _, h332, rfl⟩
            · refine W_sound tab_ok mixed 7 _ _ _ ?_
              simp -implicitDefEqProofs only [go_sem, qa, qb, qc, qd, qe, qf, qg, qh, qi, qj, qk, ↓reduceIte, h83, h86, h88, h90, h253]
              repeat with_reducible refine ⟨by first | kernel_rfl | decide, ?_⟩
              obtain rfl := Option.some.inj h328
              exact cutQ _ ((Wk_le (.k (.r (.k (.r (.r (.r (.r (.r (.r (.r (.r (.r (.k (.k (.k (.k (.r (.r (.r (.r (.r (.r (.r (.r .nil)))))))))))))))))))))))) (OLe.refl _)).trans (cmpS_ok (st' := ⟨[], [(0, .dead), (1, .dead), (2, .dead), (6, .dead), (7, .dead), (8, .ptr 0 0), (9, .dead), (10, .dead), (11, .dead), (12, .dead), (13, .dead), (20, .dead), (27, .dead), (28, .dead), (29, .dead), (30, .dead), (42, .dead), (43, .dead), (44, .dead), (45, .dead), (46, .dead), (50, .dead), (58, .dead), (69, .dead)], [(0, .p c252)], 1, []⟩) (by kernel_rfl))) ⟨_, rfl, rfl⟩
        · rintro _ ⟨c324, rfl, rfl⟩
          (try dsimp only at h329)
          refine W_sound tab_ok mixed 8 _ _ _ ?_
          simp -implicitDefEqProofs only [go_sem, qa, qb, qc, qd, qe, qf, qg, qh, qi, qj, qk, ↓reduceIte, h83, h86, h88, h90]
          repeat with_reducible refine ⟨by first | kernel_rfl | decide, ?_⟩
          obtain rfl := Option.some.inj h329
          exact finD (e2 := [(0, .dead), (1, .dead), (2, .dead), (6, .ptr 0 0), (7, .v (.int .i64 0)), (8, .dead), (9, .dead), (10, .dead), (11, .dead), (12, .dead), (13, .dead), (20, .dead), (27, .dead), (28, .dead), (29, .dead), (30, .dead), (42, .dead), (43, .dead), (44, .dead), (45, .dead), (46, .dead), (50, .dead), (58, .dead), (69, .dead)]) (ob2 := [(0, .p c324)]) (st' := ⟨[], [(0, .dead), (1, .dead), (2, .dead), (6, .ptr 0 0), (7, .v (.int .i64 0)), (8, .dead), (9, .dead), (10, .dead), (11, .dead), (12, .dead), (13, .dead), (20, .dead), (27, .dead), (28, .dead), (29, .dead), (30, .dead), (42, .dead), (43, .dead), (44, .dead), (45, .dead), (46, .dead), (50, .dead), (58, .dead), (69, .dead)], [(0, .p c324)], 1, []⟩) (.r (.r (.r (.r (.r (.k (.r (.r (.r (.r (.r (.r (.r (.r (.r (.r (.r (.r (.r (.r (.r (.r (.r (.r .nil)))))))))))))))))))))))) (.cons _ _ _ _ _ (DLes.refl _) .nil) (by kernel_rfl) (by simp only [go_sem, qa, qb, qc, qd, qe, qf, qg, qh, qi, qj, qk, ↓reduceIte, resQ_tmp, resQ_cell, resQ_nil, retD_one, retD_two, retD_three, retD_none] <;> first | rfl | exact ⟨rfl, rfl⟩ | (try simp [R.val, retD_one, retD_two, retD_three, retD_none]))
theorem c61_a (N : Nat) (x80 : Int) (p81 : PV) (x82 : Int) (x87 : Int) (h : m61 N x80 p81 x82 = some (.inl x87)) : V.Fn Tryd.prog 61 0 [.v (.int .i64 x80), .v p81, .v (.int .i64 x82)] [] (fun d ob' => d = .v (.tup [(.fn 999999 [.bool true]), (.int .i64 x87)]) ∧ ob' = []) := c61 N x80 p81 x82 _ h
theorem c61_b (N : Nat) (x80 : Int) (p81 : PV) (x82 : Int) (x325 : Int) (c326 : List PV) (h : m61 N x80 p81 x82 = some (.inr (x325, c326))) : V.Fn Tryd.prog 61 0 [.v (.int .i64 x80), .v p81, .v (.int .i64 x82)] [] (fun d ob' => d = .tup [.ptr 0 0, .v (.int .i64 x325)] ∧ ob' = [(0, .p c326)]) := c61 N x80 p81 x82 _ h
def m23 (N : Nat) (x75 : Int) (p76 : PV) : Option (PV) :=
  getL p76 fun n78 c79 =>
  bnd' (m61 N x75 (.lst false n78 c79) x75) fun o =>
  match o with
  | .inl x334 =>
    some (.int .i64 x334)
  | .inr (x335, c336) =>
    some (.int .i64 x335)
def m96 (N : Nat) (x363 : Int) : Option (PV) :=
  brn (x363 == 0) (
    some (.int .i64 64)) (
    grd (0 ≤ (Int.fdiv (IntKind.u64.wrap ((bitsI .and .u64 x363 (IntKind.u64.wrap (0 - x363))) * 285870213051353865)) (2 ^ (min 58 64))) ∧ (Int.fdiv (IntKind.u64.wrap ((bitsI .and .u64 x363 (IntKind.u64.wrap (0 - x363))) * 285870213051353865)) (2 ^ (min 58 64))) < 64) <|
    grd (0 < List.length (List.drop (Int.toNat (Int.fdiv (IntKind.u64.wrap ((bitsI .and .u64 x363 (IntKind.u64.wrap (0 - x363))) * 285870213051353865)) (2 ^ (min 58 64)))) gv1)) <|
    getI .u8 (gp gv1 (Int.toNat (Int.fdiv (IntKind.u64.wrap ((bitsI .and .u64 x363 (IntKind.u64.wrap (0 - x363))) * 285870213051353865)) (2 ^ (min 58 64))))) fun x369 =>
    some (.int .i64 (IntKind.i64.wrap x369)))
theorem c96 (N : Nat) (x363 : Int) (r : PV)  (h : m96 N x363 = some r) : FnP Tryd.prog 96 [(.int .u64 x363)] r := by
  unfold m96 at h
  refine Fn_of (sz := 14) tab_ok [0, 2, 4] [.tmp 2] Tryd.func96 rfl rfl rfl (by simp) ?_
  simp only [initSt, initEnv, List.map_cons, List.map_nil, List.getD_cons_zero, List.getD_cons_succ, List.getD_nil]
  have hh := brn_some h; clear h; rcases hh with ⟨h364, h⟩ | ⟨h364, h⟩
  · refine W_sound tab_ok mixed 17 _ _ _ ?_
    simp -implicitDefEqProofs only [go_sem, qa, qb, qc, qd, qe, qf, qg, qh, qi, qj, qk, ↓reduceIte, h364]
    repeat with_reducible refine ⟨by first | kernel_rfl | decide, ?_⟩
    obtain rfl := Option.some.inj h
    exact finC [(2, .v (.int .i64 64))] [(2, .v (.int .i64 64))] (by simp [leE, lk_cons]) (.cons _ _ _ _ _ (.v _ _ (.refl _)) .nil) (by rfl) (by simp [leE, lk_cons]) (by decide) (by decide) rfl (by simp only [go_sem, qa, qb, qc, qd, qe, qf, qg, qh, qi, qj, qk, ↓reduceIte, resQ_tmp, resQ_cell, resQ_nil, retD_one, retD_two, retD_three, retD_none]; try simp [R.val, retD_one, retD_two, retD_three, retD_none])
  · have hh := grd_some h; clear h; obtain ⟨⟨g365, g366⟩, h⟩ := hh
    have hh := grd_some h; clear h; obtain ⟨g367, h⟩ := hh
    have hh := getI_some h; clear h; obtain ⟨x369, h368, h⟩ := hh
    refine W_sound tab_ok mixed 27 _ _ _ ?_
    simp -implicitDefEqProofs only [go_sem, qa, qb, qc, qd, qe, qf, qg, qh, qi, qj, qk, ↓reduceIte, h364, g365, g366, g367, h368]
    repeat with_reducible refine ⟨by first | kernel_rfl | decide, ?_⟩
    obtain rfl := Option.some.inj h
    exact finC [(2, .v (.int .i64 (IntKind.i64.wrap x369)))] [(2, .v (.int .i64 (IntKind.i64.wrap x369)))] (by simp [leE, lk_cons]) (.cons _ _ _ _ _ (.v _ _ (.refl _)) .nil) (by rfl) (by simp [leE, lk_cons]) (by decide) (by decide) rfl (by simp only [go_sem, qa, qb, qc, qd, qe, qf, qg, qh, qi, qj, qk, ↓reduceIte, resQ_tmp, resQ_cell, resQ_nil, retD_one, retD_two, retD_three, retD_none]; try simp [R.val, retD_one, retD_two, retD_three, retD_none])
def m87 (N : Nat) (x362 : Int) : Option (PV) :=
  bnd' (m96 N x362) fun p370 =>
  getI .i64 p370 fun x373 =>
  some (.int .i64 x373)
theorem c87 (N : Nat) (x362 : Int) (r : PV)  (h : m87 N x362 = some r) : FnP Tryd.prog 87 [(.int .u64 x362)] r := by
  unfold m87 at h
  refine Fn_of (sz := 8) tab_ok [0, 2] [.tmp 2] Tryd.func87 rfl rfl rfl (by simp) ?_
  simp only [initSt, initEnv, List.map_cons, List.map_nil, List.getD_cons_zero, List.getD_cons_succ, List.getD_nil]
  have hh := bnd'_some h; clear h; obtain ⟨p370, h371, h⟩ := hh
  refine W_sound tab_ok mixed 10 _ _ _ ?_
  simp -implicitDefEqProofs only [go_sem, qa, qb, qc, qd, qe, qf, qg, qh, qi, qj, qk, ↓reduceIte]
  repeat with_reducible refine ⟨by first | kernel_rfl | decide, ?_⟩
  refine Wp_callP (c96 N _ _ h371) (by kernel_rfl) rfl rfl rfl rfl (by decide) ?_
  have hh := getI_some h; clear h; obtain ⟨x373, h372, h⟩ := hh
  refine W_sound tab_ok mixed 4 _ _ _ ?_
  simp -implicitDefEqProofs only [go_sem, qa, qb, qc, qd, qe, qf, qg, qh, qi, qj, qk, ↓reduceIte, h372]
  repeat with_reducible refine ⟨by first | kernel_rfl | decide, ?_⟩
  obtain rfl := Option.some.inj h
  exact finC [(2, .v (.int .i64 x373))] [(2, .v (.int .i64 x373))] (by simp [leE, lk_cons]) (.cons _ _ _ _ _ (.v _ _ (.refl _)) .nil) (by rfl) (by simp [leE, lk_cons]) (by decide) (by decide) rfl (by simp only [go_sem, qa, qb, qc, qd, qe, qf, qg, qh, qi, qj, qk, ↓reduceIte, resQ_tmp, resQ_cell, resQ_nil, retD_one, retD_two, retD_three, retD_none]; try simp [R.val, retD_one, retD_two, retD_three, retD_none])
def m112 (N : Nat) (c459 : List PV) : Option (PV) :=
  grd (0 < List.length c459) <|
  getI .i64 (gp c459 0) fun x462 =>
  grd (1 < List.length c459) <|
  getI .i64 (gp c459 1) fun x465 =>
  some (.tup [(.int .i64 x462), (.int .i64 x465)])
theorem c112 (N : Nat) (c459 : List PV) (r : PV)  (h : m112 N c459 = some r) : V.Fn Tryd.prog 112 1 [.ptr 0 0] [(0, .p c459)] (fun d ob' => d = .v r ∧ ob' = [(0, .p c459)]) := by
  unfold m112 at h
  refine Fn_of (sz := 12) tab_ok [0, 2, 3] [.tmp 2, .tmp 3] Tryd.func112 rfl rfl rfl (by simp) ?_
  simp only [initSt, initEnv, List.map_cons, List.map_nil, List.getD_cons_zero, List.getD_cons_succ, List.getD_nil]
  have hh := grd_some h; clear h; obtain ⟨g460, h⟩ := hh
  have hh := getI_some h; clear h; obtain ⟨x462, h461, h⟩ := hh
  have hh := grd_some h; clear h; obtain ⟨g463, h⟩ := hh
  have hh := getI_some h; clear h; obtain ⟨x465, h464, h⟩ := hh
  refine W_sound tab_ok mixed 20 _ _ _ ?_
  simp -implicitDefEqProofs only [go_sem, qa, qb, qc, qd, qe, qf, qg, qh, qi, qj, qk, ↓reduceIte, g460, h461, g463, h464]
  repeat with_reducible refine ⟨by first | kernel_rfl | decide, ?_⟩
  obtain rfl := Option.some.inj h
  exact finD (e2 := [(0, .dead), (2, .v (.int .i64 x462)), (3, .v (.int .i64 x465))]) (ob2 := [(0, .p c459)]) (st' := ⟨[], [(0, .dead), (2, .v (.int .i64 x462)), (3, .v (.int .i64 x465))], [(0, .p c459)], 1, []⟩) (.k (.r (.r .nil))) (.cons _ _ _ _ _ (DLes.refl _) .nil) (by kernel_rfl) (by simp only [go_sem, qa, qb, qc, qd, qe, qf, qg, qh, qi, qj, qk, ↓reduceIte, resQ_tmp, resQ_cell, resQ_nil, retD_one, retD_two, retD_three, retD_none]; try simp [R.val, retD_one, retD_two, retD_three, retD_none])
def m113 (N : Nat) (c487 : List PV) (c488 : List PV) : Option ((PV × List PV)) :=
  grd (26 ≤ List.length c488) <|
  grd (List.length (List.take 25 (List.drop 1 c488)) = 25 ∧ 28 ≤ List.length c487) <|
  grd (3 ≤ List.length c487) <|
  some ((.bool true), (List.set (putP c487 3 (List.take 25 (List.drop 1 c488))) 2 (.bool true)))
theorem c113 (N : Nat) (c487 : List PV) (c488 : List PV) (r : PV) (c494 : List PV) (h : m113 N c487 c488 = some (r, c494)) : V.Fn Tryd.prog 113 2 [.ptr 0 0, .ptr 1 0] [(0, .p c487), (1, .p c488)] (fun d ob' => d = .v r ∧ ob' = [(0, .p c494), (1, .p c488)]) := by
  unfold m113 at h
  refine Fn_of (sz := 15) tab_ok [0, 1, 4] [.tmp 4] Tryd.func113 rfl rfl rfl (by simp) ?_
  simp only [initSt, initEnv, List.map_cons, List.map_nil, List.getD_cons_zero, List.getD_cons_succ, List.getD_nil]
  have hh := grd_some h; clear h; obtain ⟨g490, h⟩ := hh
  have hh := grd_some h; clear h; obtain ⟨⟨g491, g492⟩, h⟩ := hh
  have hh := grd_some h; clear h; obtain ⟨g493, h⟩ := hh
  refine W_sound tab_ok mixed 25 _ _ _ ?_
  simp -implicitDefEqProofs only [go_sem, qa, qb, qc, qd, qe, qf, qg, qh, qi, qj, qk, ↓reduceIte, g490, g491, g492, g493]
  repeat with_reducible refine ⟨by first | kernel_rfl | decide, ?_⟩
  simp only [Option.some.injEq, Prod.mk.injEq] at h; obtain ⟨rfl, rfl⟩ := h
  exact finD (e2 := [(0, .dead), (1, .dead), (4, .v (.bool true))]) (ob2 := [(0, .p (List.set (putP c487 3 (List.take 25 (List.drop 1 c488))) 2 (.bool true))), (1, .p c488)]) (st' := ⟨[], [(0, .dead), (1, .dead), (4, .v (.bool true))], [(0, .p (List.set (putP c487 3 (List.take 25 (List.drop 1 c488))) 2 (.bool true))), (1, .p c488)], 2, []⟩) (.k (.k (.r .nil))) (.cons _ _ _ _ _ (DLes.refl _) (.cons _ _ _ _ _ (DLes.refl _) .nil)) (by kernel_rfl) (by simp only [go_sem, qa, qb, qc, qd, qe, qf, qg, qh, qi, qj, qk, ↓reduceIte, resQ_tmp, resQ_cell, resQ_nil, retD_one, retD_two, retD_three, retD_none]; try simp [R.val, retD_one, retD_two, retD_three, retD_none])
def m89 (N : Nat) (x520 : Int) (x521 : Int) (c522 : List PV) : Option (PV) :=
  grd (0 < List.length c522) <|
  getI .i64 (gp c522 0) fun x525 =>
  grd (0 ≤ x525) <|
  grd (0 ≤ x520 ∧ x520 < 5) <|
  grd ((26 + (Int.toNat x520)) < List.length c522) <|
  getI .u64 (gp c522 (26 + (Int.toNat x520))) fun x531 =>
  grd (0 ≤ x521 ∧ x521 < 5) <|
  grd ((31 + (Int.toNat x521)) < List.length c522) <|
  getI .u64 (gp c522 (31 + (Int.toNat x521))) fun x536 =>
  some (.int .u64 (bitsI .andNot .u64 (bitsI .andNot .u64 (IntKind.u64.wrap ((IntKind.u64.wrap (1 * 2 ^ (min (Int.toNat x525) 64))) - 1)) x531) x536))
theorem c89 (N : Nat) (x520 : Int) (x521 : Int) (c522 : List PV) (r : PV)  (h : m89 N x520 x521 c522 = some r) : V.Fn Tryd.prog 89 1 [.ptr 0 0, .v (.int .i64 x520), .v (.int .i64 x521)] [(0, .p c522)] (fun d ob' => d = .v r ∧ ob' = [(0, .p c522)]) := by
  unfold m89 at h
  refine Fn_of (sz := 27) tab_ok [0, 1, 2, 6] [.tmp 6] Tryd.func89 rfl rfl rfl (by simp) ?_
  simp only [initSt, initEnv, List.map_cons, List.map_nil, List.getD_cons_zero, List.getD_cons_succ, List.getD_nil]
  have hh := grd_some h; clear h; obtain ⟨g523, h⟩ := hh
  have hh := getI_some h; clear h; obtain ⟨x525, h524, h⟩ := hh
  have hh := grd_some h; clear h; obtain ⟨g526, h⟩ := hh
  have hh := grd_some h; clear h; obtain ⟨⟨g527, g528⟩, h⟩ := hh
  have hh := grd_some h; clear h; obtain ⟨g529, h⟩ := hh
  have hh := getI_some h; clear h; obtain ⟨x531, h530, h⟩ := hh
  have hh := grd_some h; clear h; obtain ⟨⟨g532, g533⟩, h⟩ := hh
  have hh := grd_some h; clear h; obtain ⟨g534, h⟩ := hh
  have hh := getI_some h; clear h; obtain ⟨x536, h535, h⟩ := hh
  refine W_sound tab_ok mixed 30 _ _ _ ?_
  simp -implicitDefEqProofs only [go_sem, qa, qb, qc, qd, qe, qf, qg, qh, qi, qj, qk, ↓reduceIte, g523, h524, g526, g527, g528, g529, h530, g532, g533, g534, h535]
  repeat with_reducible refine ⟨by first | kernel_rfl | decide, ?_⟩
  obtain rfl := Option.some.inj h
  exact finD (e2 := [(0, .dead), (1, .dead), (2, .dead), (6, .v (.int .u64 (bitsI .andNot .u64 (bitsI .andNot .u64 (IntKind.u64.wrap ((IntKind.u64.wrap (1 * 2 ^ (min (Int.toNat x525) 64))) - 1)) x531) x536)))]) (ob2 := [(0, .p c522)]) (st' := ⟨[], [(0, .dead), (1, .dead), (2, .dead), (6, .v (.int .u64 (bitsI .andNot .u64 (bitsI .andNot .u64 (IntKind.u64.wrap ((IntKind.u64.wrap (1 * 2 ^ (min (Int.toNat x525) 64))) - 1)) x531) x536)))], [(0, .p c522)], 1, []⟩) (.k (.k (.k (.r .nil)))) (.cons _ _ _ _ _ (DLes.refl _) .nil) (by kernel_rfl) (by simp only [go_sem, qa, qb, qc, qd, qe, qf, qg, qh, qi, qj, qk, ↓reduceIte, resQ_tmp, resQ_cell, resQ_nil, retD_one, retD_two, retD_three, retD_none]; try simp [R.val, retD_one, retD_two, retD_three, retD_none])
def m90 (N : Nat) (x577 : Int) (x578 : Int) (c579 : List PV) : Option ((PV × List PV)) :=
  grd (0 ≤ x577 ∧ x577 < 5) <|
  grd (0 ≤ x578 ∧ x578 < 5) <|
  grd (((1 + ((Int.toNat x577) * 5)) + (Int.toNat x578)) < List.length c579) <|
  getI .i64 (gp c579 ((1 + ((Int.toNat x577) * 5)) + (Int.toNat x578))) fun x587 =>
  grd ((((1 + ((Int.toNat x577) * 5)) + (Int.toNat x578)) + 1) ≤ List.length c579) <|
  grd ((26 + (Int.toNat x577)) < List.length c579) <|
  getI .u64 (gp (List.set c579 ((1 + ((Int.toNat x577) * 5)) + (Int.toNat x578)) (.int .i64 (-1))) (26 + (Int.toNat x577))) fun x591 =>
  grd (0 ≤ x587) <|
  grd (((26 + (Int.toNat x577)) + 1) ≤ List.length c579) <|
  grd ((31 + (Int.toNat x578)) < List.length c579) <|
  getI .u64 (gp (List.set (List.set c579 ((1 + ((Int.toNat x577) * 5)) + (Int.toNat x578)) (.int .i64 (-1))) (26 + (Int.toNat x577)) (.int .u64 (bitsI .andNot .u64 x591 (IntKind.u64.wrap (1 * 2 ^ (min (Int.toNat x587) 64)))))) (31 + (Int.toNat x578))) fun x596 =>
  grd (((31 + (Int.toNat x578)) + 1) ≤ List.length c579) <|
  some ((.tup []), (List.set (List.set (List.set c579 ((1 + ((Int.toNat x577) * 5)) + (Int.toNat x578)) (.int .i64 (-1))) (26 + (Int.toNat x577)) (.int .u64 (bitsI .andNot .u64 x591 (IntKind.u64.wrap (1 * 2 ^ (min (Int.toNat x587) 64)))))) (31 + (Int.toNat x578)) (.int .u64 (bitsI .andNot .u64 x596 (IntKind.u64.wrap (1 * 2 ^ (min (Int.toNat x587) 64)))))))
theorem c90 (N : Nat) (x577 : Int) (x578 : Int) (c579 : List PV) (r : PV) (c599 : List PV) (h : m90 N x577 x578 c579 = some (r, c599)) : V.Fn Tryd.prog 90 1 [.ptr 0 0, .v (.int .i64 x577), .v (.int .i64 x578)] [(0, .p c579)] (fun d ob' => d = .v r ∧ ob' = [(0, .p c599)]) := by
  unfold m90 at h
  refine Fn_of (sz := 46) tab_ok [0, 1, 2, 6] [] Tryd.func90 rfl rfl rfl (by simp) ?_
  simp only [initSt, initEnv, List.map_cons, List.map_nil, List.getD_cons_zero, List.getD_cons_succ, List.getD_nil]
  have hh := grd_some h; clear h; obtain ⟨⟨g581, g582⟩, h⟩ := hh
  have hh := grd_some h; clear h; obtain ⟨⟨g583, g584⟩, h⟩ := hh
  have hh := grd_some h; clear h; obtain ⟨g585, h⟩ := hh
  have hh := getI_some h; clear h; obtain ⟨x587, h586, h⟩ := hh
  have hh := grd_some h; clear h; obtain ⟨g588, h⟩ := hh
  have hh := grd_some h; clear h; obtain ⟨g589, h⟩ := hh
  have hh := getI_some h; clear h; obtain ⟨x591, h590, h⟩ := hh
  have hh := grd_some h; clear h; obtain ⟨g592, h⟩ := hh
  have hh := grd_some h; clear h; obtain ⟨g593, h⟩ := hh
  have hh := grd_some h; clear h; obtain ⟨g594, h⟩ := hh
  have hh := getI_some h; clear h; obtain ⟨x596, h595, h⟩ := hh
  have hh := grd_some h; clear h; obtain ⟨g597, h⟩ := hh
  refine W_sound tab_ok mixed 55 _ _ _ ?_
  simp -implicitDefEqProofs only [go_sem, qa, qb, qc, qd, qe, qf, qg, qh, qi, qj, qk, ↓reduceIte, g581, g582, g583, g584, g585, h586, g588, g589, h590, g592, g593, g594, h595, g597]
  repeat with_reducible refine ⟨by first | kernel_rfl | decide, ?_⟩
  simp only [Option.some.injEq, Prod.mk.injEq] at h; obtain ⟨rfl, rfl⟩ := h
  exact finD (e2 := [(0, .dead), (1, .dead), (2, .dead), (6, .dead)]) (ob2 := [(0, .p (List.set (List.set (List.set c579 ((1 + ((Int.toNat x577) * 5)) + (Int.toNat x578)) (.int .i64 (-1))) (26 + (Int.toNat x577)) (.int .u64 (bitsI .andNot .u64 x591 (IntKind.u64.wrap (1 * 2 ^ (min (Int.toNat x587) 64)))))) (31 + (Int.toNat x578)) (.int .u64 (bitsI .andNot .u64 x596 (IntKind.u64.wrap (1 * 2 ^ (min (Int.toNat x587) 64)))))))]) (st' := ⟨[], [(0, .dead), (1, .dead), (2, .dead), (6, .dead)], [(0, .p (List.set (List.set (List.set c579 ((1 + ((Int.toNat x577) * 5)) + (Int.toNat x578)) (.int .i64 (-1))) (26 + (Int.toNat x577)) (.int .u64 (bitsI .andNot .u64 x591 (IntKind.u64.wrap (1 * 2 ^ (min (Int.toNat x587) 64)))))) (31 + (Int.toNat x578)) (.int .u64 (bitsI .andNot .u64 x596 (IntKind.u64.wrap (1 * 2 ^ (min (Int.toNat x587) 64)))))))], 1, []⟩) (.k (.k (.k (.k .nil)))) (.cons _ _ _ _ _ (DLes.refl _) .nil) (by kernel_rfl) (by simp only [go_sem, qa, qb, qc, qd, qe, qf, qg, qh, qi, qj, qk, ↓reduceIte, resQ_tmp, resQ_cell, resQ_nil, retD_one, retD_two, retD_three, retD_none]; try simp [R.val, retD_one, retD_two, retD_three, retD_none])
def m88_L0 (N : Nat) (rec : Int → Int → Int → List PV → List PV → Option ((PV × List PV × List PV))) (x628 : Int) (x629 : Int) (x630 : Int) : Nat → Int → List PV → List PV → Option (((PV × List PV × List PV) ⊕ (List PV × List PV)))
  | 0, _, _, _ => none
  | n + 1, x690, c691, c692 =>
    brn (x690 != 0) (
      bnd' (m87 N x690) fun p694 =>
      getI .i64 p694 fun x697 =>
      bnd' (m72 N x628 x629 x697 c692) fun (p698, c700) =>
      getT0 p698 <|
      bnd' (rec x628 (IntKind.i64.wrap (x629 + 1)) x630 c691 c700) fun (p702, c704, c705) =>
      getB p702 fun b707 =>
      brn b707 (
        some (.inl ((.bool true), c704, c705))) (
        bnd' (m90 N x628 x629 c705) fun (p709, c711) =>
        getT0 p709 <|
        m88_L0 N rec x628 x629 x630 n (bitsI .and .u64 x690 (IntKind.u64.wrap (x690 - 1))) c704 c711)) (
      some (.inr (c691, c692)))
def m88 (N : Nat) : Nat → Int → Int → Int → List PV → List PV → Option ((PV × List PV × List PV))
  | 0, _, _, _, _, _ => none
  | fu + 1, x628, x629, x630, c631, c632 =>
    brn (x628 == x630) (
      bnd' (m113 N c631 c632) fun (p636, c638) =>
      getB p636 fun b640 =>
      some ((.bool b640), c638, c632)) (
      grd (0 < List.length c632) <|
      getI .i64 (gp c632 0) fun x643 =>
      brn (x629 == x643) (
        bnd' ((m88 N fu) (IntKind.i64.wrap (x628 + 1)) 0 x630 c631 c632) fun (p645, c647, c648) =>
        getB p645 fun b650 =>
        some ((.bool b650), c647, c648)) (
        grd (0 ≤ x628 ∧ x628 < 5) <|
        grd (0 ≤ x629 ∧ x629 < 5) <|
        grd (((1 + ((Int.toNat x628) * 5)) + (Int.toNat x629)) < List.length c632) <|
        getI .i64 (gp c632 ((1 + ((Int.toNat x628) * 5)) + (Int.toNat x629))) fun x657 =>
        brn (decide (x657 ≥ 0)) (
          bnd' ((m88 N fu) x628 (IntKind.i64.wrap (x629 + 1)) x630 c631 c632) fun (p659, c661, c662) =>
          getB p659 fun b664 =>
          some ((.bool b664), c661, c662)) (
          bnd' (m89 N x628 x629 c632) fun p665 =>
          getI .u64 p665 fun x668 =>
          bnd' (m88_L0 N (m88 N fu) x628 x629 x630 N x668 c631 c632) fun o =>
          match o with
          | .inl p713 =>
            some p713
          | .inr (c714, c715) =>
            some ((.bool false), c714, c715))))
theorem c88 (N : Nat) : ∀ (fu : Nat) (x628 : Int) (x629 : Int) (x630 : Int) (c631 : List PV) (c632 : List PV) (r : PV) (c718 : List PV) (c719 : List PV) (h : m88 N fu x628 x629 x630 c631 c632 = some (r, c718, c719)), V.Fn Tryd.prog 88 6 [.v (.int .i64 x628), .v (.int .i64 x629), .ptr 0 0, .ptr 1 0, .ptr 3 0, .ptr 5 0] [(0, .p [(.int .i64 x630)]), (1, .r [.fn 1000070 [.ptr 2 0]]), (2, .p c631), (3, .r [.ptr 4 0]), (4, .p c632), (5, .r [.fn 88 [.ptr 0 0, .ptr 1 0, .ptr 3 0, .ptr 5 0]])] (fun d ob' => d = .v r ∧ ob' = [(0, .p [(.int .i64 x630)]), (1, .r [.fn 1000070 [.ptr 2 0]]), (2, .p c718), (3, .r [.ptr 4 0]), (4, .p c719), (5, .r [.fn 88 [.ptr 0 0, .ptr 1 0, .ptr 3 0, .ptr 5 0]])]) := by
  intro fu
  induction fu with
  | zero => intro x628 x629 x630 c631 c632 r c718 c719 h; cases h
  | succ fu ih =>
    intro x628 x629 x630 c631 c632 r c718 c719 h
    rw [m88] at h
    refine Fn_of (sz := 68) tab_ok [0, 1, 2, 3, 4, 5, 8, 9, 10, 17, 28, 48, 63] [.tmp 8] Tryd.func88 rfl rfl rfl (by simp) ?_
    simp only [initSt, initEnv, List.map_cons, List.map_nil, List.getD_cons_zero, List.getD_cons_succ, List.getD_nil]
    have hh := brn_some h; clear h; rcases hh with ⟨h635, h⟩ | ⟨h635, h⟩
    · have hh := bnd'_some h; clear h; obtain ⟨⟨p636, c638⟩, h637, h⟩ := hh
      (try dsimp only at h)
      refine W_sound tab_ok mixed 18 _ _ _ ?_
      simp -implicitDefEqProofs only [go_sem, qa, qb, qc, qd, qe, qf, qg, qh, qi, qj, qk, ↓reduceIte, h635]
      repeat with_reducible refine ⟨by first | kernel_rfl | decide, ?_⟩
      refine Wp_callDG (ds := [.ptr 2 0, .ptr 4 0]) [2, 4] (c113 N _ _ _ _ h637) (by kernel_rfl) rfl (by first | rfl | (simp only [go_sem, qa, qb, qc, qd, qe, qf, qg, qh, qi, qj, qk, ↓reduceIte, h635] <;> rfl)) rfl (by kernel_rfl) ?_
      have hh := getB_some h; clear h; obtain ⟨b640, h639, h⟩ := hh
      refine W_sound tab_ok mixed 4 _ _ _ ?_
      simp -implicitDefEqProofs only [go_sem, qa, qb, qc, qd, qe, qf, qg, qh, qi, qj, qk, ↓reduceIte, h635, h639]
      repeat with_reducible refine ⟨by first | kernel_rfl | decide, ?_⟩
      simp only [Option.some.injEq, Prod.mk.injEq] at h; obtain ⟨rfl, rfl, rfl⟩ := h
      exact finD (e2 := [(0, .dead), (1, .dead), (2, .dead), (3, .dead), (4, .dead), (5, .dead), (8, .v (.bool b640)), (9, .dead), (10, .dead), (17, .dead), (28, .dead), (48, .dead), (63, .dead)]) (ob2 := [(0, .p [(.int .i64 x630)]), (1, .r [.fn 1000070 [.ptr 2 0]]), (3, .r [.ptr 4 0]), (5, .r [.fn 88 [.ptr 0 0, .ptr 1 0, .ptr 3 0, .ptr 5 0]]), (4, .p c632), (2, .p c638)]) (st' := ⟨[], [(0, .dead), (1, .dead), (2, .dead), (3, .dead), (4, .dead), (5, .dead), (8, .v (.bool b640)), (9, .dead), (10, .dead), (17, .dead), (28, .dead), (48, .dead), (63, .dead)], [(0, .p [(.int .i64 x630)]), (1, .r [.fn 1000070 [.ptr 2 0]]), (2, .p c638), (3, .r [.ptr 4 0]), (4, .p c632), (5, .r [.fn 88 [.ptr 0 0, .ptr 1 0, .ptr 3 0, .ptr 5 0]])], 6, []⟩) (.k (.k (.k (.k (.k (.k (.r (.r (.k (.r (.r (.r (.r .nil))))))))))))) (.cons _ _ _ _ _ (DLes.refl _) (.cons _ _ _ _ _ (DLes.refl _) (.cons _ _ _ _ _ (DLes.refl _) (.cons _ _ _ _ _ (DLes.refl _) (.cons _ _ _ _ _ (DLes.refl _) (.cons _ _ _ _ _ (DLes.refl _) .nil)))))) (by kernel_rfl) (by simp only [go_sem, qa, qb, qc, qd, qe, qf, qg, qh, qi, qj, qk, ↓reduceIte, resQ_tmp, resQ_cell, resQ_nil, retD_one, retD_two, retD_three, retD_none]; try simp [R.val, retD_one, retD_two, retD_three, retD_none])
    · have hh := grd_some h; clear h; obtain ⟨g641, h⟩ := hh
      have hh := getI_some h; clear h; obtain ⟨x643, h642, h⟩ := hh
      have hh := brn_some h; clear h; rcases hh with ⟨h644, h⟩ | ⟨h644, h⟩
      · have hh := bnd'_some h; clear h; obtain ⟨⟨p645, c647, c648⟩, h646, h⟩ := hh
        (try dsimp only at h)
        refine W_sound tab_ok mixed 30 _ _ _ ?_
        simp -implicitDefEqProofs only [go_sem, qa, qb, qc, qd, qe, qf, qg, qh, qi, qj, qk, ↓reduceIte, h635, g641, h642, h644]
        repeat with_reducible refine ⟨by first | kernel_rfl | decide, ?_⟩
        refine Wp_callD [0, 1, 2, 3, 4, 5] (ih _ _ _ _ _ _ _ _ h646) rfl rfl rfl (by first | rfl | (simp only [go_sem, qa, qb, qc, qd, qe, qf, qg, qh, qi, qj, qk, ↓reduceIte, h635, g641, h642, h644] <;> rfl)) rfl (by kernel_rfl) ?_
        have hh := getB_some h; clear h; obtain ⟨b650, h649, h⟩ := hh
        refine W_sound tab_ok mixed 4 _ _ _ ?_
        simp -implicitDefEqProofs only [go_sem, qa, qb, qc, qd, qe, qf, qg, qh, qi, qj, qk, ↓reduceIte, h635, g641, h642, h644, h649]
        repeat with_reducible refine ⟨by first | kernel_rfl | decide, ?_⟩
        simp only [Option.some.injEq, Prod.mk.injEq] at h; obtain ⟨rfl, rfl, rfl⟩ := h
        exact finD (e2 := [(0, .dead), (1, .dead), (2, .dead), (3, .dead), (4, .dead), (5, .dead), (8, .v (.bool b650)), (9, .dead), (10, .dead), (17, .dead), (28, .dead), (48, .dead), (63, .dead)]) (ob2 := [(5, .r [.fn 88 [.ptr 0 0, .ptr 1 0, .ptr 3 0, .ptr 5 0]]), (4, .p c648), (3, .r [.ptr 4 0]), (2, .p c647), (1, .r [.fn 1000070 [.ptr 2 0]]), (0, .p [(.int .i64 x630)])]) (st' := ⟨[], [(0, .dead), (1, .dead), (2, .dead), (3, .dead), (4, .dead), (5, .dead), (8, .v (.bool b650)), (9, .dead), (10, .dead), (17, .dead), (28, .dead), (48, .dead), (63, .dead)], [(0, .p [(.int .i64 x630)]), (1, .r [.fn 1000070 [.ptr 2 0]]), (2, .p c647), (3, .r [.ptr 4 0]), (4, .p c648), (5, .r [.fn 88 [.ptr 0 0, .ptr 1 0, .ptr 3 0, .ptr 5 0]])], 6, []⟩) (.k (.k (.k (.k (.k (.k (.r (.r (.k (.k (.r (.r (.r .nil))))))))))))) (.cons _ _ _ _ _ (DLes.refl _) (.cons _ _ _ _ _ (DLes.refl _) (.cons _ _ _ _ _ (DLes.refl _) (.cons _ _ _ _ _ (DLes.refl _) (.cons _ _ _ _ _ (DLes.refl _) (.cons _ _ _ _ _ (DLes.refl _) .nil)))))) (by kernel_rfl) (by simp only [go_sem, qa, qb, qc, qd, qe, qf, qg, qh, qi, qj, qk, ↓reduceIte, resQ_tmp, resQ_cell, resQ_nil, retD_one, retD_two, retD_three, retD_none]; try simp [R.val, retD_one, retD_two, retD_three, retD_none])
      · have hh := grd_some h; clear h; obtain ⟨⟨g651, g652⟩, h⟩ := hh
        have hh := grd_some h; clear h; obtain ⟨⟨g653, g654⟩, h⟩ := hh
        have hh := grd_some h; clear h; obtain ⟨g655, h⟩ := hh
        have hh := getI_some h; clear h; obtain ⟨x657, h656, h⟩ := hh
        have hh := brn_some h; clear h; rcases hh with ⟨h658, h⟩ | ⟨h658, h⟩
        · have hh := bnd'_some h; clear h; obtain ⟨⟨p659, c661, c662⟩, h660, h⟩ := hh
          (try dsimp only at h)
          refine W_sound tab_ok mixed 45 _ _ _ ?_
          simp -implicitDefEqProofs only [go_sem, qa, qb, qc, qd, qe, qf, qg, qh, qi, qj, qk, ↓reduceIte, h635, g641, h642, h644, g651, g652, g653, g654, g655, h656, h658]
          repeat with_reducible refine ⟨by first | kernel_rfl | decide, ?_⟩
          refine Wp_callD [0, 1, 2, 3, 4, 5] (ih _ _ _ _ _ _ _ _ h660) rfl rfl rfl (by first | rfl | (simp only [go_sem, qa, qb, qc, qd, qe, qf, qg, qh, qi, qj, qk, ↓reduceIte, h635, g641, h642, h644, g651, g652, g653, g654, g655, h656, h658] <;> rfl)) rfl (by kernel_rfl) ?_
          have hh := getB_some h; clear h; obtain ⟨b664, h663, h⟩ := hh
          refine W_sound tab_ok mixed 4 _ _ _ ?_
          simp -implicitDefEqProofs only [go_sem, qa, qb, qc, qd, qe, qf, qg, qh, qi, qj, qk, ↓reduceIte, h635, g641, h642, h644, g651, g652, g653, g654, g655, h656, h658, h663]
          repeat with_reducible refine ⟨by first | kernel_rfl | decide, ?_⟩
          simp only [Option.some.injEq, Prod.mk.injEq] at h; obtain ⟨rfl, rfl, rfl⟩ := h
          exact finD (e2 := [(0, .dead), (1, .dead), (2, .dead), (3, .dead), (4, .dead), (5, .dead), (8, .v (.bool b664)), (9, .dead), (10, .dead), (17, .dead), (28, .dead), (48, .dead), (63, .dead)]) (ob2 := [(5, .r [.fn 88 [.ptr 0 0, .ptr 1 0, .ptr 3 0, .ptr 5 0]]), (4, .p c662), (3, .r [.ptr 4 0]), (2, .p c661), (1, .r [.fn 1000070 [.ptr 2 0]]), (0, .p [(.int .i64 x630)])]) (st' := ⟨[], [(0, .dead), (1, .dead), (2, .dead), (3, .dead), (4, .dead), (5, .dead), (8, .v (.bool b664)), (9, .dead), (10, .dead), (17, .dead), (28, .dead), (48, .dead), (63, .dead)], [(0, .p [(.int .i64 x630)]), (1, .r [.fn 1000070 [.ptr 2 0]]), (2, .p c661), (3, .r [.ptr 4 0]), (4, .p c662), (5, .r [.fn 88 [.ptr 0 0, .ptr 1 0, .ptr 3 0, .ptr 5 0]])], 6, []⟩) (.k (.k (.k (.k (.k (.k (.r (.r (.k (.k (.k (.r (.r .nil))))))))))))) (.cons _ _ _ _ _ (DLes.refl _) (.cons _ _ _ _ _ (DLes.refl _) (.cons _ _ _ _ _ (DLes.refl _) (.cons _ _ _ _ _ (DLes.refl _) (.cons _ _ _ _ _ (DLes.refl _) (.cons _ _ _ _ _ (DLes.refl _) .nil)))))) (by kernel_rfl) (by simp only [go_sem, qa, qb, qc, qd, qe, qf, qg, qh, qi, qj, qk, ↓reduceIte, resQ_tmp, resQ_cell, resQ_nil, retD_one, retD_two, retD_three, retD_none]; try simp [R.val, retD_one, retD_two, retD_three, retD_none])
        · have hh := bnd'_some h; clear h; obtain ⟨p665, h666, h⟩ := hh
          (try dsimp only at h)
          refine W_sound tab_ok mixed 47 _ _ _ ?_
          simp -implicitDefEqProofs only [go_sem, qa, qb, qc, qd, qe, qf, qg, qh, qi, qj, qk, ↓reduceIte, h635, g641, h642, h644, g651, g652, g653, g654, g655, h656, h658]
          repeat with_reducible refine ⟨by first | kernel_rfl | decide, ?_⟩
          refine Wp_callD [4] (c89 N _ _ _ _ h666) rfl rfl rfl (by first | rfl | (simp only [go_sem, qa, qb, qc, qd, qe, qf, qg, qh, qi, qj, qk, ↓reduceIte, h635, g641, h642, h644, g651, g652, g653, g654, g655, h656, h658] <;> rfl)) rfl (by kernel_rfl) ?_
          have hh := getI_some h; clear h; obtain ⟨x668, h667, h⟩ := hh
          refine W_sound tab_ok mixed 2 _ _ _ ?_
          simp -implicitDefEqProofs only [go_sem, qa, qb, qc, qd, qe, qf, qg, qh, qi, qj, qk, ↓reduceIte, h635, g641, h642, h644, g651, g652, g653, g654, g655, h656, h658, h667]
          repeat with_reducible refine ⟨by first | kernel_rfl | decide, ?_⟩
          have hh := bnd'_some h; clear h; obtain ⟨o720, h721, h722⟩ := hh
          refine Wp_cut (fun s => ∃ c714, ∃ c715, (.inr (c714, c715)) = o720 ∧ s = ⟨[], [(0, .dead), (1, .dead), (2, .dead), (3, .dead), (4, .dead), (5, .dead), (8, .dead), (9, .dead), (10, .dead), (17, .dead), (28, .dead), (48, .dead), (63, .dead)], [(0, .p [(.int .i64 x630)]), (1, .r [.fn 1000070 [.ptr 2 0]]), (2, .p c714), (3, .r [.ptr 4 0]), (4, .p c715), (5, .r [.fn 88 [.ptr 0 0, .ptr 1 0, .ptr 3 0, .ptr 5 0]])], 6, []⟩) ?_ ?_
          · refine Wp_block ?_
            refine Wp_loopG (fun n s => ∃ x690, ∃ c691, ∃ c692, m88_L0 N (m88 N fu) x628 x629 x630 n x690 c691 c692 = some o720 ∧ s = ⟨[], [(0, .v (.int .i64 x628)), (1, .v (.int .i64 x629)), (2, .dead), (3, .dead), (4, .ptr 3 0), (5, .ptr 5 0), (8, .dead), (9, .v (.int .u64 x690)), (10, .dead), (17, .dead), (28, .dead), (48, .dead), (63, .dead)], [(0, .p [(.int .i64 x630)]), (1, .r [.fn 1000070 [.ptr 2 0]]), (2, .p c691), (3, .r [.ptr 4 0]), (4, .p c692), (5, .r [.fn 88 [.ptr 0 0, .ptr 1 0, .ptr 3 0, .ptr 5 0]])], 6, []⟩) N _ ((Wk_le (.r (.r (.k (.k (.r (.r (.k (.r (.k (.k (.k (.r (.r .nil))))))))))))) (OLe.refl _)).trans (cmpS_ok (st' := ⟨[], [(0, .v (.int .i64 x628)), (1, .v (.int .i64 x629)), (2, .dead), (3, .dead), (4, .ptr 3 0), (5, .ptr 5 0), (8, .dead), (9, .v (.int .u64 x668)), (10, .dead), (17, .dead), (28, .dead), (48, .dead), (63, .dead)], [(0, .p [(.int .i64 x630)]), (1, .r [.fn 1000070 [.ptr 2 0]]), (2, .p c631), (3, .r [.ptr 4 0]), (4, .p c632), (5, .r [.fn 88 [.ptr 0 0, .ptr 1 0, .ptr 3 0, .ptr 5 0]])], 6, []⟩) (by kernel_rfl))) ⟨_, _, _, h721, rfl⟩ ?_
            clear h721
            rintro n _ ⟨x690, c691, c692, h721, rfl⟩
            cases n with
            | zero => cases h721
            | succ n =>
              rw [m88_L0] at h721
              have hh := brn_some h721; clear h721; rcases hh with ⟨h693, h721⟩ | ⟨h693, h721⟩
              · have hh := bnd'_some h721; clear h721; obtain ⟨p694, h695, h721⟩ := hh
                refine W_sound tab_ok mixed 16 _ _ _ ?_
                simp -implicitDefEqProofs only [go_sem, qa, qb, qc, qd, qe, qf, qg, qh, qi, qj, qk, ↓reduceIte, h635, g641, h642, h644, g651, g652, g653, g654, g655, h656, h658, h667, h693]
                repeat with_reducible refine ⟨by first | kernel_rfl | decide, ?_⟩
                refine Wp_callP (c87 N _ _ h695) (by kernel_rfl) rfl rfl rfl rfl (by decide) ?_
                have hh := getI_some h721; clear h721; obtain ⟨x697, h696, h721⟩ := hh
                have hh := bnd'_some h721; clear h721; obtain ⟨⟨p698, c700⟩, h699, h721⟩ := hh
                (try dsimp only at h721)
                (try simp -implicitDefEqProofs only [go_sem, qa, qb, qc, qd, qe, qf, qg, qh, qi, qj, qk, ↓reduceIte, h635, g641, h642, h644, g651, g652, g653, g654, g655, h656, h658, h667, h693, h696])
                refine Wp_callD [4] (c72 N _ _ _ _ _ _ h699) rfl rfl rfl (by first | rfl | (simp only [go_sem, qa, qb, qc, qd, qe, qf, qg, qh, qi, qj, qk, ↓reduceIte, h635, g641, h642, h644, g651, g652, g653, g654, g655, h656, h658, h667, h693, h696] <;> rfl)) rfl (by kernel_rfl) ?_
                have hh := getT0_some h721; clear h721; obtain ⟨h701, h721⟩ := hh
                have hh := bnd'_some h721; clear h721; obtain ⟨⟨p702, c704, c705⟩, h703, h721⟩ := hh
                (try dsimp only at h721)
                refine W_sound tab_ok mixed 8 _ _ _ ?_
                simp -implicitDefEqProofs only [go_sem, qa, qb, qc, qd, qe, qf, qg, qh, qi, qj, qk, ↓reduceIte, h635, g641, h642, h644, g651, g652, g653, g654, g655, h656, h658, h667, h693, h696, h701]
                repeat with_reducible refine ⟨by first | kernel_rfl | decide, ?_⟩
                refine Wp_callD [0, 1, 2, 3, 4, 5] (ih _ _ _ _ _ _ _ _ h703) rfl rfl rfl (by first | rfl | (simp only [go_sem, qa, qb, qc, qd, qe, qf, qg, qh, qi, qj, qk, ↓reduceIte, h635, g641, h642, h644, g651, g652, g653, g654, g655, h656, h658, h667, h693, h696, h701] <;> rfl)) rfl (by kernel_rfl) ?_
                have hh := getB_some h721; clear h721; obtain ⟨b707, h706, h721⟩ := hh
                have hh := brn_some h721; clear h721; rcases hh with ⟨h708, h721⟩ | ⟨h708, h721⟩
                · refine W_sound tab_ok mixed 8 _ _ _ ?_
                  simp -implicitDefEqProofs only [go_sem, qa, qb, qc, qd, qe, qf, qg, qh, qi, qj, qk, ↓reduceIte, h635, g641, h642, h644, g651, g652, g653, g654, g655, h656, h658, h667, h693, h696, h701, h706, h708]
                  repeat with_reducible refine ⟨by first | kernel_rfl | decide, ?_⟩
                  obtain rfl := Option.some.inj h721
                  (try dsimp only at h722)
                  simp only [Option.some.injEq, Prod.mk.injEq] at h722; obtain ⟨rfl, rfl, rfl⟩ := h722
                  exact finD (e2 := [(0, .dead), (1, .dead), (2, .dead), (3, .dead), (4, .dead), (5, .dead), (8, .v (.bool true)), (9, .dead), (10, .dead), (17, .dead), (28, .dead), (48, .dead), (63, .dead)]) (ob2 := [(5, .r [.fn 88 [.ptr 0 0, .ptr 1 0, .ptr 3 0, .ptr 5 0]]), (4, .p c705), (3, .r [.ptr 4 0]), (2, .p c704), (1, .r [.fn 1000070 [.ptr 2 0]]), (0, .p [(.int .i64 x630)])]) (st' := ⟨[], [(0, .dead), (1, .dead), (2, .dead), (3, .dead), (4, .dead), (5, .dead), (8, .v (.bool true)), (9, .dead), (10, .dead), (17, .dead), (28, .dead), (48, .dead), (63, .dead)], [(0, .p [(.int .i64 x630)]), (1, .r [.fn 1000070 [.ptr 2 0]]), (2, .p c704), (3, .r [.ptr 4 0]), (4, .p c705), (5, .r [.fn 88 [.ptr 0 0, .ptr 1 0, .ptr 3 0, .ptr 5 0]])], 6, []⟩) (.k (.k (.r (.r (.k (.k (.r (.k (.r (.r (.r (.k (.k .nil))))))))))))) (.cons _ _ _ _ _ (DLes.refl _) (.cons _ _ _ _ _ (DLes.refl _) (.cons _ _ _ _ _ (DLes.refl _) (.cons _ _ _ _ _ (DLes.refl _) (.cons _ _ _ _ _ (DLes.refl _) (.cons _ _ _ _ _ (DLes.refl _) .nil)))))) (by kernel_rfl) (by simp only [go_sem, qa, qb, qc, qd, qe, qf, qg, qh, qi, qj, qk, ↓reduceIte, resQ_tmp, resQ_cell, resQ_nil, retD_one, retD_two, retD_three, retD_none]; try simp [R.val, retD_one, retD_two, retD_three, retD_none])
                · have hh := bnd'_some h721; clear h721; obtain ⟨⟨p709, c711⟩, h710, h721⟩ := hh
                  (try dsimp only at h721)
                  refine W_sound tab_ok mixed 7 _ _ _ ?_
                  simp -implicitDefEqProofs only [go_sem, qa, qb, qc, qd, qe, qf, qg, qh, qi, qj, qk, ↓reduceIte, h635, g641, h642, h644, g651, g652, g653, g654, g655, h656, h658, h667, h693, h696, h701, h706, h708]
                  repeat with_reducible refine ⟨by first | kernel_rfl | decide, ?_⟩
                  refine Wp_callD [4] (c90 N _ _ _ _ _ h710) rfl rfl rfl (by first | rfl | (simp only [go_sem, qa, qb, qc, qd, qe, qf, qg, qh, qi, qj, qk, ↓reduceIte, h635, g641, h642, h644, g651, g652, g653, g654, g655, h656, h658, h667, h693, h696, h701, h706, h708] <;> rfl)) rfl (by kernel_rfl) ?_
                  have hh := getT0_some h721; clear h721; obtain ⟨h712, h721⟩ := hh
                  refine W_sound tab_ok mixed 9 _ _ _ ?_
                  simp -implicitDefEqProofs only [go_sem, qa, qb, qc, qd, qe, qf, qg, qh, qi, qj, qk, ↓reduceIte, h635, g641, h642, h644, g651, g652, g653, g654, g655, h656, h658, h667, h693, h696, h701, h706, h708, h712]
                  repeat with_reducible refine ⟨by first | kernel_rfl | decide, ?_⟩
                  exact cutQ _ ((Wk_le (.r (.r (.r (.r (.r (.r (.r (.r (.r (.r (.r (.k (.k .nil))))))))))))) (OLe.refl _)).trans (cmpS_ok (st' := ⟨[], [(0, .v (.int .i64 x628)), (1, .v (.int .i64 x629)), (2, .dead), (3, .dead), (4, .ptr 3 0), (5, .ptr 5 0), (8, .dead), (9, .v (.int .u64 (bitsI .and .u64 x690 (IntKind.u64.wrap (x690 - 1))))), (10, .dead), (17, .dead), (28, .dead), (48, .dead), (63, .dead)], [(0, .p [(.int .i64 x630)]), (1, .r [.fn 1000070 [.ptr 2 0]]), (2, .p c704), (3, .r [.ptr 4 0]), (4, .p c711), (5, .r [.fn 88 [.ptr 0 0, .ptr 1 0, .ptr 3 0, .ptr 5 0]])], 6, []⟩) (by kernel_rfl))) ⟨n, Nat.lt_succ_self n, _, _, _, h721, rfl⟩
              · refine W_sound tab_ok mixed 8 _ _ _ ?_
                simp -implicitDefEqProofs only [go_sem, qa, qb, qc, qd, qe, qf, qg, qh, qi, qj, qk, ↓reduceIte, h635, g641, h642, h644, g651, g652, g653, g654, g655, h656, h658, h667, h693]
                repeat with_reducible refine ⟨by first | kernel_rfl | decide, ?_⟩
                obtain rfl := Option.some.inj h721
                exact cutQ _ ((Wk_le (.k (.k (.r (.r (.k (.k (.r (.k (.r (.r (.r (.k (.r .nil))))))))))))) (OLe.refl _)).trans (cmpS_ok (st' := ⟨[], [(0, .dead), (1, .dead), (2, .dead), (3, .dead), (4, .dead), (5, .dead), (8, .dead), (9, .dead), (10, .dead), (17, .dead), (28, .dead), (48, .dead), (63, .dead)], [(0, .p [(.int .i64 x630)]), (1, .r [.fn 1000070 [.ptr 2 0]]), (2, .p c691), (3, .r [.ptr 4 0]), (4, .p c692), (5, .r [.fn 88 [.ptr 0 0, .ptr 1 0, .ptr 3 0, .ptr 5 0]])], 6, []⟩) (by kernel_rfl))) ⟨_, _, rfl, rfl⟩
          · rintro _ ⟨c714, c715, rfl, rfl⟩
            (try dsimp only at h722)
            refine W_sound tab_ok mixed 6 _ _ _ ?_
            simp -implicitDefEqProofs only [go_sem, qa, qb, qc, qd, qe, qf, qg, qh, qi, qj, qk, ↓reduceIte, h635, g641, h642, h644, g651, g652, g653, g654, g655, h656, h658, h667]
            repeat with_reducible refine ⟨by first | kernel_rfl | decide, ?_⟩
            simp only [Option.some.injEq, Prod.mk.injEq] at h722; obtain ⟨rfl, rfl, rfl⟩ := h722
            exact finD (e2 := [(0, .dead), (1, .dead), (2, .dead), (3, .dead), (4, .dead), (5, .dead), (8, .v (.bool false)), (9, .dead), (10, .dead), (17, .dead), (28, .dead), (48, .dead), (63, .dead)]) (ob2 := [(0, .p [(.int .i64 x630)]), (1, .r [.fn 1000070 [.ptr 2 0]]), (2, .p c714), (3, .r [.ptr 4 0]), (4, .p c715), (5, .r [.fn 88 [.ptr 0 0, .ptr 1 0, .ptr 3 0, .ptr 5 0]])]) (st' := ⟨[], [(0, .dead), (1, .dead), (2, .dead), (3, .dead), (4, .dead), (5, .dead), (8, .v (.bool false)), (9, .dead), (10, .dead), (17, .dead), (28, .dead), (48, .dead), (63, .dead)], [(0, .p [(.int .i64 x630)]), (1, .r [.fn 1000070 [.ptr 2 0]]), (2, .p c714), (3, .r [.ptr 4 0]), (4, .p c715), (5, .r [.fn 88 [.ptr 0 0, .ptr 1 0, .ptr 3 0, .ptr 5 0]])], 6, []⟩) (.r (.r (.r (.r (.r (.r (.r (.r (.r (.r (.r (.r (.r .nil))))))))))))) (.cons _ _ _ _ _ (DLes.refl _) (.cons _ _ _ _ _ (DLes.refl _) (.cons _ _ _ _ _ (DLes.refl _) (.cons _ _ _ _ _ (DLes.refl _) (.cons _ _ _ _ _ (DLes.refl _) (.cons _ _ _ _ _ (DLes.refl _) .nil)))))) (by kernel_rfl) (by simp only [go_sem, qa, qb, qc, qd, qe, qf, qg, qh, qi, qj, qk, ↓reduceIte, resQ_tmp, resQ_cell, resQ_nil, retD_one, retD_two, retD_three, retD_none]; try simp [R.val, retD_one, retD_two, retD_three, retD_none])
def m64 (N : Nat) (c731 : List PV) (c732 : List PV) : Option ((PV × List PV × List PV)) :=
  bnd' (m112 N c732) fun p735 =>
  getT2 p735 fun p738 p739 =>
  getI .i64 p738 fun x741 =>
  getI .i64 p739 fun x743 =>
  bnd' (m88 N N x741 0 x743 c732 c731) fun (p744, c746, c747) =>
  getB p744 fun b749 =>
  some ((.tup []), c747, c746)
theorem c64 (N : Nat) (c731 : List PV) (c732 : List PV) (r : PV) (c752 : List PV) (c753 : List PV) (h : m64 N c731 c732 = some (r, c752, c753)) : V.Fn Tryd.prog 64 2 [.ptr 0 0, .fn 1000070 [.ptr 1 0]] [(0, .p c731), (1, .p c732)] (fun d ob' => d = .v r ∧ ob' = [(0, .p c752), (1, .p c753)]) := by
  unfold m64 at h
  refine Fn_of (sz := 16) tab_ok [0, 1, 2, 3, 4, 5, 6] [] Tryd.func64 rfl rfl rfl (by simp) ?_
  simp only [initSt, initEnv, List.map_cons, List.map_nil, List.getD_cons_zero, List.getD_cons_succ, List.getD_nil]
  have hh := bnd'_some h; clear h; obtain ⟨p735, h736, h⟩ := hh
  (try dsimp only at h)
  refine W_sound tab_ok mixed 8 _ _ _ ?_
  simp -implicitDefEqProofs only [go_sem, qa, qb, qc, qd, qe, qf, qg, qh, qi, qj, qk, ↓reduceIte]
  repeat with_reducible refine ⟨by first | kernel_rfl | decide, ?_⟩
  refine Wp_callDG (ds := [.ptr 1 0]) [1] (c112 N _ _ h736) (by kernel_rfl) rfl (by first | rfl | (simp only [go_sem, qa, qb, qc, qd, qe, qf, qg, qh, qi, qj, qk, ↓reduceIte] <;> rfl)) rfl (by kernel_rfl) ?_
  have hh := getT2_some h; clear h; obtain ⟨p738, p739, h737, h⟩ := hh
  have hh := getI_some h; clear h; obtain ⟨x741, h740, h⟩ := hh
  have hh := getI_some h; clear h; obtain ⟨x743, h742, h⟩ := hh
  have hh := bnd'_some h; clear h; obtain ⟨⟨p744, c746, c747⟩, h745, h⟩ := hh
  (try dsimp only at h)
  refine W_sound tab_ok mixed 19 _ _ _ ?_
  simp -implicitDefEqProofs only [go_sem, qa, qb, qc, qd, qe, qf, qg, qh, qi, qj, qk, ↓reduceIte, h737, h740, h742]
  repeat with_reducible refine ⟨by first | kernel_rfl | decide, ?_⟩
  refine Wp_callD [11, 5, 1, 4, 0, 18] (c88 N N _ _ _ _ _ _ _ _ h745) rfl rfl rfl (by first | rfl | (simp only [go_sem, qa, qb, qc, qd, qe, qf, qg, qh, qi, qj, qk, ↓reduceIte, h737, h740, h742] <;> rfl)) rfl (by kernel_rfl) ?_
  have hh := getB_some h; clear h; obtain ⟨b749, h748, h⟩ := hh
  refine W_sound tab_ok mixed 2 _ _ _ ?_
  simp -implicitDefEqProofs only [go_sem, qa, qb, qc, qd, qe, qf, qg, qh, qi, qj, qk, ↓reduceIte, h737, h740, h742, h748]
  repeat with_reducible refine ⟨by first | kernel_rfl | decide, ?_⟩
  simp only [Option.some.injEq, Prod.mk.injEq] at h; obtain ⟨rfl, rfl, rfl⟩ := h
  exact finD (e2 := [(0, .dead), (1, .dead), (2, .dead), (3, .dead), (4, .dead), (5, .dead), (6, .dead)]) (ob2 := [(18, .r [.fn 88 [.ptr 11 0, .ptr 5 0, .ptr 4 0, .ptr 18 0]]), (0, .p c747), (4, .r [.ptr 0 0]), (1, .p c746), (5, .r [.fn 1000070 [.ptr 1 0]]), (11, .p [(.int .i64 x743)])]) (st' := ⟨[], [(0, .dead), (1, .dead), (2, .dead), (3, .dead), (4, .dead), (5, .dead), (6, .dead)], [(0, .p c747), (1, .p c746)], 2, []⟩) (.k (.k (.k (.k (.k (.k (.k .nil))))))) (.cons _ _ _ _ _ (DLes.refl _) (.cons _ _ _ _ _ (DLes.refl _) (.cons _ _ _ _ _ (DLes.refl _) (.cons _ _ _ _ _ (DLes.refl _) (.cons _ _ _ _ _ (DLes.refl _) (.cons _ _ _ _ _ (DLes.refl _) .nil)))))) (by kernel_rfl) (by simp only [go_sem, qa, qb, qc, qd, qe, qf, qg, qh, qi, qj, qk, ↓reduceIte, resQ_tmp, resQ_cell, resQ_nil, retD_one, retD_two, retD_three, retD_none]; try simp [R.val, retD_one, retD_two, retD_three, retD_none])
def m56 (N : Nat) (p770 : PV) : Option (PV) :=
  getL p770 fun n772 c773 =>
  grd (0 < n772) <|
  grd (List.length c773 = n772) <|
  grd (n772 ≤ 1099511627776) <|
  some (.lst false n772 c773)
theorem c56 (N : Nat) (p770 : PV) (r : PV)  (h : m56 N p770 = some r) : FnP Tryd.prog 56 [p770] r := by
  unfold m56 at h
  refine Fn_of (sz := 8) tab_ok [0, 2, 4] [.tmp 2] Tryd.func56 rfl rfl rfl (by simp) ?_
  simp only [initSt, initEnv, List.map_cons, List.map_nil, List.getD_cons_zero, List.getD_cons_succ, List.getD_nil]
  have hh := getL_some h; clear h; obtain ⟨n772, c773, h771, h⟩ := hh
  have hh := grd_some h; clear h; obtain ⟨g774, h⟩ := hh
  have hh := grd_some h; clear h; obtain ⟨g775, h⟩ := hh
  have hh := grd_some h; clear h; obtain ⟨g776, h⟩ := hh
  refine W_sound tab_ok mixed 21 _ _ _ ?_
  simp -implicitDefEqProofs only [go_sem, qa, qb, qc, qd, qe, qf, qg, qh, qi, qj, qk, ↓reduceIte, h771, g774, g775, g776]
  repeat with_reducible refine ⟨by first | kernel_rfl | decide, ?_⟩
  refine FinQ_wk (Wk_freeze 7 c773 (by rfl) (by decide) (by decide)) ?_
  simp -implicitDefEqProofs only [go_sem, qa, qb, qc, qd, qe, qf, qg, qh, qi, qj, qk, ↓reduceIte, h771, g774, g775, g776]
  obtain rfl := Option.some.inj h
  exact finC [(2, .v (.lst false n772 c773))] [(2, .v (.lst false n772 c773))] (by simp [leE, lk_cons]) (.cons _ _ _ _ _ (.v _ _ (.refl _)) .nil) (by rfl) (by simp [leE, lk_cons]) (by decide) (by decide) rfl (by simp only [go_sem, qa, qb, qc, qd, qe, qf, qg, qh, qi, qj, qk, ↓reduceIte, resQ_tmp, resQ_cell, resQ_nil, retD_one, retD_two, retD_three, retD_none]; try simp [R.val, retD_one, retD_two, retD_three, retD_none])
def m65_L0 (N : Nat) (x761 : Int) (c763 : List PV) : Nat → Nat → Int → List PV → Option ((Nat × List PV))
  | 0, _, _, _ => none
  | n + 1, n815, x816, c817 =>
    brn (decide (x816 < x761)) (
      grd (0 ≤ x816 ∧ x816 < 5) <|
      grd (0 ≤ x761 ∧ x761 ≤ 5) <|
      bnd' (m56 N (.lst false (Int.toNat x761) (List.take (Int.toNat x761) (List.drop ((Int.toNat x816) * 5) c763)))) fun p823 =>
      getL p823 fun n826 c827 =>
      grd ((n815 + 1) ≤ 1099511627776) <|
      grd (List.length c817 = n815) <|
      m65_L0 N x761 c763 n (n815 + 1) (IntKind.i64.wrap (x816 + 1)) (c817 ++ [(.lst false n826 c827)])) (
      some (n815, c817))
def m65 (N : Nat) (p760 : PV) (x761 : Int) : Option (PV) :=
  getA p760 fun c763 =>
  bnd' (m65_L0 N x761 c763 N 0 0 []) fun o =>
  match o with
  | (n830, c831) =>
    grd (List.length c831 = n830) <|
    some (.lst false n830 c831)
theorem c65 (N : Nat) (p760 : PV) (x761 : Int) (r : PV)  (h : m65 N p760 x761 = some r) : FnP Tryd.prog 65 [p760, (.int .i64 x761)] r := by
  unfold m65 at h
  refine Fn_of (sz := 21) tab_ok [0, 1, 2, 4, 5, 6, 7, 8, 9] [.tmp 4] Tryd.func65 rfl rfl rfl (by simp) ?_
  simp only [initSt, initEnv, List.map_cons, List.map_nil, List.getD_cons_zero, List.getD_cons_succ, List.getD_nil]
  have hh := getA_some h; clear h; obtain ⟨c763, h762, h⟩ := hh
  refine W_sound tab_ok mixed 15 _ _ _ ?_
  simp -implicitDefEqProofs only [go_sem, qa, qb, qc, qd, qe, qf, qg, qh, qi, qj, qk, ↓reduceIte, h762]
  repeat with_reducible refine ⟨by first | kernel_rfl | decide, ?_⟩
  refine Wp_wkK (Wk_freeze 2 c763 (by rfl) (by decide) (by decide)) rfl ?_
  simp -implicitDefEqProofs only [go_sem, qa, qb, qc, qd, qe, qf, qg, qh, qi, qj, qk, ↓reduceIte, h762]
  (try simp -implicitDefEqProofs only [go_sem, qa, qb, qc, qd, qe, qf, qg, qh, qi, qj, qk, ↓reduceIte, h762])
  refine Wp_weaken (Wk_ownS 5 1 rfl (by decide) (by decide)) ?_
  simp -implicitDefEqProofs only [go_sem, qa, qb, qc, qd, qe, qf, qg, qh, qi, qj, qk, ↓reduceIte, h762]
  have hh := bnd'_some h; clear h; obtain ⟨o833, h834, h835⟩ := hh
  refine Wp_cut (fun s => ∃ n830, ∃ c831, (n830, c831) = o833 ∧ s = ⟨[], [(0, .dead), (1, .dead), (2, .dead), (4, .dead), (5, .sl false 0 0 n830 1), (6, .dead), (7, .dead), (8, .dead), (9, .dead)], [(0, .p c831)], 1, []⟩) ?_ ?_
  · refine Wp_block ?_
    refine Wp_loopG (fun n s => ∃ n815, ∃ x816, ∃ c817, m65_L0 N x761 c763 n n815 x816 c817 = some o833 ∧ s = ⟨[], [(0, .dead), (1, .v (.int .i64 x761)), (2, .v (.ipt c763)), (4, .dead), (5, .sl false 0 0 n815 1), (6, .dead), (7, .v (.int .i64 x761)), (8, .v (.int .i64 x816)), (9, .dead)], [(0, .p c817)], 1, []⟩) N _ ((Wk_le (.k (.r (.r (.k (.r (.r (.r (.r (.r .nil))))))))) (OLe.refl _)).trans (cmpS_ok (st' := ⟨[], [(0, .dead), (1, .v (.int .i64 x761)), (2, .v (.ipt c763)), (4, .dead), (5, .sl false 0 0 0 1), (6, .dead), (7, .v (.int .i64 x761)), (8, .v (.int .i64 0)), (9, .dead)], [(0, .p [])], 1, []⟩) (by kernel_rfl))) ⟨_, _, _, h834, rfl⟩ ?_
    clear h834
    rintro n _ ⟨n815, x816, c817, h834, rfl⟩
    cases n with
    | zero => cases h834
    | succ n =>
      rw [m65_L0] at h834
      have hh := brn_some h834; clear h834; rcases hh with ⟨h818, h834⟩ | ⟨h818, h834⟩
      · have hh := grd_some h834; clear h834; obtain ⟨⟨g819, g820⟩, h834⟩ := hh
        have hh := grd_some h834; clear h834; obtain ⟨⟨g821, g822⟩, h834⟩ := hh
        have hh := bnd'_some h834; clear h834; obtain ⟨p823, h824, h834⟩ := hh
        refine W_sound tab_ok mixed 20 _ _ _ ?_
        simp -implicitDefEqProofs only [go_sem, qa, qb, qc, qd, qe, qf, qg, qh, qi, qj, qk, ↓reduceIte, h762, h818, g819, g820, g821, g822]
        repeat with_reducible refine ⟨by first | kernel_rfl | decide, ?_⟩
        refine Wp_callP (c56 N _ _ h824) (by kernel_rfl) rfl rfl rfl rfl (by decide) ?_
        have hh := getL_some h834; clear h834; obtain ⟨n826, c827, h825, h834⟩ := hh
        have hh := grd_some h834; clear h834; obtain ⟨g828, h834⟩ := hh
        have hh := grd_some h834; clear h834; obtain ⟨g829, h834⟩ := hh
        refine W_sound tab_ok mixed 9 _ _ _ ?_
        simp -implicitDefEqProofs only [go_sem, qa, qb, qc, qd, qe, qf, qg, qh, qi, qj, qk, ↓reduceIte, h762, h818, g819, g820, g821, g822, h825, g828, g829]
        repeat with_reducible refine ⟨by first | kernel_rfl | decide, ?_⟩
        exact cutQ _ ((Wk_le (.r (.r (.r (.r (.r (.k (.r (.r (.k .nil))))))))) (OLe.refl _)).trans (cmpS_ok (st' := ⟨[], [(0, .dead), (1, .v (.int .i64 x761)), (2, .v (.ipt c763)), (4, .dead), (5, .sl false 0 0 (n815 + 1) 1), (6, .dead), (7, .v (.int .i64 x761)), (8, .v (.int .i64 (IntKind.i64.wrap (x816 + 1)))), (9, .dead)], [(0, .p (c817 ++ [(.lst false n826 c827)]))], 1, []⟩) (by kernel_rfl))) ⟨n, Nat.lt_succ_self n, _, _, _, h834, rfl⟩
      · refine W_sound tab_ok mixed 7 _ _ _ ?_
        simp -implicitDefEqProofs only [go_sem, qa, qb, qc, qd, qe, qf, qg, qh, qi, qj, qk, ↓reduceIte, h762, h818]
        repeat with_reducible refine ⟨by first | kernel_rfl | decide, ?_⟩
        obtain rfl := Option.some.inj h834
        exact cutQ _ ((Wk_le (.r (.k (.k (.r (.r (.r (.k (.k (.k .nil))))))))) (OLe.refl _)).trans (cmpS_ok (st' := ⟨[], [(0, .dead), (1, .dead), (2, .dead), (4, .dead), (5, .sl false 0 0 n815 1), (6, .dead), (7, .dead), (8, .dead), (9, .dead)], [(0, .p c817)], 1, []⟩) (by kernel_rfl))) ⟨_, _, rfl, rfl⟩
  · rintro _ ⟨n830, c831, rfl, rfl⟩
    (try dsimp only at h835)
    refine W_sound tab_ok mixed 7 _ _ _ ?_
    simp -implicitDefEqProofs only [go_sem, qa, qb, qc, qd, qe, qf, qg, qh, qi, qj, qk, ↓reduceIte, h762]
    repeat with_reducible refine ⟨by first | kernel_rfl | decide, ?_⟩
    have hh := grd_some h835; clear h835; obtain ⟨g832, h835⟩ := hh
    refine FinQ_wk (Wk_freeze 0 c831 (by rfl) (by decide) (by decide)) ?_
    simp -implicitDefEqProofs only [go_sem, qa, qb, qc, qd, qe, qf, qg, qh, qi, qj, qk, ↓reduceIte, h762, g832]
    obtain rfl := Option.some.inj h835
    exact finC [(4, .v (.lst false n830 c831))] [(4, .v (.lst false n830 c831))] (by simp [leE, lk_cons]) (.cons _ _ _ _ _ (.v _ _ (.refl _)) .nil) (by rfl) (by simp [leE, lk_cons]) (by decide) (by decide) rfl (by simp only [go_sem, qa, qb, qc, qd, qe, qf, qg, qh, qi, qj, qk, ↓reduceIte, resQ_tmp, resQ_cell, resQ_nil, retD_one, retD_two, retD_three, retD_none]; try simp [R.val, retD_one, retD_two, retD_three, retD_none])
def m114 (N : Nat) (x863 : Int) (x864 : Int) : Option (PV) :=
  some (.tup [(.int .i64 x863), (.int .i64 (IntKind.i64.wrap (x863 + 1)))])
theorem c114 (N : Nat) (x863 : Int) (x864 : Int) (r : PV)  (h : m114 N x863 x864 = some r) : V.Fn Tryd.prog 114 1 [.ptr 0 0] [(0, .p [(.int .i64 x863), (.int .i64 x864)])] (fun d ob' => d = .v r ∧ ob' = [(0, .p [(.int .i64 x863), (.int .i64 x864)])]) := by
  unfold m114 at h
  refine Fn_of (sz := 13) tab_ok [0, 2, 3] [.tmp 2, .tmp 3] Tryd.func114 rfl rfl rfl (by simp) ?_
  simp only [initSt, initEnv, List.map_cons, List.map_nil, List.getD_cons_zero, List.getD_cons_succ, List.getD_nil]
  refine W_sound tab_ok mixed 21 _ _ _ ?_
  simp -implicitDefEqProofs only [go_sem, qa, qb, qc, qd, qe, qf, qg, qh, qi, qj, qk, ↓reduceIte]
  repeat with_reducible refine ⟨by first | kernel_rfl | decide, ?_⟩
  obtain rfl := Option.some.inj h
  exact finD (e2 := [(0, .dead), (2, .v (.int .i64 x863)), (3, .v (.int .i64 (IntKind.i64.wrap (x863 + 1))))]) (ob2 := [(0, .p [(.int .i64 x863), (.int .i64 x864)])]) (st' := ⟨[], [(0, .dead), (2, .v (.int .i64 x863)), (3, .v (.int .i64 (IntKind.i64.wrap (x863 + 1))))], [(0, .p [(.int .i64 x863), (.int .i64 x864)])], 1, []⟩) (.k (.r (.r .nil))) (.cons _ _ _ _ _ (DLes.refl _) .nil) (by kernel_rfl) (by simp only [go_sem, qa, qb, qc, qd, qe, qf, qg, qh, qi, qj, qk, ↓reduceIte, resQ_tmp, resQ_cell, resQ_nil, retD_one, retD_two, retD_three, retD_none]; try simp [R.val, retD_one, retD_two, retD_three, retD_none])
def m115 (N : Nat) (x884 : Int) (x885 : Int) (c886 : List PV) : Option ((PV × Int)) :=
  some ((.bool false), (IntKind.i64.wrap (x885 + 1)))
theorem c115 (N : Nat) (x884 : Int) (x885 : Int) (c886 : List PV) (r : PV) (x888 : Int) (h : m115 N x884 x885 c886 = some (r, x888)) : V.Fn Tryd.prog 115 2 [.ptr 0 0, .ptr 1 0] [(0, .p [(.int .i64 x884), (.int .i64 x885)]), (1, .p c886)] (fun d ob' => d = .v r ∧ ob' = [(0, .p [(.int .i64 x884), (.int .i64 x888)]), (1, .p c886)]) := by
  unfold m115 at h
  refine Fn_of (sz := 12) tab_ok [0, 1, 4] [.tmp 4] Tryd.func115 rfl rfl rfl (by simp) ?_
  simp only [initSt, initEnv, List.map_cons, List.map_nil, List.getD_cons_zero, List.getD_cons_succ, List.getD_nil]
  refine W_sound tab_ok mixed 21 _ _ _ ?_
  simp -implicitDefEqProofs only [go_sem, qa, qb, qc, qd, qe, qf, qg, qh, qi, qj, qk, ↓reduceIte]
  repeat with_reducible refine ⟨by first | kernel_rfl | decide, ?_⟩
  simp only [Option.some.injEq, Prod.mk.injEq] at h; obtain ⟨rfl, rfl⟩ := h
  exact finD (e2 := [(0, .dead), (1, .dead), (4, .v (.bool false))]) (ob2 := [(0, .p [(.int .i64 x884), (.int .i64 (IntKind.i64.wrap (x885 + 1)))]), (1, .p c886)]) (st' := ⟨[], [(0, .dead), (1, .dead), (4, .v (.bool false))], [(0, .p [(.int .i64 x884), (.int .i64 (IntKind.i64.wrap (x885 + 1)))]), (1, .p c886)], 2, []⟩) (.k (.k (.r .nil))) (.cons _ _ _ _ _ (DLes.refl _) (.cons _ _ _ _ _ (DLes.refl _) .nil)) (by kernel_rfl) (by simp only [go_sem, qa, qb, qc, qd, qe, qf, qg, qh, qi, qj, qk, ↓reduceIte, resQ_tmp, resQ_cell, resQ_nil, retD_one, retD_two, retD_three, retD_none]; try simp [R.val, retD_one, retD_two, retD_three, retD_none])
def m88_2_L0 (N : Nat) (rec : Int → Int → Int → Int → Int → List PV → Option ((PV × Int × List PV))) (x961 : Int) (x962 : Int) (x963 : Int) (x964 : Int) : Nat → Int → Int → List PV → Option (((PV × Int × List PV) ⊕ (Int × List PV)))
  | 0, _, _, _ => none
  | n + 1, x1024, x1025, c1026 =>
    brn (x1024 != 0) (
      bnd' (m87 N x1024) fun p1028 =>
      getI .i64 p1028 fun x1031 =>
      bnd' (m72 N x961 x962 x1031 c1026) fun (p1032, c1034) =>
      getT0 p1032 <|
      bnd' (rec x961 (IntKind.i64.wrap (x962 + 1)) x963 x964 x1025 c1034) fun (p1036, x1038, c1039) =>
      getB p1036 fun b1041 =>
      brn b1041 (
        some (.inl ((.bool true), x1038, c1039))) (
        bnd' (m90 N x961 x962 c1039) fun (p1043, c1045) =>
        getT0 p1043 <|
        m88_2_L0 N rec x961 x962 x963 x964 n (bitsI .and .u64 x1024 (IntKind.u64.wrap (x1024 - 1))) x1038 c1045)) (
      some (.inr (x1025, c1026)))
def m88_2 (N : Nat) : Nat → Int → Int → Int → Int → Int → List PV → Option ((PV × Int × List PV))
  | 0, _, _, _, _, _, _ => none
  | fu + 1, x961, x962, x963, x964, x965, c966 =>
    brn (x961 == x963) (
      bnd' (m115 N x964 x965 c966) fun (p970, x972) =>
      getB p970 fun b974 =>
      some ((.bool b974), x972, c966)) (
      grd (0 < List.length c966) <|
      getI .i64 (gp c966 0) fun x977 =>
      brn (x962 == x977) (
        bnd' ((m88_2 N fu) (IntKind.i64.wrap (x961 + 1)) 0 x963 x964 x965 c966) fun (p979, x981, c982) =>
        getB p979 fun b984 =>
        some ((.bool b984), x981, c982)) (
        grd (0 ≤ x961 ∧ x961 < 5) <|
        grd (0 ≤ x962 ∧ x962 < 5) <|
        grd (((1 + ((Int.toNat x961) * 5)) + (Int.toNat x962)) < List.length c966) <|
        getI .i64 (gp c966 ((1 + ((Int.toNat x961) * 5)) + (Int.toNat x962))) fun x991 =>
        brn (decide (x991 ≥ 0)) (
          bnd' ((m88_2 N fu) x961 (IntKind.i64.wrap (x962 + 1)) x963 x964 x965 c966) fun (p993, x995, c996) =>
          getB p993 fun b998 =>
          some ((.bool b998), x995, c996)) (
          bnd' (m89 N x961 x962 c966) fun p999 =>
          getI .u64 p999 fun x1002 =>
          bnd' (m88_2_L0 N (m88_2 N fu) x961 x962 x963 x964 N x1002 x965 c966) fun o =>
          match o with
          | .inl p1047 =>
            some p1047
          | .inr (x1048, c1049) =>
            some ((.bool false), x1048, c1049))))
theorem c88_2 (N : Nat) : ∀ (fu : Nat) (x961 : Int) (x962 : Int) (x963 : Int) (x964 : Int) (x965 : Int) (c966 : List PV) (r : PV) (x1052 : Int) (c1053 : List PV) (h : m88_2 N fu x961 x962 x963 x964 x965 c966 = some (r, x1052, c1053)), V.Fn Tryd.prog 88 6 [.v (.int .i64 x961), .v (.int .i64 x962), .ptr 0 0, .ptr 1 0, .ptr 3 0, .ptr 5 0] [(0, .p [(.int .i64 x963)]), (1, .r [.fn 1000075 [.ptr 2 0]]), (2, .p [(.int .i64 x964), (.int .i64 x965)]), (3, .r [.ptr 4 0]), (4, .p c966), (5, .r [.fn 88 [.ptr 0 0, .ptr 1 0, .ptr 3 0, .ptr 5 0]])] (fun d ob' => d = .v r ∧ ob' = [(0, .p [(.int .i64 x963)]), (1, .r [.fn 1000075 [.ptr 2 0]]), (2, .p [(.int .i64 x964), (.int .i64 x1052)]), (3, .r [.ptr 4 0]), (4, .p c1053), (5, .r [.fn 88 [.ptr 0 0, .ptr 1 0, .ptr 3 0, .ptr 5 0]])]) := by
  intro fu
  induction fu with
  | zero => intro x961 x962 x963 x964 x965 c966 r x1052 c1053 h; cases h
  | succ fu ih =>
    intro x961 x962 x963 x964 x965 c966 r x1052 c1053 h
    rw [m88_2] at h
    refine Fn_of (sz := 68) tab_ok [0, 1, 2, 3, 4, 5, 8, 9, 10, 17, 28, 48, 63] [.tmp 8] Tryd.func88 rfl rfl rfl (by simp) ?_
    simp only [initSt, initEnv, List.map_cons, List.map_nil, List.getD_cons_zero, List.getD_cons_succ, List.getD_nil]
    have hh := brn_some h; clear h; rcases hh with ⟨h969, h⟩ | ⟨h969, h⟩
    · have hh := bnd'_some h; clear h; obtain ⟨⟨p970, x972⟩, h971, h⟩ := hh
      (try dsimp only at h)
      refine W_sound tab_ok mixed 18 _ _ _ ?_
      simp -implicitDefEqProofs only [go_sem, qa, qb, qc, qd, qe, qf, qg, qh, qi, qj, qk, ↓reduceIte, h969]
      repeat with_reducible refine ⟨by first | kernel_rfl | decide, ?_⟩
      refine Wp_callDG (ds := [.ptr 2 0, .ptr 4 0]) [2, 4] (c115 N _ _ _ _ _ h971) (by kernel_rfl) rfl (by first | rfl | (simp only [go_sem, qa, qb, qc, qd, qe, qf, qg, qh, qi, qj, qk, ↓reduceIte, h969] <;> rfl)) rfl (by kernel_rfl) ?_
      have hh := getB_some h; clear h; obtain ⟨b974, h973, h⟩ := hh
      refine W_sound tab_ok mixed 4 _ _ _ ?_
      simp -implicitDefEqProofs only [go_sem, qa, qb, qc, qd, qe, qf, qg, qh, qi, qj, qk, ↓reduceIte, h969, h973]
      repeat with_reducible refine ⟨by first | kernel_rfl | decide, ?_⟩
      simp only [Option.some.injEq, Prod.mk.injEq] at h; obtain ⟨rfl, rfl, rfl⟩ := h
      exact finD (e2 := [(0, .dead), (1, .dead), (2, .dead), (3, .dead), (4, .dead), (5, .dead), (8, .v (.bool b974)), (9, .dead), (10, .dead), (17, .dead), (28, .dead), (48, .dead), (63, .dead)]) (ob2 := [(0, .p [(.int .i64 x963)]), (1, .r [.fn 1000075 [.ptr 2 0]]), (3, .r [.ptr 4 0]), (5, .r [.fn 88 [.ptr 0 0, .ptr 1 0, .ptr 3 0, .ptr 5 0]]), (4, .p c966), (2, .p [(.int .i64 x964), (.int .i64 x972)])]) (st' := ⟨[], [(0, .dead), (1, .dead), (2, .dead), (3, .dead), (4, .dead), (5, .dead), (8, .v (.bool b974)), (9, .dead), (10, .dead), (17, .dead), (28, .dead), (48, .dead), (63, .dead)], [(0, .p [(.int .i64 x963)]), (1, .r [.fn 1000075 [.ptr 2 0]]), (2, .p [(.int .i64 x964), (.int .i64 x972)]), (3, .r [.ptr 4 0]), (4, .p c966), (5, .r [.fn 88 [.ptr 0 0, .ptr 1 0, .ptr 3 0, .ptr 5 0]])], 6, []⟩) (.k (.k (.k (.k (.k (.k (.r (.r (.k (.r (.r (.r (.r .nil))))))))))))) (.cons _ _ _ _ _ (DLes.refl _) (.cons _ _ _ _ _ (DLes.refl _) (.cons _ _ _ _ _ (DLes.refl _) (.cons _ _ _ _ _ (DLes.refl _) (.cons _ _ _ _ _ (DLes.refl _) (.cons _ _ _ _ _ (DLes.refl _) .nil)))))) (by kernel_rfl) (by simp only [go_sem, qa, qb, qc, qd, qe, qf, qg, qh, qi, qj, qk, ↓reduceIte, resQ_tmp, resQ_cell, resQ_nil, retD_one, retD_two, retD_three, retD_none]; try simp [R.val, retD_one, retD_two, retD_three, retD_none])
    · have hh := grd_some h; clear h; obtain ⟨g975, h⟩ := hh
      have hh := getI_some h; clear h; obtain ⟨x977, h976, h⟩ := hh
      have hh := brn_some h; clear h; rcases hh with ⟨h978, h⟩ | ⟨h978, h⟩
      · have hh := bnd'_some h; clear h; obtain ⟨⟨p979, x981, c982⟩, h980, h⟩ := hh
        (try dsimp only at h)
        refine W_sound tab_ok mixed 30 _ _ _ ?_
        simp -implicitDefEqProofs only [go_sem, qa, qb, qc, qd, qe, qf, qg, qh, qi, qj, qk, ↓reduceIte, h969, g975, h976, h978]
        repeat with_reducible refine ⟨by first | kernel_rfl | decide, ?_⟩
        refine Wp_callD [0, 1, 2, 3, 4, 5] (ih _ _ _ _ _ _ _ _ _ h980) rfl rfl rfl (by first | rfl | (simp only [go_sem, qa, qb, qc, qd, qe, qf, qg, qh, qi, qj, qk, ↓reduceIte, h969, g975, h976, h978] <;> rfl)) rfl (by kernel_rfl) ?_
        have hh := getB_some h; clear h; obtain ⟨b984, h983, h⟩ := hh
        refine W_sound tab_ok mixed 4 _ _ _ ?_
        simp -implicitDefEqProofs only [go_sem, qa, qb, qc, qd, qe, qf, qg, qh, qi, qj, qk, ↓reduceIte, h969, g975, h976, h978, h983]
        repeat with_reducible refine ⟨by first | kernel_rfl | decide, ?_⟩
        simp only [Option.some.injEq, Prod.mk.injEq] at h; obtain ⟨rfl, rfl, rfl⟩ := h
        exact finD (e2 := [(0, .dead), (1, .dead), (2, .dead), (3, .dead), (4, .dead), (5, .dead), (8, .v (.bool b984)), (9, .dead), (10, .dead), (17, .dead), (28, .dead), (48, .dead), (63, .dead)]) (ob2 := [(5, .r [.fn 88 [.ptr 0 0, .ptr 1 0, .ptr 3 0, .ptr 5 0]]), (4, .p c982), (3, .r [.ptr 4 0]), (2, .p [(.int .i64 x964), (.int .i64 x981)]), (1, .r [.fn 1000075 [.ptr 2 0]]), (0, .p [(.int .i64 x963)])]) (st' := ⟨[], [(0, .dead), (1, .dead), (2, .dead), (3, .dead), (4, .dead), (5, .dead), (8, .v (.bool b984)), (9, .dead), (10, .dead), (17, .dead), (28, .dead), (48, .dead), (63, .dead)], [(0, .p [(.int .i64 x963)]), (1, .r [.fn 1000075 [.ptr 2 0]]), (2, .p [(.int .i64 x964), (.int .i64 x981)]), (3, .r [.ptr 4 0]), (4, .p c982), (5, .r [.fn 88 [.ptr 0 0, .ptr 1 0, .ptr 3 0, .ptr 5 0]])], 6, []⟩) (.k (.k (.k (.k (.k (.k (.r (.r (.k (.k (.r (.r (.r .nil))))))))))))) (.cons _ _ _ _ _ (DLes.refl _) (.cons _ _ _ _ _ (DLes.refl _) (.cons _ _ _ _ _ (DLes.refl _) (.cons _ _ _ _ _ (DLes.refl _) (.cons _ _ _ _ _ (DLes.refl _) (.cons _ _ _ _ _ (DLes.refl _) .nil)))))) (by kernel_rfl) (by simp only [go_sem, qa, qb, qc, qd, qe, qf, qg, qh, qi, qj, qk, ↓reduceIte, resQ_tmp, resQ_cell, resQ_nil, retD_one, retD_two, retD_three, retD_none]; try simp [R.val, retD_one, retD_two, retD_three, retD_none])
      · have hh := grd_some h; clear h; obtain ⟨⟨g985, g986⟩, h⟩ := hh
        have hh := grd_some h; clear h; obtain ⟨⟨g987, g988⟩, h⟩ := hh
        have hh := grd_some h; clear h; obtain ⟨g989, h⟩ := hh
        have hh := getI_some h; clear h; obtain ⟨x991, h990, h⟩ := hh
        have hh := brn_some h; clear h; rcases hh with ⟨h992, h⟩ | ⟨h992, h⟩
        · have hh := bnd'_some h; clear h; obtain ⟨⟨p993, x995, c996⟩, h994, h⟩ := hh
          (try dsimp only at h)
          refine W_sound tab_ok mixed 45 _ _ _ ?_
          simp -implicitDefEqProofs only [go_sem, qa, qb, qc, qd, qe, qf, qg, qh, qi, qj, qk, ↓reduceIte, h969, g975, h976, h978, g985, g986, g987, g988, g989, h990, h992]
          repeat with_reducible refine ⟨by first | kernel_rfl | decide, ?_⟩
          refine Wp_callD [0, 1, 2, 3, 4, 5] (ih _ _ _ _ _ _ _ _ _ h994) rfl rfl rfl (by first | rfl | (simp only [go_sem, qa, qb, qc, qd, qe, qf, qg, qh, qi, qj, qk, ↓reduceIte, h969, g975, h976, h978, g985, g986, g987, g988, g989, h990, h992] <;> rfl)) rfl (by kernel_rfl) ?_
          have hh := getB_some h; clear h; obtain ⟨b998, h997, h⟩ := hh
          refine W_sound tab_ok mixed 4 _ _ _ ?_
          simp -implicitDefEqProofs only [go_sem, qa, qb, qc, qd, qe, qf, qg, qh, qi, qj, qk, ↓reduceIte, h969, g975, h976, h978, g985, g986, g987, g988, g989, h990, h992, h997]
          repeat with_reducible refine ⟨by first | kernel_rfl | decide, ?_⟩
          simp only [Option.some.injEq, Prod.mk.injEq] at h; obtain ⟨rfl, rfl, rfl⟩ := h
          exact finD (e2 := [(0, .dead), (1, .dead), (2, .dead), (3, .dead), (4, .dead), (5, .dead), (8, .v (.bool b998)), (9, .dead), (10, .dead), (17, .dead), (28, .dead), (48, .dead), (63, .dead)]) (ob2 := [(5, .r [.fn 88 [.ptr 0 0, .ptr 1 0, .ptr 3 0, .ptr 5 0]]), (4, .p c996), (3, .r [.ptr 4 0]), (2, .p [(.int .i64 x964), (.int .i64 x995)]), (1, .r [.fn 1000075 [.ptr 2 0]]), (0, .p [(.int .i64 x963)])]) (st' := ⟨[], [(0, .dead), (1, .dead), (2, .dead), (3, .dead), (4, .dead), (5, .dead), (8, .v (.bool b998)), (9, .dead), (10, .dead), (17, .dead), (28, .dead), (48, .dead), (63, .dead)], [(0, .p [(.int .i64 x963)]), (1, .r [.fn 1000075 [.ptr 2 0]]), (2, .p [(.int .i64 x964), (.int .i64 x995)]), (3, .r [.ptr 4 0]), (4, .p c996), (5, .r [.fn 88 [.ptr 0 0, .ptr 1 0, .ptr 3 0, .ptr 5 0]])], 6, []⟩) (.k (.k (.k (.k (.k (.k (.r (.r (.k (.k (.k (.r (.r .nil))))))))))))) (.cons _ _ _ _ _ (DLes.refl _) (.cons _ _ _ _ _ (DLes.refl _) (.cons _ _ _ _ _ (DLes.refl _) (.cons _ _ _ _ _ (DLes.refl _) (.cons _ _ _ _ _ (DLes.refl _) (.cons _ _ _ _ _ (DLes.refl _) .nil)))))) (by kernel_rfl) (by simp only [go_sem, qa, qb, qc, qd, qe, qf, qg, qh, qi, qj, qk, ↓reduceIte, resQ_tmp, resQ_cell, resQ_nil, retD_one, retD_two, retD_three, retD_none]; try simp [R.val, retD_one, retD_two, retD_three, retD_none])
        · have hh := bnd'_some h; clear h; obtain ⟨p999, h1000, h⟩ := hh
          (try dsimp only at h)
          refine W_sound tab_ok mixed 47 _ _ _ ?_
          simp -implicitDefEqProofs only [go_sem, qa, qb, qc, qd, qe, qf, qg, qh, qi, qj, qk, ↓reduceIte, h969, g975, h976, h978, g985, g986, g987, g988, g989, h990, h992]
          repeat with_reducible refine ⟨by first | kernel_rfl | decide, ?_⟩
          refine Wp_callD [4] (c89 N _ _ _ _ h1000) rfl rfl rfl (by first | rfl | (simp only [go_sem, qa, qb, qc, qd, qe, qf, qg, qh, qi, qj, qk, ↓reduceIte, h969, g975, h976, h978, g985, g986, g987, g988, g989, h990, h992] <;> rfl)) rfl (by kernel_rfl) ?_
          have hh := getI_some h; clear h; obtain ⟨x1002, h1001, h⟩ := hh
          refine W_sound tab_ok mixed 2 _ _ _ ?_
          simp -implicitDefEqProofs only [go_sem, qa, qb, qc, qd, qe, qf, qg, qh, qi, qj, qk, ↓reduceIte, h969, g975, h976, h978, g985, g986, g987, g988, g989, h990, h992, h1001]
          repeat with_reducible refine ⟨by first | kernel_rfl | decide, ?_⟩
          have hh := bnd'_some h; clear h; obtain ⟨o1054, h1055, h1056⟩ := hh
          refine Wp_cut (fun s => ∃ x1048, ∃ c1049, (.inr (x1048, c1049)) = o1054 ∧ s = ⟨[], [(0, .dead), (1, .dead), (2, .dead), (3, .dead), (4, .dead), (5, .dead), (8, .dead), (9, .dead), (10, .dead), (17, .dead), (28, .dead), (48, .dead), (63, .dead)], [(0, .p [(.int .i64 x963)]), (1, .r [.fn 1000075 [.ptr 2 0]]), (2, .p [(.int .i64 x964), (.int .i64 x1048)]), (3, .r [.ptr 4 0]), (4, .p c1049), (5, .r [.fn 88 [.ptr 0 0, .ptr 1 0, .ptr 3 0, .ptr 5 0]])], 6, []⟩) ?_ ?_
          · refine Wp_block ?_
            refine Wp_loopG (fun n s => ∃ x1024, ∃ x1025, ∃ c1026, m88_2_L0 N (m88_2 N fu) x961 x962 x963 x964 n x1024 x1025 c1026 = some o1054 ∧ s = ⟨[], [(0, .v (.int .i64 x961)), (1, .v (.int .i64 x962)), (2, .dead), (3, .dead), (4, .ptr 3 0), (5, .ptr 5 0), (8, .dead), (9, .v (.int .u64 x1024)), (10, .dead), (17, .dead), (28, .dead), (48, .dead), (63, .dead)], [(0, .p [(.int .i64 x963)]), (1, .r [.fn 1000075 [.ptr 2 0]]), (2, .p [(.int .i64 x964), (.int .i64 x1025)]), (3, .r [.ptr 4 0]), (4, .p c1026), (5, .r [.fn 88 [.ptr 0 0, .ptr 1 0, .ptr 3 0, .ptr 5 0]])], 6, []⟩) N _ ((Wk_le (.r (.r (.k (.k (.r (.r (.k (.r (.k (.k (.k (.r (.r .nil))))))))))))) (OLe.refl _)).trans (cmpS_ok (st' := ⟨[], [(0, .v (.int .i64 x961)), (1, .v (.int .i64 x962)), (2, .dead), (3, .dead), (4, .ptr 3 0), (5, .ptr 5 0), (8, .dead), (9, .v (.int .u64 x1002)), (10, .dead), (17, .dead), (28, .dead), (48, .dead), (63, .dead)], [(0, .p [(.int .i64 x963)]), (1, .r [.fn 1000075 [.ptr 2 0]]), (2, .p [(.int .i64 x964), (.int .i64 x965)]), (3, .r [.ptr 4 0]), (4, .p c966), (5, .r [.fn 88 [.ptr 0 0, .ptr 1 0, .ptr 3 0, .ptr 5 0]])], 6, []⟩) (by kernel_rfl))) ⟨_, _, _, h1055, rfl⟩ ?_
            clear h1055
            rintro n _ ⟨x1024, x1025, c1026, h1055, rfl⟩
            cases n with
            | zero => cases h1055
            | succ n =>
              rw [m88_2_L0] at h1055
              have hh := brn_some h1055; clear h1055; rcases hh with ⟨h1027, h1055⟩ | ⟨h1027, h1055⟩
              · have hh := bnd'_some h1055; clear h1055; obtain ⟨p1028, h1029, h1055⟩ := hh
                refine W_sound tab_ok mixed 16 _ _ _ ?_
                simp -implicitDefEqProofs only [go_sem, qa, qb, qc, qd, qe, qf, qg, qh, qi, qj, qk, ↓reduceIte, h969, g975, h976, h978, g985, g986, g987, g988, g989, h990, h992, h1001, h1027]
                repeat with_reducible refine ⟨by first | kernel_rfl | decide, ?_⟩
                refine Wp_callP (c87 N _ _ h1029) (by kernel_rfl) rfl rfl rfl rfl (by decide) ?_
                have hh := getI_some h1055; clear h1055; obtain ⟨x1031, h1030, h1055⟩ := hh
                have hh := bnd'_some h1055; clear h1055; obtain ⟨⟨p1032, c1034⟩, h1033, h1055⟩ := hh
                (try dsimp only at h1055)
                (try simp -implicitDefEqProofs only [go_sem, qa, qb, qc, qd, qe, qf, qg, qh, qi, qj, qk, ↓reduceIte, h969, g975, h976, h978, g985, g986, g987, g988, g989, h990, h992, h1001, h1027, h1030])
                refine Wp_callD [4] (c72 N _ _ _ _ _ _ h1033) rfl rfl rfl (by first | rfl | (simp only [go_sem, qa, qb, qc, qd, qe, qf, qg, qh, qi, qj, qk, ↓reduceIte, h969, g975, h976, h978, g985, g986, g987, g988, g989, h990, h992, h1001, h1027, h1030] <;> rfl)) rfl (by kernel_rfl) ?_
                have hh := getT0_some h1055; clear h1055; obtain ⟨h1035, h1055⟩ := hh
                have hh := bnd'_some h1055; clear h1055; obtain ⟨⟨p1036, x1038, c1039⟩, h1037, h1055⟩ := hh
                (try dsimp only at h1055)
                refine W_sound tab_ok mixed 8 _ _ _ ?_
                simp -implicitDefEqProofs only [go_sem, qa, qb, qc, qd, qe, qf, qg, qh, qi, qj, qk, ↓reduceIte, h969, g975, h976, h978, g985, g986, g987, g988, g989, h990, h992, h1001, h1027, h1030, h1035]
                repeat with_reducible refine ⟨by first | kernel_rfl | decide, ?_⟩
                refine Wp_callD [0, 1, 2, 3, 4, 5] (ih _ _ _ _ _ _ _ _ _ h1037) rfl rfl rfl (by first | rfl | (simp only [go_sem, qa, qb, qc, qd, qe, qf, qg, qh, qi, qj, qk, ↓reduceIte, h969, g975, h976, h978, g985, g986, g987, g988, g989, h990, h992, h1001, h1027, h1030, h1035] <;> rfl)) rfl (by kernel_rfl) ?_
                have hh := getB_some h1055; clear h1055; obtain ⟨b1041, h1040, h1055⟩ := hh
                have hh := brn_some h1055; clear h1055; rcases hh with ⟨h1042, h1055⟩ | ⟨h1042, h1055⟩
                · refine W_sound tab_ok mixed 8 _ _ _ ?_
                  simp -implicitDefEqProofs only [go_sem, qa, qb, qc, qd, qe, qf, qg, qh, qi, qj, qk, ↓reduceIte, h969, g975, h976, h978, g985, g986, g987, g988, g989, h990, h992, h1001, h1027, h1030, h1035, h1040, h1042]
                  repeat with_reducible refine ⟨by first | kernel_rfl | decide, ?_⟩
                  obtain rfl := Option.some.inj h1055
                  (try dsimp only at h1056)
                  simp only [Option.some.injEq, Prod.mk.injEq] at h1056; obtain ⟨rfl, rfl, rfl⟩ := h1056
                  exact finD (e2 := [(0, .dead), (1, .dead), (2, .dead), (3, .dead), (4, .dead), (5, .dead), (8, .v (.bool true)), (9, .dead), (10, .dead), (17, .dead), (28, .dead), (48, .dead), (63, .dead)]) (ob2 := [(5, .r [.fn 88 [.ptr 0 0, .ptr 1 0, .ptr 3 0, .ptr 5 0]]), (4, .p c1039), (3, .r [.ptr 4 0]), (2, .p [(.int .i64 x964), (.int .i64 x1038)]), (1, .r [.fn 1000075 [.ptr 2 0]]), (0, .p [(.int .i64 x963)])]) (st' := ⟨[], [(0, .dead), (1, .dead), (2, .dead), (3, .dead), (4, .dead), (5, .dead), (8, .v (.bool true)), (9, .dead), (10, .dead), (17, .dead), (28, .dead), (48, .dead), (63, .dead)], [(0, .p [(.int .i64 x963)]), (1, .r [.fn 1000075 [.ptr 2 0]]), (2, .p [(.int .i64 x964), (.int .i64 x1038)]), (3, .r [.ptr 4 0]), (4, .p c1039), (5, .r [.fn 88 [.ptr 0 0, .ptr 1 0, .ptr 3 0, .ptr 5 0]])], 6, []⟩) (.k (.k (.r (.r (.k (.k (.r (.k (.r (.r (.r (.k (.k .nil))))))))))))) (.cons _ _ _ _ _ (DLes.refl _) (.cons _ _ _ _ _ (DLes.refl _) (.cons _ _ _ _ _ (DLes.refl _) (.cons _ _ _ _ _ (DLes.refl _) (.cons _ _ _ _ _ (DLes.refl _) (.cons _ _ _ _ _ (DLes.refl _) .nil)))))) (by kernel_rfl) (by simp only [go_sem, qa, qb, qc, qd, qe, qf, qg, qh, qi, qj, qk, ↓reduceIte, resQ_tmp, resQ_cell, resQ_nil, retD_one, retD_two, retD_three, retD_none]; try simp [R.val, retD_one, retD_two, retD_three, retD_none])
                · have hh := bnd'_some h1055; clear h1055; obtain ⟨⟨p1043, c1045⟩, h1044, h1055⟩ := hh
                  (try dsimp only at h1055)
                  refine W_sound tab_ok mixed 7 _ _ _ ?_
                  simp -implicitDefEqProofs only [go_sem, qa, qb, qc, qd, qe, qf, qg, qh, qi, qj, qk, ↓reduceIte, h969, g975, h976, h978, g985, g986, g987, g988, g989, h990, h992, h1001, h1027, h1030, h1035, h1040, h1042]
                  repeat with_reducible refine ⟨by first | kernel_rfl | decide, ?_⟩
                  refine Wp_callD [4] (c90 N _ _ _ _ _ h1044) rfl rfl rfl (by first | rfl | (simp only [go_sem, qa, qb, qc, qd, qe, qf, qg, qh, qi, qj, qk, ↓reduceIte, h969, g975, h976, h978, g985, g986, g987, g988, g989, h990, h992, h1001, h1027, h1030, h1035, h1040, h1042] <;> rfl)) rfl (by kernel_rfl) ?_
                  have hh := getT0_some h1055; clear h1055; obtain ⟨h1046, h1055⟩ := hh
                  refine W_sound tab_ok mixed 9 _ _ _ ?_
                  simp -implicitDefEqProofs only [go_sem, qa, qb, qc, qd, qe, qf, qg, qh, qi, qj, qk, ↓reduceIte, h969, g975, h976, h978, g985, g986, g987, g988, g989, h990, h992, h1001, h1027, h1030, h1035, h1040, h1042, h1046]
                  repeat with_reducible refine ⟨by first | kernel_rfl | decide, ?_⟩
                  exact cutQ _ ((Wk_le (.r (.r (.r (.r (.r (.r (.r (.r (.r (.r (.r (.k (.k .nil))))))))))))) (OLe.refl _)).trans (cmpS_ok (st' := ⟨[], [(0, .v (.int .i64 x961)), (1, .v (.int .i64 x962)), (2, .dead), (3, .dead), (4, .ptr 3 0), (5, .ptr 5 0), (8, .dead), (9, .v (.int .u64 (bitsI .and .u64 x1024 (IntKind.u64.wrap (x1024 - 1))))), (10, .dead), (17, .dead), (28, .dead), (48, .dead), (63, .dead)], [(0, .p [(.int .i64 x963)]), (1, .r [.fn 1000075 [.ptr 2 0]]), (2, .p [(.int .i64 x964), (.int .i64 x1038)]), (3, .r [.ptr 4 0]), (4, .p c1045), (5, .r [.fn 88 [.ptr 0 0, .ptr 1 0, .ptr 3 0, .ptr 5 0]])], 6, []⟩) (by kernel_rfl))) ⟨n, Nat.lt_succ_self n, _, _, _, h1055, rfl⟩
              · refine W_sound tab_ok mixed 8 _ _ _ ?_
                simp -implicitDefEqProofs only [go_sem, qa, qb, qc, qd, qe, qf, qg, qh, qi, qj, qk, ↓reduceIte, h969, g975, h976, h978, g985, g986, g987, g988, g989, h990, h992, h1001, h1027]
                repeat with_reducible refine ⟨by first | kernel_rfl | decide, ?_⟩
                obtain rfl := Option.some.inj h1055
                exact cutQ _ ((Wk_le (.k (.k (.r (.r (.k (.k (.r (.k (.r (.r (.r (.k (.r .nil))))))))))))) (OLe.refl _)).trans (cmpS_ok (st' := ⟨[], [(0, .dead), (1, .dead), (2, .dead), (3, .dead), (4, .dead), (5, .dead), (8, .dead), (9, .dead), (10, .dead), (17, .dead), (28, .dead), (48, .dead), (63, .dead)], [(0, .p [(.int .i64 x963)]), (1, .r [.fn 1000075 [.ptr 2 0]]), (2, .p [(.int .i64 x964), (.int .i64 x1025)]), (3, .r [.ptr 4 0]), (4, .p c1026), (5, .r [.fn 88 [.ptr 0 0, .ptr 1 0, .ptr 3 0, .ptr 5 0]])], 6, []⟩) (by kernel_rfl))) ⟨_, _, rfl, rfl⟩
          · rintro _ ⟨x1048, c1049, rfl, rfl⟩
            (try dsimp only at h1056)
            refine W_sound tab_ok mixed 6 _ _ _ ?_
            simp -implicitDefEqProofs only [go_sem, qa, qb, qc, qd, qe, qf, qg, qh, qi, qj, qk, ↓reduceIte, h969, g975, h976, h978, g985, g986, g987, g988, g989, h990, h992, h1001]
            repeat with_reducible refine ⟨by first | kernel_rfl | decide, ?_⟩
            simp only [Option.some.injEq, Prod.mk.injEq] at h1056; obtain ⟨rfl, rfl, rfl⟩ := h1056
            exact finD (e2 := [(0, .dead), (1, .dead), (2, .dead), (3, .dead), (4, .dead), (5, .dead), (8, .v (.bool false)), (9, .dead), (10, .dead), (17, .dead), (28, .dead), (48, .dead), (63, .dead)]) (ob2 := [(0, .p [(.int .i64 x963)]), (1, .r [.fn 1000075 [.ptr 2 0]]), (2, .p [(.int .i64 x964), (.int .i64 x1048)]), (3, .r [.ptr 4 0]), (4, .p c1049), (5, .r [.fn 88 [.ptr 0 0, .ptr 1 0, .ptr 3 0, .ptr 5 0]])]) (st' := ⟨[], [(0, .dead), (1, .dead), (2, .dead), (3, .dead), (4, .dead), (5, .dead), (8, .v (.bool false)), (9, .dead), (10, .dead), (17, .dead), (28, .dead), (48, .dead), (63, .dead)], [(0, .p [(.int .i64 x963)]), (1, .r [.fn 1000075 [.ptr 2 0]]), (2, .p [(.int .i64 x964), (.int .i64 x1048)]), (3, .r [.ptr 4 0]), (4, .p c1049), (5, .r [.fn 88 [.ptr 0 0, .ptr 1 0, .ptr 3 0, .ptr 5 0]])], 6, []⟩) (.r (.r (.r (.r (.r (.r (.r (.r (.r (.r (.r (.r (.r .nil))))))))))))) (.cons _ _ _ _ _ (DLes.refl _) (.cons _ _ _ _ _ (DLes.refl _) (.cons _ _ _ _ _ (DLes.refl _) (.cons _ _ _ _ _ (DLes.refl _) (.cons _ _ _ _ _ (DLes.refl _) (.cons _ _ _ _ _ (DLes.refl _) .nil)))))) (by kernel_rfl) (by simp only [go_sem, qa, qb, qc, qd, qe, qf, qg, qh, qi, qj, qk, ↓reduceIte, resQ_tmp, resQ_cell, resQ_nil, retD_one, retD_two, retD_three, retD_none]; try simp [R.val, retD_one, retD_two, retD_three, retD_none])
def m64_2 (N : Nat) (c1065 : List PV) (x1066 : Int) (x1067 : Int) : Option ((PV × List PV × Int)) :=
  bnd' (m114 N x1066 x1067) fun p1070 =>
  getT2 p1070 fun p1073 p1074 =>
  getI .i64 p1073 fun x1076 =>
  getI .i64 p1074 fun x1078 =>
  bnd' (m88_2 N N x1076 0 x1078 x1066 x1067 c1065) fun (p1079, x1081, c1082) =>
  getB p1079 fun b1084 =>
  some ((.tup []), c1082, x1081)
theorem c64_2 (N : Nat) (c1065 : List PV) (x1066 : Int) (x1067 : Int) (r : PV) (c1087 : List PV) (x1088 : Int) (h : m64_2 N c1065 x1066 x1067 = some (r, c1087, x1088)) : V.Fn Tryd.prog 64 2 [.ptr 0 0, .fn 1000075 [.ptr 1 0]] [(0, .p c1065), (1, .p [(.int .i64 x1066), (.int .i64 x1067)])] (fun d ob' => d = .v r ∧ ob' = [(0, .p c1087), (1, .p [(.int .i64 x1066), (.int .i64 x1088)])]) := by
  unfold m64_2 at h
  refine Fn_of (sz := 16) tab_ok [0, 1, 2, 3, 4, 5, 6] [] Tryd.func64 rfl rfl rfl (by simp) ?_
  simp only [initSt, initEnv, List.map_cons, List.map_nil, List.getD_cons_zero, List.getD_cons_succ, List.getD_nil]
  have hh := bnd'_some h; clear h; obtain ⟨p1070, h1071, h⟩ := hh
  (try dsimp only at h)
  refine W_sound tab_ok mixed 8 _ _ _ ?_
  simp -implicitDefEqProofs only [go_sem, qa, qb, qc, qd, qe, qf, qg, qh, qi, qj, qk, ↓reduceIte]
  repeat with_reducible refine ⟨by first | kernel_rfl | decide, ?_⟩
  refine Wp_callDG (ds := [.ptr 1 0]) [1] (c114 N _ _ _ h1071) (by kernel_rfl) rfl (by first | rfl | (simp only [go_sem, qa, qb, qc, qd, qe, qf, qg, qh, qi, qj, qk, ↓reduceIte] <;> rfl)) rfl (by kernel_rfl) ?_
  have hh := getT2_some h; clear h; obtain ⟨p1073, p1074, h1072, h⟩ := hh
  have hh := getI_some h; clear h; obtain ⟨x1076, h1075, h⟩ := hh
  have hh := getI_some h; clear h; obtain ⟨x1078, h1077, h⟩ := hh
  have hh := bnd'_some h; clear h; obtain ⟨⟨p1079, x1081, c1082⟩, h1080, h⟩ := hh
  (try dsimp only at h)
  refine W_sound tab_ok mixed 19 _ _ _ ?_
  simp -implicitDefEqProofs only [go_sem, qa, qb, qc, qd, qe, qf, qg, qh, qi, qj, qk, ↓reduceIte, h1072, h1075, h1077]
  repeat with_reducible refine ⟨by first | kernel_rfl | decide, ?_⟩
  refine Wp_callD [11, 5, 1, 4, 0, 18] (c88_2 N N _ _ _ _ _ _ _ _ _ h1080) rfl rfl rfl (by first | rfl | (simp only [go_sem, qa, qb, qc, qd, qe, qf, qg, qh, qi, qj, qk, ↓reduceIte, h1072, h1075, h1077] <;> rfl)) rfl (by kernel_rfl) ?_
  have hh := getB_some h; clear h; obtain ⟨b1084, h1083, h⟩ := hh
  refine W_sound tab_ok mixed 2 _ _ _ ?_
  simp -implicitDefEqProofs only [go_sem, qa, qb, qc, qd, qe, qf, qg, qh, qi, qj, qk, ↓reduceIte, h1072, h1075, h1077, h1083]
  repeat with_reducible refine ⟨by first | kernel_rfl | decide, ?_⟩
  simp only [Option.some.injEq, Prod.mk.injEq] at h; obtain ⟨rfl, rfl, rfl⟩ := h
  exact finD (e2 := [(0, .dead), (1, .dead), (2, .dead), (3, .dead), (4, .dead), (5, .dead), (6, .dead)]) (ob2 := [(18, .r [.fn 88 [.ptr 11 0, .ptr 5 0, .ptr 4 0, .ptr 18 0]]), (0, .p c1082), (4, .r [.ptr 0 0]), (1, .p [(.int .i64 x1066), (.int .i64 x1081)]), (5, .r [.fn 1000075 [.ptr 1 0]]), (11, .p [(.int .i64 x1078)])]) (st' := ⟨[], [(0, .dead), (1, .dead), (2, .dead), (3, .dead), (4, .dead), (5, .dead), (6, .dead)], [(0, .p c1082), (1, .p [(.int .i64 x1066), (.int .i64 x1081)])], 2, []⟩) (.k (.k (.k (.k (.k (.k (.k .nil))))))) (.cons _ _ _ _ _ (DLes.refl _) (.cons _ _ _ _ _ (DLes.refl _) (.cons _ _ _ _ _ (DLes.refl _) (.cons _ _ _ _ _ (DLes.refl _) (.cons _ _ _ _ _ (DLes.refl _) (.cons _ _ _ _ _ (DLes.refl _) .nil)))))) (by kernel_rfl) (by simp only [go_sem, qa, qb, qc, qd, qe, qf, qg, qh, qi, qj, qk, ↓reduceIte, resQ_tmp, resQ_cell, resQ_nil, retD_one, retD_two, retD_three, retD_none]; try simp [R.val, retD_one, retD_two, retD_three, retD_none])
def m69 (N : Nat) (x1094 : Int) (x1095 : Int) : Option (PV) :=
  some (.int .i64 x1095)
theorem c69 (N : Nat) (x1094 : Int) (x1095 : Int) (r : PV)  (h : m69 N x1094 x1095 = some r) : FnP Tryd.prog 69 [(.fn 1000075 [(.ipt [(.int .i64 x1094), (.int .i64 x1095)])])] r := by
  unfold m69 at h
  refine Fn_of (sz := 20) tab_ok [0, 2, 3, 4, 5, 7, 8, 14, 15, 19] [.tmp 2] Tryd.func69 rfl rfl rfl (by simp) ?_
  simp only [initSt, initEnv, List.map_cons, List.map_nil, List.getD_cons_zero, List.getD_cons_succ, List.getD_nil]
  refine W_sound tab_ok mixed 31 _ _ _ ?_
  simp -implicitDefEqProofs only [go_sem, qa, qb, qc, qd, qe, qf, qg, qh, qi, qj, qk, ↓reduceIte]
  repeat with_reducible refine ⟨by first | kernel_rfl | decide, ?_⟩
  obtain rfl := Option.some.inj h
  exact finC [(2, .v (.int .i64 x1095))] [(2, .v (.int .i64 x1095))] (by simp [leE, lk_cons]) (.cons _ _ _ _ _ (.v _ _ (.refl _)) .nil) (by rfl) (by simp [leE, lk_cons]) (by decide) (by decide) rfl (by simp only [go_sem, qa, qb, qc, qd, qe, qf, qg, qh, qi, qj, qk, ↓reduceIte, resQ_tmp, resQ_cell, resQ_nil, retD_one, retD_two, retD_three, retD_none]; try simp [R.val, retD_one, retD_two, retD_three, retD_none])
def m25 (N : Nat) (x847 : Int) (p848 : PV) : Option (PV) :=
  getL p848 fun n850 c851 =>
  bnd' (m61 N x847 (.lst false n850 c851) x847) fun o =>
  match o with
  | .inl x853 =>
    brn (x853 != 0) (
      some (.tup [(.int .i64 0), (.int .i64 x853)])) (
      brn (((n850 : Nat) : Int) == x847) (
        some (.tup [(.int .i64 0), (.int .i64 16)])) (
        none))
  | .inr (x856, c857) =>
    brn (x856 != 0) (
      some (.tup [(.int .i64 0), (.int .i64 x856)])) (
      brn (((n850 : Nat) : Int) == x847) (
        some (.tup [(.int .i64 0), (.int .i64 16)])) (
        bnd' (m64_2 N c857 ((n850 : Nat) : Int) 0) fun (p1089, c1091, x1092) =>
        getT0 p1089 <|
        bnd' (m69 N ((n850 : Nat) : Int) x1092) fun p1096 =>
        getI .i64 p1096 fun x1099 =>
        some (.tup [(.int .i64 x1099), (.int .i64 0)])))
theorem c25 (N : Nat) (x847 : Int) (p848 : PV) (r : PV)  (h : m25 N x847 p848 = some r) : FnP Tryd.prog 25 [(.int .i64 x847), p848] r := by
  unfold m25 at h
  refine Fn_of (sz := 36) tab_ok [0, 1, 4, 5, 6, 7, 8, 16, 20] [.tmp 4, .tmp 5] Tryd.func25 rfl rfl rfl (by simp) ?_
  simp only [initSt, initEnv, List.map_cons, List.map_nil, List.getD_cons_zero, List.getD_cons_succ, List.getD_nil]
  have hh := getL_some h; clear h; obtain ⟨n850, c851, h849, h⟩ := hh
  have hh := bnd'_some h; clear h; obtain ⟨oo, h852, h⟩ := hh
  rcases oo with x853 | ⟨x856, c857⟩
  · (try dsimp only at h)
    refine W_sound tab_ok mixed 10 _ _ _ ?_
    simp -implicitDefEqProofs only [go_sem, qa, qb, qc, qd, qe, qf, qg, qh, qi, qj, qk, ↓reduceIte, h849]
    repeat with_reducible refine ⟨by first | kernel_rfl | decide, ?_⟩
    refine Wp_callD [] (c61_a N _ _ _ _ h852) rfl rfl rfl (by first | rfl | (simp only [go_sem, qa, qb, qc, qd, qe, qf, qg, qh, qi, qj, qk, ↓reduceIte, h849] <;> rfl)) rfl (by kernel_rfl) ?_
    have hh := brn_some h; clear h; rcases hh with ⟨h854, h⟩ | ⟨h854, h⟩
    · refine W_sound tab_ok mixed 23 _ _ _ ?_
      simp -implicitDefEqProofs only [go_sem, qa, qb, qc, qd, qe, qf, qg, qh, qi, qj, qk, ↓reduceIte, h849, h854]
      repeat with_reducible refine ⟨by first | kernel_rfl | decide, ?_⟩
      obtain rfl := Option.some.inj h
      exact finC [(4, .v (.int .i64 0)), (5, .v (.int .i64 x853))] [(4, .v (.int .i64 0)), (5, .v (.int .i64 x853))] (by simp [leE, lk_cons]) (.cons _ _ _ _ _ (.v _ _ (.refl _)) (.cons _ _ _ _ _ (.v _ _ (.refl _)) .nil)) (by rfl) (by simp [leE, lk_cons]) (by decide) (by decide) rfl (by simp only [go_sem, qa, qb, qc, qd, qe, qf, qg, qh, qi, qj, qk, ↓reduceIte, resQ_tmp, resQ_cell, resQ_nil, retD_one, retD_two, retD_three, retD_none]; try simp [R.val, retD_one, retD_two, retD_three, retD_none])
    · have hh := brn_some h; clear h; rcases hh with ⟨h855, h⟩ | ⟨h855, h⟩
      · refine W_sound tab_ok mixed 31 _ _ _ ?_
        simp -implicitDefEqProofs only [go_sem, qa, qb, qc, qd, qe, qf, qg, qh, qi, qj, qk, ↓reduceIte, h849, h854, h855]
        repeat with_reducible refine ⟨by first | kernel_rfl | decide, ?_⟩
        obtain rfl := Option.some.inj h
        exact finC [(4, .v (.int .i64 0)), (5, .v (.int .i64 16))] [(4, .v (.int .i64 0)), (5, .v (.int .i64 16))] (by simp [leE, lk_cons]) (.cons _ _ _ _ _ (.v _ _ (.refl _)) (.cons _ _ _ _ _ (.v _ _ (.refl _)) .nil)) (by rfl) (by simp [leE, lk_cons]) (by decide) (by decide) rfl (by simp only [go_sem, qa, qb, qc, qd, qe, qf, qg, qh, qi, qj, qk, ↓reduceIte, resQ_tmp, resQ_cell, resQ_nil, retD_one, retD_two, retD_three, retD_none]; try simp [R.val, retD_one, retD_two, retD_three, retD_none])
      · cases h
  · (try dsimp only at h)
    refine W_sound tab_ok mixed 10 _ _ _ ?_
    simp -implicitDefEqProofs only [go_sem, qa, qb, qc, qd, qe, qf, qg, qh, qi, qj, qk, ↓reduceIte, h849]
    repeat with_reducible refine ⟨by first | kernel_rfl | decide, ?_⟩
    refine Wp_callD [] (c61_b N _ _ _ _ _ h852) rfl rfl rfl (by first | rfl | (simp only [go_sem, qa, qb, qc, qd, qe, qf, qg, qh, qi, qj, qk, ↓reduceIte, h849] <;> rfl)) rfl (by kernel_rfl) ?_
    have hh := brn_some h; clear h; rcases hh with ⟨h858, h⟩ | ⟨h858, h⟩
    · refine W_sound tab_ok mixed 23 _ _ _ ?_
      simp -implicitDefEqProofs only [go_sem, qa, qb, qc, qd, qe, qf, qg, qh, qi, qj, qk, ↓reduceIte, h849, h858]
      repeat with_reducible refine ⟨by first | kernel_rfl | decide, ?_⟩
      obtain rfl := Option.some.inj h
      exact finC [(4, .v (.int .i64 0)), (5, .v (.int .i64 x856))] [(4, .v (.int .i64 0)), (5, .v (.int .i64 x856))] (by simp [leE, lk_cons]) (.cons _ _ _ _ _ (.v _ _ (.refl _)) (.cons _ _ _ _ _ (.v _ _ (.refl _)) .nil)) (by rfl) (by simp [leE, lk_cons]) (by decide) (by decide) rfl (by simp only [go_sem, qa, qb, qc, qd, qe, qf, qg, qh, qi, qj, qk, ↓reduceIte, resQ_tmp, resQ_cell, resQ_nil, retD_one, retD_two, retD_three, retD_none]; try simp [R.val, retD_one, retD_two, retD_three, retD_none])
    · have hh := brn_some h; clear h; rcases hh with ⟨h859, h⟩ | ⟨h859, h⟩
      · refine W_sound tab_ok mixed 31 _ _ _ ?_
        simp -implicitDefEqProofs only [go_sem, qa, qb, qc, qd, qe, qf, qg, qh, qi, qj, qk, ↓reduceIte, h849, h858, h859]
        repeat with_reducible refine ⟨by first | kernel_rfl | decide, ?_⟩
        obtain rfl := Option.some.inj h
        exact finC [(4, .v (.int .i64 0)), (5, .v (.int .i64 16))] [(4, .v (.int .i64 0)), (5, .v (.int .i64 16))] (by simp [leE, lk_cons]) (.cons _ _ _ _ _ (.v _ _ (.refl _)) (.cons _ _ _ _ _ (.v _ _ (.refl _)) .nil)) (by rfl) (by simp [leE, lk_cons]) (by decide) (by decide) rfl (by simp only [go_sem, qa, qb, qc, qd, qe, qf, qg, qh, qi, qj, qk, ↓reduceIte, resQ_tmp, resQ_cell, resQ_nil, retD_one, retD_two, retD_three, retD_none]; try simp [R.val, retD_one, retD_two, retD_three, retD_none])
      · have hh := bnd'_some h; clear h; obtain ⟨⟨p1089, c1091, x1092⟩, h1090, h⟩ := hh
        (try dsimp only at h)
        refine W_sound tab_ok mixed 39 _ _ _ ?_
        simp -implicitDefEqProofs only [go_sem, qa, qb, qc, qd, qe, qf, qg, qh, qi, qj, qk, ↓reduceIte, h849, h858, h859]
        repeat with_reducible refine ⟨by first | kernel_rfl | decide, ?_⟩
        refine Wp_callD [13, 42] (c64_2 N _ _ _ _ _ _ h1090) rfl rfl rfl (by first | rfl | (simp only [go_sem, qa, qb, qc, qd, qe, qf, qg, qh, qi, qj, qk, ↓reduceIte, h849, h858, h859] <;> rfl)) rfl (by kernel_rfl) ?_
        have hh := getT0_some h; clear h; obtain ⟨h1093, h⟩ := hh
        refine W_sound tab_ok mixed 2 _ _ _ ?_
        simp -implicitDefEqProofs only [go_sem, qa, qb, qc, qd, qe, qf, qg, qh, qi, qj, qk, ↓reduceIte, h849, h858, h859, h1093]
        repeat with_reducible refine ⟨by first | kernel_rfl | decide, ?_⟩
        refine Wp_wkK (Wk_freeze 42 [(.int .i64 ((n850 : Nat) : Int)), (.int .i64 x1092)] (by rfl) (by decide) (by decide)) rfl ?_
        simp -implicitDefEqProofs only [go_sem, qa, qb, qc, qd, qe, qf, qg, qh, qi, qj, qk, ↓reduceIte, h849, h858, h859, h1093]
        have hh := bnd'_some h; clear h; obtain ⟨p1096, h1097, h⟩ := hh
        refine W_sound tab_ok mixed 3 _ _ _ ?_
        simp -implicitDefEqProofs only [go_sem, qa, qb, qc, qd, qe, qf, qg, qh, qi, qj, qk, ↓reduceIte, h849, h858, h859, h1093]
        repeat with_reducible refine ⟨by first | kernel_rfl | decide, ?_⟩
        refine Wp_callP (c69 N _ _ _ h1097) (by kernel_rfl) rfl rfl rfl rfl (by decide) ?_
        have hh := getI_some h; clear h; obtain ⟨x1099, h1098, h⟩ := hh
        refine W_sound tab_ok mixed 5 _ _ _ ?_
        simp -implicitDefEqProofs only [go_sem, qa, qb, qc, qd, qe, qf, qg, qh, qi, qj, qk, ↓reduceIte, h849, h858, h859, h1093, h1098]
        repeat with_reducible refine ⟨by first | kernel_rfl | decide, ?_⟩
        obtain rfl := Option.some.inj h
        exact finC [(4, .v (.int .i64 x1099)), (5, .v (.int .i64 0))] [(4, .v (.int .i64 x1099)), (5, .v (.int .i64 0))] (by simp [leE, lk_cons]) (.cons _ _ _ _ _ (.v _ _ (.refl _)) (.cons _ _ _ _ _ (.v _ _ (.refl _)) .nil)) (by rfl) (by simp [leE, lk_cons]) (by decide) (by decide) rfl (by simp only [go_sem, qa, qb, qc, qd, qe, qf, qg, qh, qi, qj, qk, ↓reduceIte, resQ_tmp, resQ_cell, resQ_nil, retD_one, retD_two, retD_three, retD_none]; try simp [R.val, retD_one, retD_two, retD_three, retD_none])
end Go.Proofs.YtcaecfofgdogbaaDoor
namespace Go.Proofs.YtcaecfofgdogbaaDoor
open Go.V
set_option maxRecDepth 100000
set_option maxHeartbeats 4000000
set_option linter.unusedSimpArgs false
set_option linter.unusedVariables false
attribute [local go_sem] tl1 tl2 tl3 tl4 tl5 tl9 tl17 tl21 tl22 tl23 tl24 tl25 tl27 tl28 tl30 tl31 tl32 tl33 tl35 tl36 tl37 tl38 tl39 tl40 tl42 tl43 tl44 tl45 tl46 tl47 tl48 tl49 tl50 tl51 tl52 tl53 tl54 tl55 tl56 tl57 tl58 tl59 tl61 tl62 tl63 tl64 tl65 tl66 tl67 tl68 tl69 tl70 tl71 tl72 tl73 tl74 tl75 tl76 tl77 tl78 tl79 tl80 tl81 tl82 tl83 tl84 tl85 tl87 tl89 tl90 tl91 tl92 tl93 tl94 tl96 tl97 tl98 tl99 tl100 tl101 tl102 tl103 tl104 tl105 tl106 tl107 tl108 tl109 tl115 tl119
def m73 (N : Nat) (x1236 : Int) (x1237 : Int) (x1238 : Int) : Option (PV) :=
  brn (decide (x1236 ≥ x1237)) (
    some (.bool (decide (x1236 ≤ x1238)))) (
    some (.bool false))
def m92_L0 (N : Nat) (x1271 : Int) (n1273 : Nat) (c1274 : List PV) : Nat → Int → Option ((PV ⊕ Unit))
  | 0, _ => none
  | n + 1, x1275 =>
    brn (decide (x1275 < ((n1273 : Nat) : Int))) (
      grd (0 ≤ x1275 ∧ x1275 < ((n1273 : Nat) : Int)) <|
      grd (0 < List.length (List.drop (Int.toNat x1275) c1274)) <|
      getI .i64 (gp c1274 (Int.toNat x1275)) fun x1281 =>
      brn (x1281 == x1271) (
        some (.inl (.bool true))) (
        m92_L0 N x1271 n1273 c1274 n (IntKind.i64.wrap (x1275 + 1)))) (
      some (.inr ()))
def m92 (N : Nat) (p1270 : PV) (x1271 : Int) : Option (PV) :=
  getL p1270 fun n1273 c1274 =>
  bnd' (m92_L0 N x1271 n1273 c1274 N 0) fun o =>
  match o with
  | .inl p1283 =>
    some p1283
  | .inr () =>
    some (.bool false)
def m63_L0 (N : Nat) (x1295 : Int) (x1296 : Int) (n1298 : Nat) (c1299 : List PV) : Nat → Int → Option ((PV ⊕ Unit))
  | 0, _ => none
  | n + 1, x1300 =>
    brn (decide (x1300 < ((n1298 : Nat) : Int))) (
      grd (0 ≤ x1300 ∧ x1300 < ((n1298 : Nat) : Int)) <|
      grd (0 < List.length (List.drop (Int.toNat x1300) c1299)) <|
      getL (gp c1299 (Int.toNat x1300)) fun n1306 c1307 =>
      brn (decide (x1295 < ((n1306 : Nat) : Int))) (
        grd (0 ≤ x1295 ∧ x1295 < ((n1306 : Nat) : Int)) <|
        grd (0 < List.length (List.drop (Int.toNat x1295) c1307)) <|
        getI .i64 (gp c1307 (Int.toNat x1295)) fun x1313 =>
        brn (x1313 == x1296) (
          some (.inl (.bool true))) (
          m63_L0 N x1295 x1296 n1298 c1299 n (IntKind.i64.wrap (x1300 + 1)))) (
        m63_L0 N x1295 x1296 n1298 c1299 n (IntKind.i64.wrap (x1300 + 1)))) (
      some (.inr ()))
def m63 (N : Nat) (p1294 : PV) (x1295 : Int) (x1296 : Int) : Option (PV) :=
  getL p1294 fun n1298 c1299 =>
  bnd' (m63_L0 N x1295 x1296 n1298 c1299 N 0) fun o =>
  match o with
  | .inl p1315 =>
    some p1315
  | .inr () =>
    some (.bool false)
def m68_L1 (N : Nat) (x1230 : Int) (x1232 : Int) (n1234 : Nat) (c1235 : List PV) (x1246 : Int) (n1252 : Nat) (c1253 : List PV) : Nat → Int → Option ((PV ⊕ Unit))
  | 0, _ => none
  | n + 1, x1256 =>
    brn (decide (x1256 < x1232)) (
      grd (0 ≤ x1256 ∧ x1256 < ((n1252 : Nat) : Int)) <|
      grd (0 < List.length (List.drop (Int.toNat x1256) c1253)) <|
      getI .i64 (gp c1253 (Int.toNat x1256)) fun x1262 =>
      bnd' (m73 N x1262 0 (IntKind.i64.wrap (x1230 - 1))) fun p1263 =>
      getB p1263 fun b1266 =>
      brn b1266 (
        grd (x1256 ≤ ((n1252 : Nat) : Int)) <|
        grd (List.length c1253 = n1252) <|
        bnd' (m92 N (.lst false (Int.toNat x1256) (List.take (Int.toNat x1256) c1253)) x1262) fun p1287 =>
        getB p1287 fun b1290 =>
        brn b1290 (
          some (.inl (.int .i64 6))) (
          grd (x1246 ≤ ((n1234 : Nat) : Int)) <|
          grd (List.length c1235 = n1234) <|
          bnd' (m63 N (.lst false (Int.toNat x1246) (List.take (Int.toNat x1246) c1235)) x1256 x1262) fun p1319 =>
          getB p1319 fun b1322 =>
          brn b1322 (
            some (.inl (.int .i64 13))) (
            m68_L1 N x1230 x1232 n1234 c1235 x1246 n1252 c1253 n (IntKind.i64.wrap (x1256 + 1))))) (
        some (.inl (.int .i64 2)))) (
      some (.inr ()))
def m68_L0 (N : Nat) (x1230 : Int) (x1232 : Int) (n1234 : Nat) (c1235 : List PV) : Nat → Int → Option ((PV ⊕ Unit))
  | 0, _ => none
  | n + 1, x1246 =>
    brn (decide (x1246 < ((n1234 : Nat) : Int))) (
      grd (0 ≤ x1246 ∧ x1246 < ((n1234 : Nat) : Int)) <|
      grd (0 < List.length (List.drop (Int.toNat x1246) c1235)) <|
      getL (gp c1235 (Int.toNat x1246)) fun n1252 c1253 =>
      brn (((n1252 : Nat) : Int) != x1232) (
        some (.inl (.int .i64 5))) (
        brn (decide (x1232 > x1230)) (
          some (.inl (.int .i64 5))) (
          bnd' (m68_L1 N x1230 x1232 n1234 c1235 x1246 n1252 c1253 N 0) fun o =>
          match o with
          | .inl p1324 =>
            some (.inl p1324)
          | .inr () =>
            m68_L0 N x1230 x1232 n1234 c1235 n (IntKind.i64.wrap (x1246 + 1))))) (
      some (.inr ()))
def m68 (N : Nat) (x1230 : Int) (p1231 : PV) (x1232 : Int) : Option (PV) :=
  getL p1231 fun n1234 c1235 =>
  bnd' (m73 N x1230 1 5) fun p1240 =>
  getB p1240 fun b1243 =>
  brn b1243 (
    brn (decide (((n1234 : Nat) : Int) > x1230)) (
      some (.int .i64 3)) (
      bnd' (m68_L0 N x1230 x1232 n1234 c1235 N 0) fun o =>
      match o with
      | .inl p1325 =>
        some p1325
      | .inr () =>
        some (.int .i64 0))) (
    some (.int .i64 1))
def m24 (N : Nat) (x1225 : Int) (p1226 : PV) : Option (PV) :=
  getL p1226 fun n1228 c1229 =>
  bnd' (m68 N x1225 (.lst false n1228 c1229) x1225) fun p1332 =>
  getI .i64 p1332 fun x1335 =>
  some (.int .i64 x1335)
def m66 (N : Nat) (x1454 : Int) (p1455 : PV) : Option (PV) :=
  getL p1455 fun n1457 c1458 =>
  bnd' (m24 N x1454 (.lst false n1457 c1458)) fun p1459 =>
  getI .i64 p1459 fun x1462 =>
  brn (x1462 == 0) (
    brn (((n1457 : Nat) : Int) == x1454) (
      some (.int .i64 16)) (
      some (.int .i64 x1462))) (
    some (.int .i64 x1462))
def m91_L0 (N : Nat) (rec : Int → PV → Option (PV)) (x1475 : Int) (n1478 : Nat) (c1479 : List PV) : Nat → Nat → Int → List PV → Option ((Nat × List PV))
  | 0, _, _, _ => none
  | n + 1, n1535, x1536, c1537 =>
    brn (decide (x1536 < x1475)) (
      bnd' (m92 N (.lst false n1478 c1479) x1536) fun p1539 =>
      getB p1539 fun b1542 =>
      brn b1542 (
        m91_L0 N rec x1475 n1478 c1479 n n1535 (IntKind.i64.wrap (x1536 + 1)) c1537) (
        grd (List.length c1479 = n1478) <|
        brn (decide (0 < n1478)) (
          grd (n1478 ≤ 1099511627776) <|
          grd ((n1478 + 1) ≤ 1099511627776) <|
          bnd' (rec x1475 (.lst false (n1478 + 1) (c1479 ++ [(.int .i64 x1536)]))) fun p1548 =>
          getL p1548 fun n1551 c1552 =>
          grd (List.length c1552 = n1551) <|
          grd ((n1535 + n1551) ≤ 1099511627776) <|
          grd (List.length c1537 = n1535) <|
          m91_L0 N rec x1475 n1478 c1479 n (n1535 + n1551) (IntKind.i64.wrap (x1536 + 1)) (c1537 ++ c1552)) (
          grd (n1478 ≤ 1099511627776) <|
          grd ((n1478 + 1) ≤ 1099511627776) <|
          bnd' (rec x1475 (.lst false (n1478 + 1) (c1479 ++ [(.int .i64 x1536)]))) fun p1558 =>
          getL p1558 fun n1561 c1562 =>
          grd (List.length c1562 = n1561) <|
          grd ((n1535 + n1561) ≤ 1099511627776) <|
          grd (List.length c1537 = n1535) <|
          m91_L0 N rec x1475 n1478 c1479 n (n1535 + n1561) (IntKind.i64.wrap (x1536 + 1)) (c1537 ++ c1562)))) (
      some (n1535, c1537))
def m91 (N : Nat) : Nat → Int → PV → Option (PV)
  | 0, _, _ => none
  | fu + 1, x1475, p1476 =>
    getL p1476 fun n1478 c1479 =>
    brn (((n1478 : Nat) : Int) == x1475) (
      some (.lst false 1 [(.lst false n1478 c1479)])) (
      bnd' (m91_L0 N (m91 N fu) x1475 n1478 c1479 N 0 0 []) fun o =>
      match o with
      | (n1566, c1567) =>
        grd (List.length c1567 = n1566) <|
        some (.lst false n1566 c1567))
def m67_L1 (N : Nat) (x1470 : Int) (n1473 : Nat) (c1474 : List PV) (n1575 : Nat) (c1576 : List PV) (n1637 : Nat) (x1638 : Int) (c1639 : List PV) : Nat → Bool → Int → Option (Bool)
  | 0, _, _ => none
  | n + 1, b1641, x1642 =>
    brn (decide (x1642 < x1470)) (
      brn b1641 (
        grd (0 ≤ x1638 ∧ x1638 < ((n1575 : Nat) : Int)) <|
        grd (0 < List.length (List.drop (Int.toNat x1638) c1576)) <|
        getL (gp c1576 (Int.toNat x1638)) fun n1649 c1650 =>
        grd (0 ≤ x1642 ∧ x1642 < ((n1649 : Nat) : Int)) <|
        grd (0 < List.length (List.drop (Int.toNat x1642) c1650)) <|
        getI .i64 (gp c1650 (Int.toNat x1642)) fun x1655 =>
        bnd' (m63 N (.lst false n1473 c1474) x1642 x1655) fun p1656 =>
        getB p1656 fun b1659 =>
        brn b1659 (
          m67_L1 N x1470 n1473 c1474 n1575 c1576 n1637 x1638 c1639 n false (IntKind.i64.wrap (x1642 + 1))) (
          m67_L1 N x1470 n1473 c1474 n1575 c1576 n1637 x1638 c1639 n true (IntKind.i64.wrap (x1642 + 1)))) (
        m67_L1 N x1470 n1473 c1474 n1575 c1576 n1637 x1638 c1639 n false (IntKind.i64.wrap (x1642 + 1)))) (
      some b1641)
def m67_L0 (N : Nat) (x1470 : Int) (n1473 : Nat) (c1474 : List PV) (n1575 : Nat) (c1576 : List PV) : Nat → Nat → Int → List PV → Option ((Nat × List PV))
  | 0, _, _, _ => none
  | n + 1, n1637, x1638, c1639 =>
    brn (decide (x1638 < ((n1575 : Nat) : Int))) (
      bnd' (m67_L1 N x1470 n1473 c1474 n1575 c1576 n1637 x1638 c1639 N true 0) fun b1661 =>
      brn b1661 (
        grd (0 ≤ x1638 ∧ x1638 < ((n1575 : Nat) : Int)) <|
        grd (0 < List.length (List.drop (Int.toNat x1638) c1576)) <|
        getL (gp c1576 (Int.toNat x1638)) fun n1667 c1668 =>
        grd ((n1637 + 1) ≤ 1099511627776) <|
        grd (List.length c1639 = n1637) <|
        m67_L0 N x1470 n1473 c1474 n1575 c1576 n (n1637 + 1) (IntKind.i64.wrap (x1638 + 1)) (c1639 ++ [(.lst false n1667 c1668)])) (
        m67_L0 N x1470 n1473 c1474 n1575 c1576 n n1637 (IntKind.i64.wrap (x1638 + 1)) c1639)) (
      some (n1637, c1639))
def m67 (N : Nat) (x1470 : Int) (p1471 : PV) : Option (PV) :=
  getL p1471 fun n1473 c1474 =>
  bnd' (m91 N N x1470 (.lst false 0 [])) fun p1572 =>
  getL p1572 fun n1575 c1576 =>
  bnd' (m67_L0 N x1470 n1473 c1474 n1575 c1576 N 0 0 []) fun o =>
  match o with
  | (n1671, c1672) =>
    grd (List.length c1672 = n1671) <|
    some (.lst false n1671 c1672)
def m26 (N : Nat) (x1690 : Int) (p1691 : PV) : Option (PV) :=
  getL p1691 fun n1693 c1694 =>
  bnd' (m66 N x1690 (.lst false n1693 c1694)) fun p1695 =>
  getI .i64 p1695 fun x1698 =>
  brn (x1698 != 0) (
    some (.tup [(.int .i64 0), (.int .i64 x1698)])) (
    bnd' (m67 N x1690 (.lst false n1693 c1694)) fun p1700 =>
    getL p1700 fun n1703 c1704 =>
    some (.tup [(.int .i64 ((n1703 : Nat) : Int)), (.int .i64 0)]))
end Go.Proofs.YtcaecfofgdogbaaDoor
namespace Go.Proofs.YtcaecfofgdogbaaDoor
open Go.V
open Nat renaming reduceBEq → qa, reduceAdd → qb, reduceSub → qc, reduceMul → qd, reduceLT → qe, reduceLeDiff → qf
open Int renaming reduceLE → qg, reduceLT → qh, reduceToNat → qi, reduceBEq → qj, reduceBNe → qk
set_option maxRecDepth 100000
set_option maxHeartbeats 4000000
set_option linter.unusedSimpArgs false
set_option linter.unusedVariables false
attribute [local go_sem] tl1 tl2 tl3 tl4 tl5 tl9 tl17 tl21 tl22 tl23 tl24 tl25 tl27 tl28 tl30 tl31 tl32 tl33 tl35 tl36 tl37 tl38 tl39 tl40 tl42 tl43 tl44 tl45 tl46 tl47 tl48 tl49 tl50 tl51 tl52 tl53 tl54 tl55 tl56 tl57 tl58 tl59 tl61 tl62 tl63 tl64 tl65 tl66 tl67 tl68 tl69 tl70 tl71 tl72 tl73 tl74 tl75 tl76 tl77 tl78 tl79 tl80 tl81 tl82 tl83 tl84 tl85 tl87 tl89 tl90 tl91 tl92 tl93 tl94 tl96 tl97 tl98 tl99 tl100 tl101 tl102 tl103 tl104 tl105 tl106 tl107 tl108 tl109 tl115 tl119
def getA7 {α : Type} (p : PV) (k : PV → PV → PV → PV → PV → PV → PV → Option α) : Option α := match p with | .agg [a0, a1, a2, a3, a4, a5, a6] => k a0 a1 a2 a3 a4 a5 a6 | _ => none
theorem getA7_some {α : Type} {p : PV} {k : PV → PV → PV → PV → PV → PV → PV → Option α} {r : α} (h : getA7 p k = some r) : ∃ a0 a1 a2 a3 a4 a5 a6, p = .agg [a0, a1, a2, a3, a4, a5, a6] ∧ k a0 a1 a2 a3 a4 a5 a6 = some r := by
  unfold getA7 at h; split at h
  · exact ⟨_, _, _, _, _, _, _, rfl, h⟩
  · cases h
def m86_L0 (N : Nat) (x1244 : Int) (n1246 : Nat) (c1247 : List PV) : Nat → Int → Option ((PV ⊕ Unit))
  | 0, _ => none
  | n + 1, x1248 =>
    brn (decide (x1248 < ((n1246 : Nat) : Int))) (
      grd (0 ≤ x1248 ∧ x1248 < ((n1246 : Nat) : Int)) <|
      grd (0 < List.length (List.drop (Int.toNat x1248) c1247)) <|
      getI .i64 (gp c1247 (Int.toNat x1248)) fun x1254 =>
      brn (x1244 == x1254) (
        some (.inl (.int .i64 x1248))) (
        m86_L0 N x1244 n1246 c1247 n (IntKind.i64.wrap (x1248 + 1)))) (
      some (.inr ()))
def m86 (N : Nat) (p1243 : PV) (x1244 : Int) : Option (PV) :=
  getL p1243 fun n1246 c1247 =>
  bnd' (m86_L0 N x1244 n1246 c1247 N 0) fun o =>
  match o with
  | .inl p1256 =>
    some p1256
  | .inr () =>
    some (.int .i64 (-1))
theorem c86 (N : Nat) (p1243 : PV) (x1244 : Int) (r : PV)  (h : m86 N p1243 x1244 = some r) : FnP Tryd.prog 86 [p1243, (.int .i64 x1244)] r := by
  unfold m86 at h
  refine Fn_of (sz := 19) tab_ok [0, 1, 4, 5, 7, 8, 9, 16] [.tmp 4] Tryd.func86 rfl rfl rfl (by simp) ?_
  simp only [initSt, initEnv, List.map_cons, List.map_nil, List.getD_cons_zero, List.getD_cons_succ, List.getD_nil]
  have hh := getL_some h; clear h; obtain ⟨n1246, c1247, h1245, h⟩ := hh
  refine W_sound tab_ok mixed 11 _ _ _ ?_
  simp -implicitDefEqProofs only [go_sem, qa, qb, qc, qd, qe, qf, qg, qh, qi, qj, qk, ↓reduceIte, h1245]
  repeat with_reducible refine ⟨by first | kernel_rfl | decide, ?_⟩
  have hh := bnd'_some h; clear h; obtain ⟨o1257, h1258, h1259⟩ := hh
  refine Wp_cut (fun s => (.inr ()) = o1257 ∧ s = ⟨[], [(0, .dead), (1, .dead), (4, .dead), (5, .dead), (7, .dead), (8, .dead), (9, .dead), (16, .dead)], [], 0, []⟩) ?_ ?_
  · refine Wp_block ?_
    refine Wp_loopG (fun n s => ∃ x1248, m86_L0 N x1244 n1246 c1247 n x1248 = some o1257 ∧ s = ⟨[], [(0, .v (.lst false n1246 c1247)), (1, .v (.int .i64 x1244)), (4, .dead), (5, .dead), (7, .v (.int .i64 ((n1246 : Nat) : Int))), (8, .v (.int .i64 x1248)), (9, .dead), (16, .dead)], [], 0, []⟩) N _ ((Wk_le (.r (.r (.k (.r (.r (.r (.r (.r .nil)))))))) (OLe.refl _)).trans (cmpS_ok (st' := ⟨[], [(0, .v (.lst false n1246 c1247)), (1, .v (.int .i64 x1244)), (4, .dead), (5, .dead), (7, .v (.int .i64 ((n1246 : Nat) : Int))), (8, .v (.int .i64 0)), (9, .dead), (16, .dead)], [], 0, []⟩) (by kernel_rfl))) ⟨_, h1258, rfl⟩ ?_
    clear h1258
    rintro n _ ⟨x1248, h1258, rfl⟩
    cases n with
    | zero => cases h1258
    | succ n =>
      rw [m86_L0] at h1258
      have hh := brn_some h1258; clear h1258; rcases hh with ⟨h1249, h1258⟩ | ⟨h1249, h1258⟩
      · have hh := grd_some h1258; clear h1258; obtain ⟨⟨g1250, g1251⟩, h1258⟩ := hh
        have hh := grd_some h1258; clear h1258; obtain ⟨g1252, h1258⟩ := hh
        have hh := getI_some h1258; clear h1258; obtain ⟨x1254, h1253, h1258⟩ := hh
        have hh := brn_some h1258; clear h1258; rcases hh with ⟨h1255, h1258⟩ | ⟨h1255, h1258⟩
        · refine W_sound tab_ok mixed 31 _ _ _ ?_
          simp -implicitDefEqProofs only [go_sem, qa, qb, qc, qd, qe, qf, qg, qh, qi, qj, qk, ↓reduceIte, h1245, h1249, g1250, g1251, g1252, h1253, h1255]
          repeat with_reducible refine ⟨by first | kernel_rfl | decide, ?_⟩
          obtain rfl := Option.some.inj h1258
          (try dsimp only at h1259)
          obtain rfl := Option.some.inj h1259
          exact finC [(4, .v (.int .i64 x1248))] [(4, .v (.int .i64 x1248))] (by simp [leE, lk_cons]) (.cons _ _ _ _ _ (.v _ _ (.refl _)) .nil) (by rfl) (by simp [leE, lk_cons]) (by decide) (by decide) rfl (by simp only [go_sem, qa, qb, qc, qd, qe, qf, qg, qh, qi, qj, qk, ↓reduceIte, resQ_tmp, resQ_cell, resQ_nil, retD_one, retD_two, retD_three, retD_none]; try simp [R.val, retD_one, retD_two, retD_three, retD_none])
        · refine W_sound tab_ok mixed 30 _ _ _ ?_
          simp -implicitDefEqProofs only [go_sem, qa, qb, qc, qd, qe, qf, qg, qh, qi, qj, qk, ↓reduceIte, h1245, h1249, g1250, g1251, g1252, h1253, h1255]
          repeat with_reducible refine ⟨by first | kernel_rfl | decide, ?_⟩
          exact cutQ _ ((Wk_le (.r (.r (.r (.k (.r (.r (.k (.k .nil)))))))) (OLe.refl _)).trans (cmpS_ok (st' := ⟨[], [(0, .v (.lst false n1246 c1247)), (1, .v (.int .i64 x1244)), (4, .dead), (5, .dead), (7, .v (.int .i64 ((n1246 : Nat) : Int))), (8, .v (.int .i64 (IntKind.i64.wrap (x1248 + 1)))), (9, .dead), (16, .dead)], [], 0, []⟩) (by kernel_rfl))) ⟨n, Nat.lt_succ_self n, _, h1258, rfl⟩
      · refine W_sound tab_ok mixed 7 _ _ _ ?_
        simp -implicitDefEqProofs only [go_sem, qa, qb, qc, qd, qe, qf, qg, qh, qi, qj, qk, ↓reduceIte, h1245, h1249]
        repeat with_reducible refine ⟨by first | kernel_rfl | decide, ?_⟩
        obtain rfl := Option.some.inj h1258
        exact cutQ _ ((Wk_le (.k (.k (.r (.r (.k (.k (.k (.r .nil)))))))) (OLe.refl _)).trans (cmpS_ok (st' := ⟨[], [(0, .dead), (1, .dead), (4, .dead), (5, .dead), (7, .dead), (8, .dead), (9, .dead), (16, .dead)], [], 0, []⟩) (by kernel_rfl))) ⟨rfl, rfl⟩
  · rintro _ ⟨rfl, rfl⟩
    (try dsimp only at h1259)
    refine W_sound tab_ok mixed 6 _ _ _ ?_
    simp -implicitDefEqProofs only [go_sem, qa, qb, qc, qd, qe, qf, qg, qh, qi, qj, qk, ↓reduceIte, h1245]
    repeat with_reducible refine ⟨by first | kernel_rfl | decide, ?_⟩
    obtain rfl := Option.some.inj h1259
    exact finC [(4, .v (.int .i64 (-1)))] [(4, .v (.int .i64 (-1)))] (by simp [leE, lk_cons]) (.cons _ _ _ _ _ (.v _ _ (.refl _)) .nil) (by rfl) (by simp [leE, lk_cons]) (by decide) (by decide) rfl (by simp only [go_sem, qa, qb, qc, qd, qe, qf, qg, qh, qi, qj, qk, ↓reduceIte, resQ_tmp, resQ_cell, resQ_nil, retD_one, retD_two, retD_three, retD_none]; try simp [R.val, retD_one, retD_two, retD_three, retD_none])
def m57 (N : Nat) (p1238 : PV) (x1239 : Int) : Option (PV) :=
  getL p1238 fun n1241 c1242 =>
  bnd' (m86 N (.lst false n1241 c1242) x1239) fun p1260 =>
  getI .i64 p1260 fun x1263 =>
  some (.bool (decide (x1263 ≥ 0)))
theorem c57 (N : Nat) (p1238 : PV) (x1239 : Int) (r : PV)  (h : m57 N p1238 x1239 = some r) : FnP Tryd.prog 57 [p1238, (.int .i64 x1239)] r := by
  unfold m57 at h
  refine Fn_of (sz := 9) tab_ok [0, 1, 4] [.tmp 4] Tryd.func57 rfl rfl rfl (by simp) ?_
  simp only [initSt, initEnv, List.map_cons, List.map_nil, List.getD_cons_zero, List.getD_cons_succ, List.getD_nil]
  have hh := getL_some h; clear h; obtain ⟨n1241, c1242, h1240, h⟩ := hh
  have hh := bnd'_some h; clear h; obtain ⟨p1260, h1261, h⟩ := hh
  refine W_sound tab_ok mixed 8 _ _ _ ?_
  simp -implicitDefEqProofs only [go_sem, qa, qb, qc, qd, qe, qf, qg, qh, qi, qj, qk, ↓reduceIte, h1240]
  repeat with_reducible refine ⟨by first | kernel_rfl | decide, ?_⟩
  refine Wp_callP (c86 N _ _ _ h1261) (by kernel_rfl) rfl rfl rfl rfl (by decide) ?_
  have hh := getI_some h; clear h; obtain ⟨x1263, h1262, h⟩ := hh
  refine W_sound tab_ok mixed 5 _ _ _ ?_
  simp -implicitDefEqProofs only [go_sem, qa, qb, qc, qd, qe, qf, qg, qh, qi, qj, qk, ↓reduceIte, h1240, h1262]
  repeat with_reducible refine ⟨by first | kernel_rfl | decide, ?_⟩
  obtain rfl := Option.some.inj h
  exact finC [(4, .v (.bool (decide (x1263 ≥ 0))))] [(4, .v (.bool (decide (x1263 ≥ 0))))] (by simp [leE, lk_cons]) (.cons _ _ _ _ _ (.v _ _ (.refl _)) .nil) (by rfl) (by simp [leE, lk_cons]) (by decide) (by decide) rfl (by simp only [go_sem, qa, qb, qc, qd, qe, qf, qg, qh, qi, qj, qk, ↓reduceIte, resQ_tmp, resQ_cell, resQ_nil, retD_one, retD_two, retD_three, retD_none]; try simp [R.val, retD_one, retD_two, retD_three, retD_none])
def m79_9_L1 (N : Nat) (rec : PV → List PV → Nat → List PV → Nat → List PV → Option ((List PV × Nat × Nat × List PV × List PV))) (n2513 : Nat) (c2514 : List PV) (x2517 : Int) (x2559 : Int) (c2560 : List PV) (n2561 : Nat) (n2562 : Nat) (c2563 : List PV) (c2564 : List PV) : Nat → Bool → Int → Option (Bool)
  | 0, _, _ => none
  | n + 1, b2570, x2571 =>
    brn (decide (x2571 < ((n2562 : Nat) : Int))) (
      grd (0 ≤ x2571 ∧ x2571 < ((n2562 : Nat) : Int)) <|
      grd ((Int.toNat x2571) < List.length c2563) <|
      getL (gp c2563 (Int.toNat x2571)) fun n2577 c2578 =>
      brn b2570 (
        m79_9_L1 N rec n2513 c2514 x2517 x2559 c2560 n2561 n2562 c2563 c2564 n true (IntKind.i64.wrap (x2571 + 1))) (
        grd (0 ≤ ((n2513 : Nat) : Int) ∧ ((n2513 : Nat) : Int) < ((n2577 : Nat) : Int)) <|
        grd (0 < List.length (List.drop n2513 c2578)) <|
        getI .i64 (gp c2578 n2513) fun x2584 =>
        m79_9_L1 N rec n2513 c2514 x2517 x2559 c2560 n2561 n2562 c2563 c2564 n (x2584 == x2559) (IntKind.i64.wrap (x2571 + 1)))) (
      some b2570)
def m79_9_L0 (N : Nat) (rec : PV → List PV → Nat → List PV → Nat → List PV → Option ((List PV × Nat × Nat × List PV × List PV))) (n2513 : Nat) (c2514 : List PV) (x2517 : Int) : Nat → Int → List PV → Nat → Nat → List PV → List PV → Option ((List PV × Nat × Nat × List PV × List PV))
  | 0, _, _, _, _, _, _ => none
  | n + 1, x2559, c2560, n2561, n2562, c2563, c2564 =>
    brn (decide (x2559 < x2517)) (
      bnd' (m57 N (.lst false n2513 c2514) x2559) fun p2566 =>
      getB p2566 fun b2569 =>
      bnd' (m79_9_L1 N rec n2513 c2514 x2517 x2559 c2560 n2561 n2562 c2563 c2564 N b2569 0) fun b2585 =>
      brn b2585 (
        m79_9_L0 N rec n2513 c2514 x2517 n (IntKind.i64.wrap (x2559 + 1)) c2560 n2561 n2562 c2563 c2564) (
        grd (0 ≤ ((n2513 : Nat) : Int) ∧ ((n2513 : Nat) : Int) ≤ ((n2513 : Nat) : Int)) <|
        grd (List.length c2514 = n2513) <|
        grd ((n2513 + 1) ≤ 1099511627776) <|
        bnd' (rec (.lst false (n2513 + 1) (c2514 ++ [(.int .i64 x2559)])) c2560 n2561 c2564 n2562 c2563) fun o =>
        match o with
        | (c2592, n2593, n2594, c2595, c2596) =>
          m79_9_L0 N rec n2513 c2514 x2517 n (IntKind.i64.wrap (x2559 + 1)) c2592 n2593 n2594 c2595 c2596)) (
      some (c2560, n2561, n2562, c2563, c2564))
def m79_9 (N : Nat) : Nat → PV → List PV → Nat → List PV → Nat → List PV → Option ((List PV × Nat × Nat × List PV × List PV))
  | 0, _, _, _, _, _, _ => none
  | fu + 1, p2506, c2507, n2508, c2509, n2510, c2511 =>
    getL p2506 fun n2513 c2514 =>
    grd (0 < List.length c2507) <|
    getI .i64 (gp c2507 0) fun x2517 =>
    brn (((n2513 : Nat) : Int) == x2517) (
      grd ((n2508 + 1) ≤ 1099511627776) <|
      grd (List.length c2509 = n2508) <|
      some (c2507, (n2508 + 1), n2510, c2511, (c2509 ++ [(.lst false n2513 c2514)]))) (
      bnd' (m79_9_L0 N (m79_9 N fu) n2513 c2514 x2517 N 0 c2507 n2508 n2510 c2511 c2509) fun o =>
      match o with
      | (c2597, n2598, n2599, c2600, c2601) =>
        some (c2597, n2598, n2599, c2600, c2601))
theorem c79_9 (N : Nat) : ∀ (fu : Nat) (p2506 : PV) (c2507 : List PV) (n2508 : Nat) (c2509 : List PV) (n2510 : Nat) (c2511 : List PV) (r : (List PV × Nat × Nat × List PV × List PV))  (h : m79_9 N fu p2506 c2507 n2508 c2509 n2510 c2511 = some r), V.Fn Tryd.prog 79 6 [.v p2506, .ptr 0 0, .ptr 1 0, .ptr 3 0, .ptr 5 0] [(0, .p c2507), (1, .r [.sl false 2 0 n2508 1]), (2, .p c2509), (3, .r [.sl false 4 0 n2510 1]), (4, .p c2511), (5, .r [.fn 79 [.ptr 0 0, .ptr 1 0, .ptr 3 0, .ptr 5 0]])] (fun d ob' => match (generalizing := false) r with | (c2420, n2421, n2422, c2423, c2424) => d = .v (.tup []) ∧ ob' = [(0, .p c2420), (1, .r [.sl false 6 0 n2421 1]), (3, .r [.sl false 4 0 n2422 1]), (4, .p c2423), (5, .r [.fn 79 [.ptr 0 0, .ptr 1 0, .ptr 3 0, .ptr 5 0]]), (6, .p c2424)]) := by
  intro fu
  induction fu with
  | zero => intro p2506 c2507 n2508 c2509 n2510 c2511 r h; cases h
  | succ fu ih =>
    intro p2506 c2507 n2508 c2509 n2510 c2511 r h
    rw [m79_9] at h
    refine Fn_of (sz := 56) tab_ok [0, 1, 2, 3, 4, 6, 7, 9, 13, 18, 19, 20, 25, 26, 27, 28, 43] [] Tryd.func79 rfl rfl rfl (by simp) ?_
    simp only [initSt, initEnv, List.map_cons, List.map_nil, List.getD_cons_zero, List.getD_cons_succ, List.getD_nil]
    have hh := getL_some h; clear h; obtain ⟨n2513, c2514, h2512, h⟩ := hh
    simp only [h2512]
    refine Wp_wkK (cmpT_ok (st' := ⟨[], [(0, .v (.lst false n2513 c2514)), (1, .ptr 0 0), (2, .ptr 1 0), (3, .ptr 3 0), (4, .ptr 5 0), (6, .dead), (7, .dead), (9, .dead), (13, .dead), (18, .dead), (19, .dead), (20, .dead), (25, .dead), (26, .dead), (27, .dead), (28, .dead), (43, .dead)], [(0, .p c2507), (1, .r [.sl false 6 0 n2508 1]), (3, .r [.sl false 4 0 n2510 1]), (4, .p c2511), (5, .r [.fn 79 [.ptr 0 0, .ptr 1 0, .ptr 3 0, .ptr 5 0]]), (6, .p c2509)], 7, []⟩) [0, 1, 1000000002, 3, 4, 5, 2] (by kernel_rfl)) rfl ?_
    have hh := grd_some h; clear h; obtain ⟨g2515, h⟩ := hh
    have hh := getI_some h; clear h; obtain ⟨x2517, h2516, h⟩ := hh
    have hh := brn_some h; clear h; rcases hh with ⟨h2518, h⟩ | ⟨h2518, h⟩
    · have hh := grd_some h; clear h; obtain ⟨g2519, h⟩ := hh
      have hh := grd_some h; clear h; obtain ⟨g2520, h⟩ := hh
      refine W_sound tab_ok mixed 19 _ _ _ ?_
      simp -implicitDefEqProofs only [go_sem, qa, qb, qc, qd, qe, qf, qg, qh, qi, qj, qk, ↓reduceIte, h2512, g2515, h2516, h2518, g2519, g2520]
      repeat with_reducible refine ⟨by first | kernel_rfl | decide, ?_⟩
      obtain rfl := Option.some.inj h
      exact finD (e2 := [(0, .dead), (1, .dead), (2, .dead), (3, .dead), (4, .dead), (6, .dead), (7, .dead), (9, .dead), (13, .dead), (18, .dead), (19, .dead), (20, .dead), (25, .dead), (26, .dead), (27, .dead), (28, .dead), (43, .dead)]) (ob2 := [(0, .p c2507), (1, .r [.sl false 24 0 (n2508 + 1) 1]), (3, .r [.sl false 4 0 n2510 1]), (4, .p c2511), (5, .r [.fn 79 [.ptr 0 0, .ptr 1 0, .ptr 3 0, .ptr 5 0]]), (23, .p [(.lst false n2513 c2514)]), (24, .p (c2509 ++ [(.lst false n2513 c2514)]))]) (st' := ⟨[], [(0, .dead), (1, .dead), (2, .dead), (3, .dead), (4, .dead), (6, .dead), (7, .dead), (9, .dead), (13, .dead), (18, .dead), (19, .dead), (20, .dead), (25, .dead), (26, .dead), (27, .dead), (28, .dead), (43, .dead)], [(0, .p c2507), (1, .r [.sl false 6 0 (n2508 + 1) 1]), (3, .r [.sl false 4 0 n2510 1]), (4, .p c2511), (5, .r [.fn 79 [.ptr 0 0, .ptr 1 0, .ptr 3 0, .ptr 5 0]]), (6, .p (c2509 ++ [(.lst false n2513 c2514)]))], 7, []⟩) (.k (.k (.k (.k (.k (.r (.r (.r (.k (.r (.r (.r (.r (.r (.r (.r (.r .nil))))))))))))))))) (.cons _ _ _ _ _ (DLes.refl _) (.cons _ _ _ _ _ (DLes.refl _) (.cons _ _ _ _ _ (DLes.refl _) (.cons _ _ _ _ _ (DLes.refl _) (.cons _ _ _ _ _ (DLes.refl _) (.cons _ _ _ _ _ (DLes.refl _) (.cons _ _ _ _ _ (DLes.refl _) .nil))))))) (by kernel_rfl) (by simp only [go_sem, qa, qb, qc, qd, qe, qf, qg, qh, qi, qj, qk, ↓reduceIte, resQ_tmp, resQ_cell, resQ_nil, retD_one, retD_two, retD_three, retD_none] <;> first | rfl | exact ⟨rfl, rfl⟩ | (try simp [R.val, retD_one, retD_two, retD_three, retD_none]))
    · refine W_sound tab_ok mixed 15 _ _ _ ?_
      simp -implicitDefEqProofs only [go_sem, qa, qb, qc, qd, qe, qf, qg, qh, qi, qj, qk, ↓reduceIte, h2512, g2515, h2516, h2518]
      repeat with_reducible refine ⟨by first | kernel_rfl | decide, ?_⟩
      have hh := bnd'_some h; clear h; obtain ⟨o2607, h2608, h2609⟩ := hh
      refine Wp_cut (fun s => ∃ c2597, ∃ n2598, ∃ n2599, ∃ c2600, ∃ c2601, (c2597, n2598, n2599, c2600, c2601) = o2607 ∧ s = ⟨[], [(0, .dead), (1, .dead), (2, .dead), (3, .dead), (4, .dead), (6, .dead), (7, .dead), (9, .dead), (13, .dead), (18, .dead), (19, .dead), (20, .dead), (25, .dead), (26, .dead), (27, .dead), (28, .dead), (43, .dead)], [(0, .p c2597), (1, .r [.sl false 6 0 n2598 1]), (3, .r [.sl false 4 0 n2599 1]), (4, .p c2600), (5, .r [.fn 79 [.ptr 0 0, .ptr 1 0, .ptr 3 0, .ptr 5 0]]), (6, .p c2601)], 7, []⟩) ?_ ?_
      · refine Wp_block ?_
        refine Wp_loopG (fun n s => ∃ x2559, ∃ c2560, ∃ n2561, ∃ n2562, ∃ c2563, ∃ c2564, m79_9_L0 N (m79_9 N fu) n2513 c2514 x2517 n x2559 c2560 n2561 n2562 c2563 c2564 = some o2607 ∧ s = ⟨[], [(0, .v (.lst false n2513 c2514)), (1, .dead), (2, .dead), (3, .ptr 3 0), (4, .ptr 5 0), (6, .dead), (7, .dead), (9, .dead), (13, .dead), (18, .v (.int .i64 x2517)), (19, .v (.int .i64 x2559)), (20, .dead), (25, .dead), (26, .dead), (27, .dead), (28, .dead), (43, .dead)], [(0, .p c2560), (1, .r [.sl false 6 0 n2561 1]), (3, .r [.sl false 4 0 n2562 1]), (4, .p c2563), (5, .r [.fn 79 [.ptr 0 0, .ptr 1 0, .ptr 3 0, .ptr 5 0]]), (6, .p c2564)], 7, []⟩) N _ ((Wk_le (.r (.k (.k (.r (.r (.r (.r (.r (.k (.r (.r (.r (.r (.r (.r (.r (.r .nil))))))))))))))))) (OLe.refl _)).trans (cmpS_ok (st' := ⟨[], [(0, .v (.lst false n2513 c2514)), (1, .dead), (2, .dead), (3, .ptr 3 0), (4, .ptr 5 0), (6, .dead), (7, .dead), (9, .dead), (13, .dead), (18, .v (.int .i64 x2517)), (19, .v (.int .i64 0)), (20, .dead), (25, .dead), (26, .dead), (27, .dead), (28, .dead), (43, .dead)], [(0, .p c2507), (1, .r [.sl false 6 0 n2508 1]), (3, .r [.sl false 4 0 n2510 1]), (4, .p c2511), (5, .r [.fn 79 [.ptr 0 0, .ptr 1 0, .ptr 3 0, .ptr 5 0]]), (6, .p c2509)], 7, []⟩) (by kernel_rfl))) ⟨_, _, _, _, _, _, h2608, rfl⟩ ?_
        clear h2608
        rintro n _ ⟨x2559, c2560, n2561, n2562, c2563, c2564, h2608, rfl⟩
        cases n with
        | zero => cases h2608
        | succ n =>
          rw [m79_9_L0] at h2608
          have hh := brn_some h2608; clear h2608; rcases hh with ⟨h2565, h2608⟩ | ⟨h2565, h2608⟩
          · have hh := bnd'_some h2608; clear h2608; obtain ⟨p2566, h2567, h2608⟩ := hh
            refine W_sound tab_ok mixed 18 _ _ _ ?_
            simp -implicitDefEqProofs only [go_sem, qa, qb, qc, qd, qe, qf, qg, qh, qi, qj, qk, ↓reduceIte, h2512, g2515, h2516, h2518, h2565]
            repeat with_reducible refine ⟨by first | kernel_rfl | decide, ?_⟩
            refine Wp_callP (c57 N _ _ _ h2567) (by kernel_rfl) rfl rfl rfl rfl (by decide) ?_
            have hh := getB_some h2608; clear h2608; obtain ⟨b2569, h2568, h2608⟩ := hh
            refine W_sound tab_ok mixed 9 _ _ _ ?_
            simp -implicitDefEqProofs only [go_sem, qa, qb, qc, qd, qe, qf, qg, qh, qi, qj, qk, ↓reduceIte, h2512, g2515, h2516, h2518, h2565, h2568]
            repeat with_reducible refine ⟨by first | kernel_rfl | decide, ?_⟩
            have hh := bnd'_some h2608; clear h2608; obtain ⟨o2610, h2611, h2612⟩ := hh
            refine Wp_cut (fun s => ∃ b2585, b2585 = o2610 ∧ s = ⟨[], [(0, .v (.lst false n2513 c2514)), (1, .dead), (2, .dead), (3, .ptr 3 0), (4, .ptr 5 0), (6, .v (.int .i64 x2559)), (7, .v (.bool b2585)), (9, .dead), (13, .dead), (18, .v (.int .i64 x2517)), (19, .v (.int .i64 x2559)), (20, .dead), (25, .dead), (26, .dead), (27, .dead), (28, .dead), (43, .dead)], [(0, .p c2560), (1, .r [.sl false 6 0 n2561 1]), (3, .r [.sl false 4 0 n2562 1]), (4, .p c2563), (5, .r [.fn 79 [.ptr 0 0, .ptr 1 0, .ptr 3 0, .ptr 5 0]]), (6, .p c2564)], 7, []⟩) ?_ ?_
            · refine Wp_block ?_
              refine Wp_loopG (fun n s => ∃ b2570, ∃ x2571, m79_9_L1 N (m79_9 N fu) n2513 c2514 x2517 x2559 c2560 n2561 n2562 c2563 c2564 n b2570 x2571 = some o2610 ∧ s = ⟨[], [(0, .v (.lst false n2513 c2514)), (1, .dead), (2, .dead), (3, .ptr 3 0), (4, .ptr 5 0), (6, .v (.int .i64 x2559)), (7, .v (.bool b2570)), (9, .dead), (13, .dead), (18, .v (.int .i64 x2517)), (19, .v (.int .i64 x2559)), (20, .dead), (25, .sl false 4 0 n2562 1), (26, .v (.int .i64 ((n2562 : Nat) : Int))), (27, .v (.int .i64 x2571)), (28, .dead), (43, .dead)], [(0, .p c2560), (1, .r [.sl false 6 0 n2561 1]), (3, .r [.sl false 4 0 n2562 1]), (4, .p c2563), (5, .r [.fn 79 [.ptr 0 0, .ptr 1 0, .ptr 3 0, .ptr 5 0]]), (6, .p c2564)], 7, []⟩) N _ ((Wk_le (.r (.r (.r (.r (.r (.r (.r (.r (.r (.r (.r (.k (.r (.r (.r (.r (.r .nil))))))))))))))))) (OLe.refl _)).trans (cmpS_ok (st' := ⟨[], [(0, .v (.lst false n2513 c2514)), (1, .dead), (2, .dead), (3, .ptr 3 0), (4, .ptr 5 0), (6, .v (.int .i64 x2559)), (7, .v (.bool b2569)), (9, .dead), (13, .dead), (18, .v (.int .i64 x2517)), (19, .v (.int .i64 x2559)), (20, .dead), (25, .sl false 4 0 n2562 1), (26, .v (.int .i64 ((n2562 : Nat) : Int))), (27, .v (.int .i64 0)), (28, .dead), (43, .dead)], [(0, .p c2560), (1, .r [.sl false 6 0 n2561 1]), (3, .r [.sl false 4 0 n2562 1]), (4, .p c2563), (5, .r [.fn 79 [.ptr 0 0, .ptr 1 0, .ptr 3 0, .ptr 5 0]]), (6, .p c2564)], 7, []⟩) (by kernel_rfl))) ⟨_, _, h2611, rfl⟩ ?_
              clear h2611
              rintro n _ ⟨b2570, x2571, h2611, rfl⟩
              cases n with
              | zero => cases h2611
              | succ n =>
                rw [m79_9_L1] at h2611
                have hh := brn_some h2611; clear h2611; rcases hh with ⟨h2572, h2611⟩ | ⟨h2572, h2611⟩
                · have hh := grd_some h2611; clear h2611; obtain ⟨⟨g2573, g2574⟩, h2611⟩ := hh
                  have hh := grd_some h2611; clear h2611; obtain ⟨g2575, h2611⟩ := hh
                  have hh := getL_some h2611; clear h2611; obtain ⟨n2577, c2578, h2576, h2611⟩ := hh
                  have hh := brn_some h2611; clear h2611; rcases hh with ⟨h2579, h2611⟩ | ⟨h2579, h2611⟩
                  · refine W_sound tab_ok mixed 33 _ _ _ ?_
                    simp -implicitDefEqProofs only [go_sem, qa, qb, qc, qd, qe, qf, qg, qh, qi, qj, qk, ↓reduceIte, h2512, g2515, h2516, h2518, h2565, h2568, h2572, g2573, g2574, g2575, h2576, h2579]
                    repeat with_reducible refine ⟨by first | kernel_rfl | decide, ?_⟩
                    exact cutQ _ ((Wk_le (.r (.r (.r (.r (.r (.r (.r (.k (.r (.r (.r (.r (.r (.r (.r (.k (.r .nil))))))))))))))))) (OLe.refl _)).trans (cmpS_ok (st' := ⟨[], [(0, .v (.lst false n2513 c2514)), (1, .dead), (2, .dead), (3, .ptr 3 0), (4, .ptr 5 0), (6, .v (.int .i64 x2559)), (7, .v (.bool true)), (9, .dead), (13, .dead), (18, .v (.int .i64 x2517)), (19, .v (.int .i64 x2559)), (20, .dead), (25, .sl false 4 0 n2562 1), (26, .v (.int .i64 ((n2562 : Nat) : Int))), (27, .v (.int .i64 (IntKind.i64.wrap (x2571 + 1)))), (28, .dead), (43, .dead)], [(0, .p c2560), (1, .r [.sl false 6 0 n2561 1]), (3, .r [.sl false 4 0 n2562 1]), (4, .p c2563), (5, .r [.fn 79 [.ptr 0 0, .ptr 1 0, .ptr 3 0, .ptr 5 0]]), (6, .p c2564)], 7, []⟩) (by kernel_rfl))) ⟨n, Nat.lt_succ_self n, _, _, h2611, rfl⟩
                  · have hh := grd_some h2611; clear h2611; obtain ⟨⟨g2580, g2581⟩, h2611⟩ := hh
                    have hh := grd_some h2611; clear h2611; obtain ⟨g2582, h2611⟩ := hh
                    have hh := getI_some h2611; clear h2611; obtain ⟨x2584, h2583, h2611⟩ := hh
                    refine W_sound tab_ok mixed 33 _ _ _ ?_
                    simp -implicitDefEqProofs only [go_sem, qa, qb, qc, qd, qe, qf, qg, qh, qi, qj, qk, ↓reduceIte, h2512, g2515, h2516, h2518, h2565, h2568, h2572, g2573, g2574, g2575, h2576, h2579, g2580, g2581, g2582, h2583]
                    repeat with_reducible refine ⟨by first | kernel_rfl | decide, ?_⟩
                    exact cutQ _ ((Wk_le (.r (.r (.r (.r (.r (.r (.r (.k (.r (.r (.r (.r (.r (.r (.r (.k (.r .nil))))))))))))))))) (OLe.refl _)).trans (cmpS_ok (st' := ⟨[], [(0, .v (.lst false n2513 c2514)), (1, .dead), (2, .dead), (3, .ptr 3 0), (4, .ptr 5 0), (6, .v (.int .i64 x2559)), (7, .v (.bool (x2584 == x2559))), (9, .dead), (13, .dead), (18, .v (.int .i64 x2517)), (19, .v (.int .i64 x2559)), (20, .dead), (25, .sl false 4 0 n2562 1), (26, .v (.int .i64 ((n2562 : Nat) : Int))), (27, .v (.int .i64 (IntKind.i64.wrap (x2571 + 1)))), (28, .dead), (43, .dead)], [(0, .p c2560), (1, .r [.sl false 6 0 n2561 1]), (3, .r [.sl false 4 0 n2562 1]), (4, .p c2563), (5, .r [.fn 79 [.ptr 0 0, .ptr 1 0, .ptr 3 0, .ptr 5 0]]), (6, .p c2564)], 7, []⟩) (by kernel_rfl))) ⟨n, Nat.lt_succ_self n, _, _, h2611, rfl⟩
                · refine W_sound tab_ok mixed 7 _ _ _ ?_
                  simp -implicitDefEqProofs only [go_sem, qa, qb, qc, qd, qe, qf, qg, qh, qi, qj, qk, ↓reduceIte, h2512, g2515, h2516, h2518, h2565, h2568, h2572]
                  repeat with_reducible refine ⟨by first | kernel_rfl | decide, ?_⟩
                  obtain rfl := Option.some.inj h2611
                  exact cutQ _ ((Wk_le (.r (.r (.r (.r (.r (.r (.r (.r (.r (.r (.r (.r (.k (.k (.k (.k (.r .nil))))))))))))))))) (OLe.refl _)).trans (cmpS_ok (st' := ⟨[], [(0, .v (.lst false n2513 c2514)), (1, .dead), (2, .dead), (3, .ptr 3 0), (4, .ptr 5 0), (6, .v (.int .i64 x2559)), (7, .v (.bool b2570)), (9, .dead), (13, .dead), (18, .v (.int .i64 x2517)), (19, .v (.int .i64 x2559)), (20, .dead), (25, .dead), (26, .dead), (27, .dead), (28, .dead), (43, .dead)], [(0, .p c2560), (1, .r [.sl false 6 0 n2561 1]), (3, .r [.sl false 4 0 n2562 1]), (4, .p c2563), (5, .r [.fn 79 [.ptr 0 0, .ptr 1 0, .ptr 3 0, .ptr 5 0]]), (6, .p c2564)], 7, []⟩) (by kernel_rfl))) ⟨_, rfl, rfl⟩
            · rintro _ ⟨b2585, rfl, rfl⟩
              have hh := brn_some h2612; clear h2612; rcases hh with ⟨h2586, h2612⟩ | ⟨h2586, h2612⟩
              · refine W_sound tab_ok mixed 12 _ _ _ ?_
                simp -implicitDefEqProofs only [go_sem, qa, qb, qc, qd, qe, qf, qg, qh, qi, qj, qk, ↓reduceIte, h2512, g2515, h2516, h2518, h2565, h2568, h2586]
                repeat with_reducible refine ⟨by first | kernel_rfl | decide, ?_⟩
                exact cutQ _ ((Wk_le (.r (.r (.r (.r (.r (.k (.k (.r (.r (.r (.r (.r (.r (.r (.r (.r (.k .nil))))))))))))))))) (OLe.refl _)).trans (cmpS_ok (st' := ⟨[], [(0, .v (.lst false n2513 c2514)), (1, .dead), (2, .dead), (3, .ptr 3 0), (4, .ptr 5 0), (6, .dead), (7, .dead), (9, .dead), (13, .dead), (18, .v (.int .i64 x2517)), (19, .v (.int .i64 (IntKind.i64.wrap (x2559 + 1)))), (20, .dead), (25, .dead), (26, .dead), (27, .dead), (28, .dead), (43, .dead)], [(0, .p c2560), (1, .r [.sl false 6 0 n2561 1]), (3, .r [.sl false 4 0 n2562 1]), (4, .p c2563), (5, .r [.fn 79 [.ptr 0 0, .ptr 1 0, .ptr 3 0, .ptr 5 0]]), (6, .p c2564)], 7, []⟩) (by kernel_rfl))) ⟨n, Nat.lt_succ_self n, _, _, _, _, _, _, h2612, rfl⟩
              · have hh := grd_some h2612; clear h2612; obtain ⟨⟨g2587, g2588⟩, h2612⟩ := hh
                have hh := grd_some h2612; clear h2612; obtain ⟨g2589, h2612⟩ := hh
                have hh := grd_some h2612; clear h2612; obtain ⟨g2590, h2612⟩ := hh
                have hh := bnd'_some h2612; clear h2612; obtain ⟨⟨c2592, n2593, n2594, c2595, c2596⟩, h2591, h2612⟩ := hh
                (try dsimp only at h2612)
                refine W_sound tab_ok mixed 17 _ _ _ ?_
                simp -implicitDefEqProofs only [go_sem, qa, qb, qc, qd, qe, qf, qg, qh, qi, qj, qk, ↓reduceIte, h2512, g2515, h2516, h2518, h2565, h2568, h2586, g2587, g2588, g2589, g2590]
                repeat with_reducible refine ⟨by first | kernel_rfl | decide, ?_⟩
                refine Wp_callDF [(60, (c2514 ++ [(.int .i64 x2559)]))] [0, 1, 6, 3, 4, 5] (ih _ _ _ _ _ _ _ h2591) rfl rfl rfl (by first | rfl | (simp only [go_sem, qa, qb, qc, qd, qe, qf, qg, qh, qi, qj, qk, ↓reduceIte, h2512, g2515, h2516, h2518, h2565, h2568, h2586, g2587, g2588, g2589, g2590] <;> rfl)) rfl (by kernel_rfl) rfl rfl (by simp [roF, obL]) ?_
                refine W_sound tab_ok mixed 6 _ _ _ ?_
                simp -implicitDefEqProofs only [go_sem, qa, qb, qc, qd, qe, qf, qg, qh, qi, qj, qk, ↓reduceIte, h2512, g2515, h2516, h2518, h2565, h2568, h2586, g2587, g2588, g2589, g2590]
                repeat with_reducible refine ⟨by first | kernel_rfl | decide, ?_⟩
                exact cutQ _ ((Wk_le (.r (.r (.r (.r (.r (.k (.k (.r (.r (.r (.r (.r (.r (.r (.r (.r (.k .nil))))))))))))))))) (OLe.refl _)).trans (cmpS_ok (st' := ⟨[], [(0, .v (.lst false n2513 c2514)), (1, .dead), (2, .dead), (3, .ptr 3 0), (4, .ptr 5 0), (6, .dead), (7, .dead), (9, .dead), (13, .dead), (18, .v (.int .i64 x2517)), (19, .v (.int .i64 (IntKind.i64.wrap (x2559 + 1)))), (20, .dead), (25, .dead), (26, .dead), (27, .dead), (28, .dead), (43, .dead)], [(0, .p c2592), (1, .r [.sl false 6 0 n2593 1]), (3, .r [.sl false 4 0 n2594 1]), (4, .p c2595), (5, .r [.fn 79 [.ptr 0 0, .ptr 1 0, .ptr 3 0, .ptr 5 0]]), (6, .p c2596)], 7, []⟩) (by kernel_rfl))) ⟨n, Nat.lt_succ_self n, _, _, _, _, _, _, h2612, rfl⟩
          · refine W_sound tab_ok mixed 7 _ _ _ ?_
            simp -implicitDefEqProofs only [go_sem, qa, qb, qc, qd, qe, qf, qg, qh, qi, qj, qk, ↓reduceIte, h2512, g2515, h2516, h2518, h2565]
            repeat with_reducible refine ⟨by first | kernel_rfl | decide, ?_⟩
            obtain rfl := Option.some.inj h2608
            exact cutQ _ ((Wk_le (.k (.r (.r (.k (.k (.r (.r (.r (.r (.k (.k (.k (.r (.r (.r (.r (.r .nil))))))))))))))))) (OLe.refl _)).trans (cmpS_ok (st' := ⟨[], [(0, .dead), (1, .dead), (2, .dead), (3, .dead), (4, .dead), (6, .dead), (7, .dead), (9, .dead), (13, .dead), (18, .dead), (19, .dead), (20, .dead), (25, .dead), (26, .dead), (27, .dead), (28, .dead), (43, .dead)], [(0, .p c2560), (1, .r [.sl false 6 0 n2561 1]), (3, .r [.sl false 4 0 n2562 1]), (4, .p c2563), (5, .r [.fn 79 [.ptr 0 0, .ptr 1 0, .ptr 3 0, .ptr 5 0]]), (6, .p c2564)], 7, []⟩) (by kernel_rfl))) ⟨_, _, _, _, _, rfl, rfl⟩
      · rintro _ ⟨c2597, n2598, n2599, c2600, c2601, rfl, rfl⟩
        (try dsimp only at h2609)
        refine W_sound tab_ok mixed 1 _ _ _ ?_
        simp -implicitDefEqProofs only [go_sem, qa, qb, qc, qd, qe, qf, qg, qh, qi, qj, qk, ↓reduceIte, h2512, g2515, h2516, h2518]
        repeat with_reducible refine ⟨by first | kernel_rfl | decide, ?_⟩
        obtain rfl := Option.some.inj h2609
        exact finD (e2 := [(0, .dead), (1, .dead), (2, .dead), (3, .dead), (4, .dead), (6, .dead), (7, .dead), (9, .dead), (13, .dead), (18, .dead), (19, .dead), (20, .dead), (25, .dead), (26, .dead), (27, .dead), (28, .dead), (43, .dead)]) (ob2 := [(0, .p c2597), (1, .r [.sl false 6 0 n2598 1]), (3, .r [.sl false 4 0 n2599 1]), (4, .p c2600), (5, .r [.fn 79 [.ptr 0 0, .ptr 1 0, .ptr 3 0, .ptr 5 0]]), (6, .p c2601)]) (st' := ⟨[], [(0, .dead), (1, .dead), (2, .dead), (3, .dead), (4, .dead), (6, .dead), (7, .dead), (9, .dead), (13, .dead), (18, .dead), (19, .dead), (20, .dead), (25, .dead), (26, .dead), (27, .dead), (28, .dead), (43, .dead)], [(0, .p c2597), (1, .r [.sl false 6 0 n2598 1]), (3, .r [.sl false 4 0 n2599 1]), (4, .p c2600), (5, .r [.fn 79 [.ptr 0 0, .ptr 1 0, .ptr 3 0, .ptr 5 0]]), (6, .p c2601)], 7, []⟩) (.r (.r (.r (.r (.r (.r (.r (.r (.r (.r (.r (.r (.r (.r (.r (.r (.r .nil))))))))))))))))) (.cons _ _ _ _ _ (DLes.refl _) (.cons _ _ _ _ _ (DLes.refl _) (.cons _ _ _ _ _ (DLes.refl _) (.cons _ _ _ _ _ (DLes.refl _) (.cons _ _ _ _ _ (DLes.refl _) (.cons _ _ _ _ _ (DLes.refl _) .nil)))))) (by kernel_rfl) (by simp only [go_sem, qa, qb, qc, qd, qe, qf, qg, qh, qi, qj, qk, ↓reduceIte, resQ_tmp, resQ_cell, resQ_nil, retD_one, retD_two, retD_three, retD_none] <;> first | rfl | exact ⟨rfl, rfl⟩ | (try simp [R.val, retD_one, retD_two, retD_three, retD_none]))
theorem c79_9_a (N : Nat) (fu : Nat) (p2506 : PV) (c2507 : List PV) (n2508 : Nat) (c2509 : List PV) (n2510 : Nat) (c2511 : List PV) (c2420 : List PV) (n2421 : Nat) (n2422 : Nat) (c2423 : List PV) (c2424 : List PV) (h : m79_9 N fu p2506 c2507 n2508 c2509 n2510 c2511 = some (c2420, n2421, n2422, c2423, c2424)) : V.Fn Tryd.prog 79 6 [.v p2506, .ptr 0 0, .ptr 1 0, .ptr 3 0, .ptr 5 0] [(0, .p c2507), (1, .r [.sl false 2 0 n2508 1]), (2, .p c2509), (3, .r [.sl false 4 0 n2510 1]), (4, .p c2511), (5, .r [.fn 79 [.ptr 0 0, .ptr 1 0, .ptr 3 0, .ptr 5 0]])] (fun d ob' => d = .v (.tup []) ∧ ob' = [(0, .p c2420), (1, .r [.sl false 6 0 n2421 1]), (3, .r [.sl false 4 0 n2422 1]), (4, .p c2423), (5, .r [.fn 79 [.ptr 0 0, .ptr 1 0, .ptr 3 0, .ptr 5 0]]), (6, .p c2424)]) := c79_9 N fu p2506 c2507 n2508 c2509 n2510 c2511 _ h
def m79_7_L1 (N : Nat) (x2299 : Int) (x2742 : Int) (c2743 : List PV) (n2744 : Nat) (n2745 : Nat) (c2746 : List PV) (c2747 : List PV) : Nat → Bool → Int → Option (Bool)
  | 0, _, _ => none
  | n + 1, b2753, x2754 =>
    brn (decide (x2754 < ((n2745 : Nat) : Int))) (
      grd (0 ≤ x2754 ∧ x2754 < ((n2745 : Nat) : Int)) <|
      grd ((Int.toNat x2754) < List.length c2746) <|
      getL (gp c2746 (Int.toNat x2754)) fun n2760 c2761 =>
      brn b2753 (
        m79_7_L1 N x2299 x2742 c2743 n2744 n2745 c2746 c2747 n true (IntKind.i64.wrap (x2754 + 1))) (
        grd (0 < ((n2760 : Nat) : Int)) <|
        grd (0 < List.length c2761) <|
        getI .i64 (gp c2761 0) fun x2766 =>
        m79_7_L1 N x2299 x2742 c2743 n2744 n2745 c2746 c2747 n (x2766 == x2742) (IntKind.i64.wrap (x2754 + 1)))) (
      some b2753)
def m79_7_L0 (N : Nat) (x2299 : Int) : Nat → Int → List PV → Nat → Nat → List PV → List PV → Option ((List PV × Nat × Nat × List PV × List PV))
  | 0, _, _, _, _, _, _ => none
  | n + 1, x2742, c2743, n2744, n2745, c2746, c2747 =>
    brn (decide (x2742 < x2299)) (
      bnd' (m57 N (.lst false 0 []) x2742) fun p2749 =>
      getB p2749 fun b2752 =>
      bnd' (m79_7_L1 N x2299 x2742 c2743 n2744 n2745 c2746 c2747 N b2752 0) fun b2767 =>
      brn b2767 (
        m79_7_L0 N x2299 n (IntKind.i64.wrap (x2742 + 1)) c2743 n2744 n2745 c2746 c2747) (
        bnd' (m79_9 N N (.lst false 1 [(.int .i64 x2742)]) c2743 n2744 c2747 n2745 c2746) fun o =>
        match o with
        | (c2770, n2771, n2772, c2773, c2774) =>
          m79_7_L0 N x2299 n (IntKind.i64.wrap (x2742 + 1)) c2770 n2771 n2772 c2773 c2774)) (
      some (c2743, n2744, n2745, c2746, c2747))
def m79_7 (N : Nat) (x2299 : Int) (n2300 : Nat) (c2301 : List PV) : Option (((List PV × Nat × List PV × List PV) ⊕ (List PV × Nat × Nat × List PV × List PV))) :=
  brn (0 == x2299) (
    some (.inl ([(.int .i64 x2299)], n2300, c2301, [(.lst false 0 [])]))) (
    bnd' (m79_7_L0 N x2299 N 0 [(.int .i64 x2299)] 0 n2300 c2301 []) fun o =>
    match o with
    | (c2775, n2776, n2777, c2778, c2779) =>
      some (.inr (c2775, n2776, n2777, c2778, c2779)))
theorem c79_7 (N : Nat) (x2299 : Int) (n2300 : Nat) (c2301 : List PV) (r : ((List PV × Nat × List PV × List PV) ⊕ (List PV × Nat × Nat × List PV × List PV)))  (h : m79_7 N x2299 n2300 c2301 = some r) : V.Fn Tryd.prog 79 6 [.v .nl, .ptr 0 0, .ptr 1 0, .ptr 3 0, .ptr 5 0] [(0, .p [(.int .i64 x2299)]), (1, .r [.sl false 2 0 0 1]), (2, .p []), (3, .r [.sl false 4 0 n2300 1]), (4, .p c2301), (5, .r [.fn 79 [.ptr 0 0, .ptr 1 0, .ptr 3 0, .ptr 5 0]])] (fun d ob' => match (generalizing := false) r with | .inl (c2303, n2304, c2305, c2306) => d = .v (.tup []) ∧ ob' = [(0, .p c2303), (1, .r [.sl false 6 0 1 1]), (3, .r [.sl false 4 0 n2304 1]), (4, .p c2305), (5, .r [.fn 79 [.ptr 0 0, .ptr 1 0, .ptr 3 0, .ptr 5 0]]), (6, .p c2306)] | .inr (c2780, n2781, n2782, c2783, c2784) => d = .v (.tup []) ∧ ob' = [(0, .p c2780), (1, .r [.sl false 6 0 n2781 1]), (3, .r [.sl false 4 0 n2782 1]), (4, .p c2783), (5, .r [.fn 79 [.ptr 0 0, .ptr 1 0, .ptr 3 0, .ptr 5 0]]), (6, .p c2784)]) := by
  unfold m79_7 at h
  refine Fn_of (sz := 56) tab_ok [0, 1, 2, 3, 4, 6, 7, 9, 13, 18, 19, 20, 25, 26, 27, 28, 43] [] Tryd.func79 rfl rfl rfl (by simp) ?_
  simp only [initSt, initEnv, List.map_cons, List.map_nil, List.getD_cons_zero, List.getD_cons_succ, List.getD_nil]
  refine Wp_wkK (cmpT_ok (st' := ⟨[], [(0, .v .nl), (1, .ptr 0 0), (2, .ptr 1 0), (3, .ptr 3 0), (4, .ptr 5 0), (6, .dead), (7, .dead), (9, .dead), (13, .dead), (18, .dead), (19, .dead), (20, .dead), (25, .dead), (26, .dead), (27, .dead), (28, .dead), (43, .dead)], [(0, .p [(.int .i64 x2299)]), (1, .r [.sl false 6 0 0 1]), (3, .r [.sl false 4 0 n2300 1]), (4, .p c2301), (5, .r [.fn 79 [.ptr 0 0, .ptr 1 0, .ptr 3 0, .ptr 5 0]]), (6, .p [])], 7, []⟩) [0, 1, 1000000002, 3, 4, 5, 2] (by kernel_rfl)) rfl ?_
  have hh := brn_some h; clear h; rcases hh with ⟨h2302, h⟩ | ⟨h2302, h⟩
  · refine W_sound tab_ok mixed 19 _ _ _ ?_
    simp -implicitDefEqProofs only [go_sem, qa, qb, qc, qd, qe, qf, qg, qh, qi, qj, qk, ↓reduceIte, h2302]
    repeat with_reducible refine ⟨by first | kernel_rfl | decide, ?_⟩
    obtain rfl := Option.some.inj h
    exact finD (e2 := [(0, .dead), (1, .dead), (2, .dead), (3, .dead), (4, .dead), (6, .dead), (7, .dead), (9, .dead), (13, .dead), (18, .dead), (19, .dead), (20, .dead), (25, .dead), (26, .dead), (27, .dead), (28, .dead), (43, .dead)]) (ob2 := [(0, .p [(.int .i64 x2299)]), (1, .r [.sl false 24 0 1 1]), (3, .r [.sl false 4 0 n2300 1]), (4, .p c2301), (5, .r [.fn 79 [.ptr 0 0, .ptr 1 0, .ptr 3 0, .ptr 5 0]]), (23, .p [.nl]), (24, .p [(.lst false 0 [])])]) (st' := ⟨[], [(0, .dead), (1, .dead), (2, .dead), (3, .dead), (4, .dead), (6, .dead), (7, .dead), (9, .dead), (13, .dead), (18, .dead), (19, .dead), (20, .dead), (25, .dead), (26, .dead), (27, .dead), (28, .dead), (43, .dead)], [(0, .p [(.int .i64 x2299)]), (1, .r [.sl false 6 0 1 1]), (3, .r [.sl false 4 0 n2300 1]), (4, .p c2301), (5, .r [.fn 79 [.ptr 0 0, .ptr 1 0, .ptr 3 0, .ptr 5 0]]), (6, .p [(.lst false 0 [])])], 7, []⟩) (.k (.k (.k (.k (.k (.r (.r (.r (.k (.r (.r (.r (.r (.r (.r (.r (.r .nil))))))))))))))))) (.cons _ _ _ _ _ (DLes.refl _) (.cons _ _ _ _ _ (DLes.refl _) (.cons _ _ _ _ _ (DLes.refl _) (.cons _ _ _ _ _ (DLes.refl _) (.cons _ _ _ _ _ (DLes.refl _) (.cons _ _ _ _ _ (DLes.refl _) (.cons _ _ _ _ _ (DLes.of_p (.cons _ _ _ _ (.nl false) .nil)) .nil))))))) (by kernel_rfl) (by simp only [go_sem, qa, qb, qc, qd, qe, qf, qg, qh, qi, qj, qk, ↓reduceIte, resQ_tmp, resQ_cell, resQ_nil, retD_one, retD_two, retD_three, retD_none] <;> first | rfl | exact ⟨rfl, rfl⟩ | (try simp [R.val, retD_one, retD_two, retD_three, retD_none]))
  · refine W_sound tab_ok mixed 15 _ _ _ ?_
    simp -implicitDefEqProofs only [go_sem, qa, qb, qc, qd, qe, qf, qg, qh, qi, qj, qk, ↓reduceIte, h2302]
    repeat with_reducible refine ⟨by first | kernel_rfl | decide, ?_⟩
    have hh := bnd'_some h; clear h; obtain ⟨o2785, h2786, h2787⟩ := hh
    refine Wp_cut (fun s => ∃ c2775, ∃ n2776, ∃ n2777, ∃ c2778, ∃ c2779, (c2775, n2776, n2777, c2778, c2779) = o2785 ∧ s = ⟨[], [(0, .dead), (1, .dead), (2, .dead), (3, .dead), (4, .dead), (6, .dead), (7, .dead), (9, .dead), (13, .dead), (18, .dead), (19, .dead), (20, .dead), (25, .dead), (26, .dead), (27, .dead), (28, .dead), (43, .dead)], [(0, .p c2775), (1, .r [.sl false 6 0 n2776 1]), (3, .r [.sl false 4 0 n2777 1]), (4, .p c2778), (5, .r [.fn 79 [.ptr 0 0, .ptr 1 0, .ptr 3 0, .ptr 5 0]]), (6, .p c2779)], 7, []⟩) ?_ ?_
    · refine Wp_block ?_
      refine Wp_loopG (fun n s => ∃ x2742, ∃ c2743, ∃ n2744, ∃ n2745, ∃ c2746, ∃ c2747, m79_7_L0 N x2299 n x2742 c2743 n2744 n2745 c2746 c2747 = some o2785 ∧ s = ⟨[], [(0, .v .nl), (1, .dead), (2, .dead), (3, .ptr 3 0), (4, .ptr 5 0), (6, .dead), (7, .dead), (9, .dead), (13, .dead), (18, .v (.int .i64 x2299)), (19, .v (.int .i64 x2742)), (20, .dead), (25, .dead), (26, .dead), (27, .dead), (28, .dead), (43, .dead)], [(0, .p c2743), (1, .r [.sl false 6 0 n2744 1]), (3, .r [.sl false 4 0 n2745 1]), (4, .p c2746), (5, .r [.fn 79 [.ptr 0 0, .ptr 1 0, .ptr 3 0, .ptr 5 0]]), (6, .p c2747)], 7, []⟩) N _ ((Wk_le (.r (.k (.k (.r (.r (.r (.r (.r (.k (.r (.r (.r (.r (.r (.r (.r (.r .nil))))))))))))))))) (OLe.refl _)).trans (cmpS_ok (st' := ⟨[], [(0, .v .nl), (1, .dead), (2, .dead), (3, .ptr 3 0), (4, .ptr 5 0), (6, .dead), (7, .dead), (9, .dead), (13, .dead), (18, .v (.int .i64 x2299)), (19, .v (.int .i64 0)), (20, .dead), (25, .dead), (26, .dead), (27, .dead), (28, .dead), (43, .dead)], [(0, .p [(.int .i64 x2299)]), (1, .r [.sl false 6 0 0 1]), (3, .r [.sl false 4 0 n2300 1]), (4, .p c2301), (5, .r [.fn 79 [.ptr 0 0, .ptr 1 0, .ptr 3 0, .ptr 5 0]]), (6, .p [])], 7, []⟩) (by kernel_rfl))) ⟨_, _, _, _, _, _, h2786, rfl⟩ ?_
      clear h2786
      rintro n _ ⟨x2742, c2743, n2744, n2745, c2746, c2747, h2786, rfl⟩
      cases n with
      | zero => cases h2786
      | succ n =>
        rw [m79_7_L0] at h2786
        have hh := brn_some h2786; clear h2786; rcases hh with ⟨h2748, h2786⟩ | ⟨h2748, h2786⟩
        · have hh := bnd'_some h2786; clear h2786; obtain ⟨p2749, h2750, h2786⟩ := hh
          refine W_sound tab_ok mixed 18 _ _ _ ?_
          simp -implicitDefEqProofs only [go_sem, qa, qb, qc, qd, qe, qf, qg, qh, qi, qj, qk, ↓reduceIte, h2302, h2748]
          repeat with_reducible refine ⟨by first | kernel_rfl | decide, ?_⟩
          refine Wp_callP (FnP_le (c57 N _ _ _ h2750) (.cons _ _ _ _ (.nl false) (.cons _ _ _ _ (.refl _) .nil)) (.refl _)) (by kernel_rfl) rfl rfl rfl rfl (by decide) ?_
          have hh := getB_some h2786; clear h2786; obtain ⟨b2752, h2751, h2786⟩ := hh
          refine W_sound tab_ok mixed 9 _ _ _ ?_
          simp -implicitDefEqProofs only [go_sem, qa, qb, qc, qd, qe, qf, qg, qh, qi, qj, qk, ↓reduceIte, h2302, h2748, h2751]
          repeat with_reducible refine ⟨by first | kernel_rfl | decide, ?_⟩
          have hh := bnd'_some h2786; clear h2786; obtain ⟨o2788, h2789, h2790⟩ := hh
          refine Wp_cut (fun s => ∃ b2767, b2767 = o2788 ∧ s = ⟨[], [(0, .v .nl), (1, .dead), (2, .dead), (3, .ptr 3 0), (4, .ptr 5 0), (6, .v (.int .i64 x2742)), (7, .v (.bool b2767)), (9, .dead), (13, .dead), (18, .v (.int .i64 x2299)), (19, .v (.int .i64 x2742)), (20, .dead), (25, .dead), (26, .dead), (27, .dead), (28, .dead), (43, .dead)], [(0, .p c2743), (1, .r [.sl false 6 0 n2744 1]), (3, .r [.sl false 4 0 n2745 1]), (4, .p c2746), (5, .r [.fn 79 [.ptr 0 0, .ptr 1 0, .ptr 3 0, .ptr 5 0]]), (6, .p c2747)], 7, []⟩) ?_ ?_
          · refine Wp_block ?_
            refine Wp_loopG (fun n s => ∃ b2753, ∃ x2754, m79_7_L1 N x2299 x2742 c2743 n2744 n2745 c2746 c2747 n b2753 x2754 = some o2788 ∧ s = ⟨[], [(0, .v .nl), (1, .dead), (2, .dead), (3, .ptr 3 0), (4, .ptr 5 0), (6, .v (.int .i64 x2742)), (7, .v (.bool b2753)), (9, .dead), (13, .dead), (18, .v (.int .i64 x2299)), (19, .v (.int .i64 x2742)), (20, .dead), (25, .sl false 4 0 n2745 1), (26, .v (.int .i64 ((n2745 : Nat) : Int))), (27, .v (.int .i64 x2754)), (28, .dead), (43, .dead)], [(0, .p c2743), (1, .r [.sl false 6 0 n2744 1]), (3, .r [.sl false 4 0 n2745 1]), (4, .p c2746), (5, .r [.fn 79 [.ptr 0 0, .ptr 1 0, .ptr 3 0, .ptr 5 0]]), (6, .p c2747)], 7, []⟩) N _ ((Wk_le (.r (.r (.r (.r (.r (.r (.r (.r (.r (.r (.r (.k (.r (.r (.r (.r (.r .nil))))))))))))))))) (OLe.refl _)).trans (cmpS_ok (st' := ⟨[], [(0, .v .nl), (1, .dead), (2, .dead), (3, .ptr 3 0), (4, .ptr 5 0), (6, .v (.int .i64 x2742)), (7, .v (.bool b2752)), (9, .dead), (13, .dead), (18, .v (.int .i64 x2299)), (19, .v (.int .i64 x2742)), (20, .dead), (25, .sl false 4 0 n2745 1), (26, .v (.int .i64 ((n2745 : Nat) : Int))), (27, .v (.int .i64 0)), (28, .dead), (43, .dead)], [(0, .p c2743), (1, .r [.sl false 6 0 n2744 1]), (3, .r [.sl false 4 0 n2745 1]), (4, .p c2746), (5, .r [.fn 79 [.ptr 0 0, .ptr 1 0, .ptr 3 0, .ptr 5 0]]), (6, .p c2747)], 7, []⟩) (by kernel_rfl))) ⟨_, _, h2789, rfl⟩ ?_
            clear h2789
            rintro n _ ⟨b2753, x2754, h2789, rfl⟩
            cases n with
            | zero => cases h2789
            | succ n =>
              rw [m79_7_L1] at h2789
              have hh := brn_some h2789; clear h2789; rcases hh with ⟨h2755, h2789⟩ | ⟨h2755, h2789⟩
              · have hh := grd_some h2789; clear h2789; obtain ⟨⟨g2756, g2757⟩, h2789⟩ := hh
                have hh := grd_some h2789; clear h2789; obtain ⟨g2758, h2789⟩ := hh
                have hh := getL_some h2789; clear h2789; obtain ⟨n2760, c2761, h2759, h2789⟩ := hh
                have hh := brn_some h2789; clear h2789; rcases hh with ⟨h2762, h2789⟩ | ⟨h2762, h2789⟩
                · refine W_sound tab_ok mixed 33 _ _ _ ?_
                  simp -implicitDefEqProofs only [go_sem, qa, qb, qc, qd, qe, qf, qg, qh, qi, qj, qk, ↓reduceIte, h2302, h2748, h2751, h2755, g2756, g2757, g2758, h2759, h2762]
                  repeat with_reducible refine ⟨by first | kernel_rfl | decide, ?_⟩
                  exact cutQ _ ((Wk_le (.r (.r (.r (.r (.r (.r (.r (.k (.r (.r (.r (.r (.r (.r (.r (.k (.r .nil))))))))))))))))) (OLe.refl _)).trans (cmpS_ok (st' := ⟨[], [(0, .v .nl), (1, .dead), (2, .dead), (3, .ptr 3 0), (4, .ptr 5 0), (6, .v (.int .i64 x2742)), (7, .v (.bool true)), (9, .dead), (13, .dead), (18, .v (.int .i64 x2299)), (19, .v (.int .i64 x2742)), (20, .dead), (25, .sl false 4 0 n2745 1), (26, .v (.int .i64 ((n2745 : Nat) : Int))), (27, .v (.int .i64 (IntKind.i64.wrap (x2754 + 1)))), (28, .dead), (43, .dead)], [(0, .p c2743), (1, .r [.sl false 6 0 n2744 1]), (3, .r [.sl false 4 0 n2745 1]), (4, .p c2746), (5, .r [.fn 79 [.ptr 0 0, .ptr 1 0, .ptr 3 0, .ptr 5 0]]), (6, .p c2747)], 7, []⟩) (by kernel_rfl))) ⟨n, Nat.lt_succ_self n, _, _, h2789, rfl⟩
                · have hh := grd_some h2789; clear h2789; obtain ⟨g2763, h2789⟩ := hh
                  have hh := grd_some h2789; clear h2789; obtain ⟨g2764, h2789⟩ := hh
                  have hh := getI_some h2789; clear h2789; obtain ⟨x2766, h2765, h2789⟩ := hh
                  refine W_sound tab_ok mixed 33 _ _ _ ?_
                  simp -implicitDefEqProofs only [go_sem, qa, qb, qc, qd, qe, qf, qg, qh, qi, qj, qk, ↓reduceIte, h2302, h2748, h2751, h2755, g2756, g2757, g2758, h2759, h2762, g2763, g2764, h2765]
                  repeat with_reducible refine ⟨by first | kernel_rfl | decide, ?_⟩
                  exact cutQ _ ((Wk_le (.r (.r (.r (.r (.r (.r (.r (.k (.r (.r (.r (.r (.r (.r (.r (.k (.r .nil))))))))))))))))) (OLe.refl _)).trans (cmpS_ok (st' := ⟨[], [(0, .v .nl), (1, .dead), (2, .dead), (3, .ptr 3 0), (4, .ptr 5 0), (6, .v (.int .i64 x2742)), (7, .v (.bool (x2766 == x2742))), (9, .dead), (13, .dead), (18, .v (.int .i64 x2299)), (19, .v (.int .i64 x2742)), (20, .dead), (25, .sl false 4 0 n2745 1), (26, .v (.int .i64 ((n2745 : Nat) : Int))), (27, .v (.int .i64 (IntKind.i64.wrap (x2754 + 1)))), (28, .dead), (43, .dead)], [(0, .p c2743), (1, .r [.sl false 6 0 n2744 1]), (3, .r [.sl false 4 0 n2745 1]), (4, .p c2746), (5, .r [.fn 79 [.ptr 0 0, .ptr 1 0, .ptr 3 0, .ptr 5 0]]), (6, .p c2747)], 7, []⟩) (by kernel_rfl))) ⟨n, Nat.lt_succ_self n, _, _, h2789, rfl⟩
              · refine W_sound tab_ok mixed 7 _ _ _ ?_
                simp -implicitDefEqProofs only [go_sem, qa, qb, qc, qd, qe, qf, qg, qh, qi, qj, qk, ↓reduceIte, h2302, h2748, h2751, h2755]
                repeat with_reducible refine ⟨by first | kernel_rfl | decide, ?_⟩
                obtain rfl := Option.some.inj h2789
                exact cutQ _ ((Wk_le (.r (.r (.r (.r (.r (.r (.r (.r (.r (.r (.r (.r (.k (.k (.k (.k (.r .nil))))))))))))))))) (OLe.refl _)).trans (cmpS_ok (st' := ⟨[], [(0, .v .nl), (1, .dead), (2, .dead), (3, .ptr 3 0), (4, .ptr 5 0), (6, .v (.int .i64 x2742)), (7, .v (.bool b2753)), (9, .dead), (13, .dead), (18, .v (.int .i64 x2299)), (19, .v (.int .i64 x2742)), (20, .dead), (25, .dead), (26, .dead), (27, .dead), (28, .dead), (43, .dead)], [(0, .p c2743), (1, .r [.sl false 6 0 n2744 1]), (3, .r [.sl false 4 0 n2745 1]), (4, .p c2746), (5, .r [.fn 79 [.ptr 0 0, .ptr 1 0, .ptr 3 0, .ptr 5 0]]), (6, .p c2747)], 7, []⟩) (by kernel_rfl))) ⟨_, rfl, rfl⟩
          · rintro _ ⟨b2767, rfl, rfl⟩
            have hh := brn_some h2790; clear h2790; rcases hh with ⟨h2768, h2790⟩ | ⟨h2768, h2790⟩
            · refine W_sound tab_ok mixed 12 _ _ _ ?_
              simp -implicitDefEqProofs only [go_sem, qa, qb, qc, qd, qe, qf, qg, qh, qi, qj, qk, ↓reduceIte, h2302, h2748, h2751, h2768]
              repeat with_reducible refine ⟨by first | kernel_rfl | decide, ?_⟩
              exact cutQ _ ((Wk_le (.r (.r (.r (.r (.r (.k (.k (.r (.r (.r (.r (.r (.r (.r (.r (.r (.k .nil))))))))))))))))) (OLe.refl _)).trans (cmpS_ok (st' := ⟨[], [(0, .v .nl), (1, .dead), (2, .dead), (3, .ptr 3 0), (4, .ptr 5 0), (6, .dead), (7, .dead), (9, .dead), (13, .dead), (18, .v (.int .i64 x2299)), (19, .v (.int .i64 (IntKind.i64.wrap (x2742 + 1)))), (20, .dead), (25, .dead), (26, .dead), (27, .dead), (28, .dead), (43, .dead)], [(0, .p c2743), (1, .r [.sl false 6 0 n2744 1]), (3, .r [.sl false 4 0 n2745 1]), (4, .p c2746), (5, .r [.fn 79 [.ptr 0 0, .ptr 1 0, .ptr 3 0, .ptr 5 0]]), (6, .p c2747)], 7, []⟩) (by kernel_rfl))) ⟨n, Nat.lt_succ_self n, _, _, _, _, _, _, h2790, rfl⟩
            · have hh := bnd'_some h2790; clear h2790; obtain ⟨⟨c2770, n2771, n2772, c2773, c2774⟩, h2769, h2790⟩ := hh
              (try dsimp only at h2790)
              refine W_sound tab_ok mixed 17 _ _ _ ?_
              simp -implicitDefEqProofs only [go_sem, qa, qb, qc, qd, qe, qf, qg, qh, qi, qj, qk, ↓reduceIte, h2302, h2748, h2751, h2768]
              repeat with_reducible refine ⟨by first | kernel_rfl | decide, ?_⟩
              refine Wp_callDF [(60, [(.int .i64 x2742)])] [0, 1, 6, 3, 4, 5] (c79_9_a N N _ _ _ _ _ _ _ _ _ _ _ h2769) rfl rfl rfl (by first | rfl | (simp only [go_sem, qa, qb, qc, qd, qe, qf, qg, qh, qi, qj, qk, ↓reduceIte, h2302, h2748, h2751, h2768] <;> rfl)) rfl (by kernel_rfl) rfl rfl (by simp [roF, obL]) ?_
              refine W_sound tab_ok mixed 6 _ _ _ ?_
              simp -implicitDefEqProofs only [go_sem, qa, qb, qc, qd, qe, qf, qg, qh, qi, qj, qk, ↓reduceIte, h2302, h2748, h2751, h2768]
              repeat with_reducible refine ⟨by first | kernel_rfl | decide, ?_⟩
              exact cutQ _ ((Wk_le (.r (.r (.r (.r (.r (.k (.k (.r (.r (.r (.r (.r (.r (.r (.r (.r (.k .nil))))))))))))))))) (OLe.refl _)).trans (cmpS_ok (st' := ⟨[], [(0, .v .nl), (1, .dead), (2, .dead), (3, .ptr 3 0), (4, .ptr 5 0), (6, .dead), (7, .dead), (9, .dead), (13, .dead), (18, .v (.int .i64 x2299)), (19, .v (.int .i64 (IntKind.i64.wrap (x2742 + 1)))), (20, .dead), (25, .dead), (26, .dead), (27, .dead), (28, .dead), (43, .dead)], [(0, .p c2770), (1, .r [.sl false 6 0 n2771 1]), (3, .r [.sl false 4 0 n2772 1]), (4, .p c2773), (5, .r [.fn 79 [.ptr 0 0, .ptr 1 0, .ptr 3 0, .ptr 5 0]]), (6, .p c2774)], 7, []⟩) (by kernel_rfl))) ⟨n, Nat.lt_succ_self n, _, _, _, _, _, _, h2790, rfl⟩
        · refine W_sound tab_ok mixed 7 _ _ _ ?_
          simp -implicitDefEqProofs only [go_sem, qa, qb, qc, qd, qe, qf, qg, qh, qi, qj, qk, ↓reduceIte, h2302, h2748]
          repeat with_reducible refine ⟨by first | kernel_rfl | decide, ?_⟩
          obtain rfl := Option.some.inj h2786
          exact cutQ _ ((Wk_le (.k (.r (.r (.k (.k (.r (.r (.r (.r (.k (.k (.k (.r (.r (.r (.r (.r .nil))))))))))))))))) (OLe.refl _)).trans (cmpS_ok (st' := ⟨[], [(0, .dead), (1, .dead), (2, .dead), (3, .dead), (4, .dead), (6, .dead), (7, .dead), (9, .dead), (13, .dead), (18, .dead), (19, .dead), (20, .dead), (25, .dead), (26, .dead), (27, .dead), (28, .dead), (43, .dead)], [(0, .p c2743), (1, .r [.sl false 6 0 n2744 1]), (3, .r [.sl false 4 0 n2745 1]), (4, .p c2746), (5, .r [.fn 79 [.ptr 0 0, .ptr 1 0, .ptr 3 0, .ptr 5 0]]), (6, .p c2747)], 7, []⟩) (by kernel_rfl))) ⟨_, _, _, _, _, rfl, rfl⟩
    · rintro _ ⟨c2775, n2776, n2777, c2778, c2779, rfl, rfl⟩
      (try dsimp only at h2787)
      refine W_sound tab_ok mixed 1 _ _ _ ?_
      simp -implicitDefEqProofs only [go_sem, qa, qb, qc, qd, qe, qf, qg, qh, qi, qj, qk, ↓reduceIte, h2302]
      repeat with_reducible refine ⟨by first | kernel_rfl | decide, ?_⟩
      obtain rfl := Option.some.inj h2787
      exact finD (e2 := [(0, .dead), (1, .dead), (2, .dead), (3, .dead), (4, .dead), (6, .dead), (7, .dead), (9, .dead), (13, .dead), (18, .dead), (19, .dead), (20, .dead), (25, .dead), (26, .dead), (27, .dead), (28, .dead), (43, .dead)]) (ob2 := [(0, .p c2775), (1, .r [.sl false 6 0 n2776 1]), (3, .r [.sl false 4 0 n2777 1]), (4, .p c2778), (5, .r [.fn 79 [.ptr 0 0, .ptr 1 0, .ptr 3 0, .ptr 5 0]]), (6, .p c2779)]) (st' := ⟨[], [(0, .dead), (1, .dead), (2, .dead), (3, .dead), (4, .dead), (6, .dead), (7, .dead), (9, .dead), (13, .dead), (18, .dead), (19, .dead), (20, .dead), (25, .dead), (26, .dead), (27, .dead), (28, .dead), (43, .dead)], [(0, .p c2775), (1, .r [.sl false 6 0 n2776 1]), (3, .r [.sl false 4 0 n2777 1]), (4, .p c2778), (5, .r [.fn 79 [.ptr 0 0, .ptr 1 0, .ptr 3 0, .ptr 5 0]]), (6, .p c2779)], 7, []⟩) (.r (.r (.r (.r (.r (.r (.r (.r (.r (.r (.r (.r (.r (.r (.r (.r (.r .nil))))))))))))))))) (.cons _ _ _ _ _ (DLes.refl _) (.cons _ _ _ _ _ (DLes.refl _) (.cons _ _ _ _ _ (DLes.refl _) (.cons _ _ _ _ _ (DLes.refl _) (.cons _ _ _ _ _ (DLes.refl _) (.cons _ _ _ _ _ (DLes.refl _) .nil)))))) (by kernel_rfl) (by simp only [go_sem, qa, qb, qc, qd, qe, qf, qg, qh, qi, qj, qk, ↓reduceIte, resQ_tmp, resQ_cell, resQ_nil, retD_one, retD_two, retD_three, retD_none] <;> first | rfl | exact ⟨rfl, rfl⟩ | (try simp [R.val, retD_one, retD_two, retD_three, retD_none]))
theorem c79_7_a (N : Nat) (x2299 : Int) (n2300 : Nat) (c2301 : List PV) (c2303 : List PV) (n2304 : Nat) (c2305 : List PV) (c2306 : List PV) (h : m79_7 N x2299 n2300 c2301 = some (.inl (c2303, n2304, c2305, c2306))) : V.Fn Tryd.prog 79 6 [.v .nl, .ptr 0 0, .ptr 1 0, .ptr 3 0, .ptr 5 0] [(0, .p [(.int .i64 x2299)]), (1, .r [.sl false 2 0 0 1]), (2, .p []), (3, .r [.sl false 4 0 n2300 1]), (4, .p c2301), (5, .r [.fn 79 [.ptr 0 0, .ptr 1 0, .ptr 3 0, .ptr 5 0]])] (fun d ob' => d = .v (.tup []) ∧ ob' = [(0, .p c2303), (1, .r [.sl false 6 0 1 1]), (3, .r [.sl false 4 0 n2304 1]), (4, .p c2305), (5, .r [.fn 79 [.ptr 0 0, .ptr 1 0, .ptr 3 0, .ptr 5 0]]), (6, .p c2306)]) := c79_7 N x2299 n2300 c2301 _ h
theorem c79_7_b (N : Nat) (x2299 : Int) (n2300 : Nat) (c2301 : List PV) (c2780 : List PV) (n2781 : Nat) (n2782 : Nat) (c2783 : List PV) (c2784 : List PV) (h : m79_7 N x2299 n2300 c2301 = some (.inr (c2780, n2781, n2782, c2783, c2784))) : V.Fn Tryd.prog 79 6 [.v .nl, .ptr 0 0, .ptr 1 0, .ptr 3 0, .ptr 5 0] [(0, .p [(.int .i64 x2299)]), (1, .r [.sl false 2 0 0 1]), (2, .p []), (3, .r [.sl false 4 0 n2300 1]), (4, .p c2301), (5, .r [.fn 79 [.ptr 0 0, .ptr 1 0, .ptr 3 0, .ptr 5 0]])] (fun d ob' => d = .v (.tup []) ∧ ob' = [(0, .p c2780), (1, .r [.sl false 6 0 n2781 1]), (3, .r [.sl false 4 0 n2782 1]), (4, .p c2783), (5, .r [.fn 79 [.ptr 0 0, .ptr 1 0, .ptr 3 0, .ptr 5 0]]), (6, .p c2784)]) := c79_7 N x2299 n2300 c2301 _ h
def m38_3 (N : Nat) (x2804 : Int) (n2805 : Nat) (c2806 : List PV) : Option ((PV × List PV)) :=
  bnd' (m79_7 N x2804 n2805 c2806) fun o =>
  match o with
  | .inl (c2809, n2810, c2811, c2812) =>
    grd (List.length c2812 = 1) <|
    some ((.lst false 1 c2812), c2811)
  | .inr (c2814, n2815, n2816, c2817, c2818) =>
    grd (List.length c2818 = n2815) <|
    some ((.lst false n2815 c2818), c2817)
theorem c38_3 (N : Nat) (x2804 : Int) (n2805 : Nat) (c2806 : List PV) (r : PV) (c2821 : List PV) (h : m38_3 N x2804 n2805 c2806 = some (r, c2821)) : V.Fn Tryd.prog 38 1 [.v (.int .i64 x2804), .sl false 0 0 n2805 1] [(0, .p c2806)] (fun d ob' => d = .v r ∧ ob' = [(0, .p c2821)]) := by
  unfold m38_3 at h
  refine Fn_of (sz := 11) tab_ok [0, 1, 2, 3, 4, 5, 6] [.tmp 4] Tryd.func38 rfl rfl rfl (by simp) ?_
  simp only [initSt, initEnv, List.map_cons, List.map_nil, List.getD_cons_zero, List.getD_cons_succ, List.getD_nil]
  refine W_sound tab_ok mixed 20 _ _ _ ?_
  simp -implicitDefEqProofs only [go_sem, qa, qb, qc, qd, qe, qf, qg, qh, qi, qj, qk, ↓reduceIte]
  repeat with_reducible refine ⟨by first | kernel_rfl | decide, ?_⟩
  refine Wp_wkK (Wk_ownC 10 0 1 rfl rfl (by decide) (by decide)) rfl ?_
  simp -implicitDefEqProofs only [go_sem, qa, qb, qc, qd, qe, qf, qg, qh, qi, qj, qk, ↓reduceIte, setO]
  have hh := bnd'_some h; clear h; obtain ⟨oo, h2808, h⟩ := hh
  rcases oo with ⟨c2809, n2810, c2811, c2812⟩ | ⟨c2814, n2815, n2816, c2817, c2818⟩
  · (try dsimp only at h)
    refine W_sound tab_ok mixed 2 _ _ _ ?_
    simp -implicitDefEqProofs only [go_sem, qa, qb, qc, qd, qe, qf, qg, qh, qi, qj, qk, ↓reduceIte]
    repeat with_reducible refine ⟨by first | kernel_rfl | decide, ?_⟩
    refine Wp_callD [3, 10, 18, 4, 0, 17] (c79_7_a N _ _ _ _ _ _ _ h2808) rfl rfl rfl (by first | rfl | (simp only [go_sem, qa, qb, qc, qd, qe, qf, qg, qh, qi, qj, qk, ↓reduceIte] <;> rfl)) rfl (by kernel_rfl) ?_
    refine W_sound tab_ok mixed 8 _ _ _ ?_
    simp -implicitDefEqProofs only [go_sem, qa, qb, qc, qd, qe, qf, qg, qh, qi, qj, qk, ↓reduceIte]
    repeat with_reducible refine ⟨by first | kernel_rfl | decide, ?_⟩
    have hh := grd_some h; clear h; obtain ⟨g2813, h⟩ := hh
    refine FinQ_wk (Wk_freeze 28 c2812 (by rfl) (by decide) (by decide)) ?_
    simp -implicitDefEqProofs only [go_sem, qa, qb, qc, qd, qe, qf, qg, qh, qi, qj, qk, ↓reduceIte, g2813]
    simp only [Option.some.injEq, Prod.mk.injEq] at h; obtain ⟨rfl, rfl⟩ := h
    exact finD (e2 := [(0, .dead), (1, .dead), (2, .dead), (3, .dead), (4, .v (.lst false 1 c2812)), (5, .dead), (6, .dead)]) (ob2 := [(17, .r [.fn 79 [.ptr 3 0, .ptr 10 0, .ptr 4 0, .ptr 17 0]]), (0, .p c2811), (4, .r [.sl false 0 0 n2810 1]), (10, .p [(.lst false 1 c2812)]), (3, .p c2809)]) (st' := ⟨[], [(0, .dead), (1, .dead), (2, .dead), (3, .dead), (4, .v (.lst false 1 c2812)), (5, .dead), (6, .dead)], [(0, .p c2811)], 1, []⟩) (.k (.k (.k (.k (.r (.k (.k .nil))))))) (.cons _ _ _ _ _ (DLes.refl _) (.cons _ _ _ _ _ (DLes.refl _) (.cons _ _ _ _ _ (DLes.refl _) (.cons _ _ _ _ _ (DLes.refl _) (.cons _ _ _ _ _ (DLes.refl _) .nil))))) (by kernel_rfl) (by simp only [go_sem, qa, qb, qc, qd, qe, qf, qg, qh, qi, qj, qk, ↓reduceIte, resQ_tmp, resQ_cell, resQ_nil, retD_one, retD_two, retD_three, retD_none]; try simp [R.val, retD_one, retD_two, retD_three, retD_none])
  · (try dsimp only at h)
    refine W_sound tab_ok mixed 2 _ _ _ ?_
    simp -implicitDefEqProofs only [go_sem, qa, qb, qc, qd, qe, qf, qg, qh, qi, qj, qk, ↓reduceIte]
    repeat with_reducible refine ⟨by first | kernel_rfl | decide, ?_⟩
    refine Wp_callD [3, 10, 18, 4, 0, 17] (c79_7_b N _ _ _ _ _ _ _ _ h2808) rfl rfl rfl (by first | rfl | (simp only [go_sem, qa, qb, qc, qd, qe, qf, qg, qh, qi, qj, qk, ↓reduceIte] <;> rfl)) rfl (by kernel_rfl) ?_
    refine W_sound tab_ok mixed 8 _ _ _ ?_
    simp -implicitDefEqProofs only [go_sem, qa, qb, qc, qd, qe, qf, qg, qh, qi, qj, qk, ↓reduceIte]
    repeat with_reducible refine ⟨by first | kernel_rfl | decide, ?_⟩
    have hh := grd_some h; clear h; obtain ⟨g2819, h⟩ := hh
    refine FinQ_wk (Wk_freeze 28 c2818 (by rfl) (by decide) (by decide)) ?_
    simp -implicitDefEqProofs only [go_sem, qa, qb, qc, qd, qe, qf, qg, qh, qi, qj, qk, ↓reduceIte, g2819]
    simp only [Option.some.injEq, Prod.mk.injEq] at h; obtain ⟨rfl, rfl⟩ := h
    exact finD (e2 := [(0, .dead), (1, .dead), (2, .dead), (3, .dead), (4, .v (.lst false n2815 c2818)), (5, .dead), (6, .dead)]) (ob2 := [(17, .r [.fn 79 [.ptr 3 0, .ptr 10 0, .ptr 4 0, .ptr 17 0]]), (0, .p c2817), (4, .r [.sl false 0 0 n2816 1]), (10, .p [(.lst false n2815 c2818)]), (3, .p c2814)]) (st' := ⟨[], [(0, .dead), (1, .dead), (2, .dead), (3, .dead), (4, .v (.lst false n2815 c2818)), (5, .dead), (6, .dead)], [(0, .p c2817)], 1, []⟩) (.k (.k (.k (.k (.r (.k (.k .nil))))))) (.cons _ _ _ _ _ (DLes.refl _) (.cons _ _ _ _ _ (DLes.refl _) (.cons _ _ _ _ _ (DLes.refl _) (.cons _ _ _ _ _ (DLes.refl _) (.cons _ _ _ _ _ (DLes.refl _) .nil))))) (by kernel_rfl) (by simp only [go_sem, qa, qb, qc, qd, qe, qf, qg, qh, qi, qj, qk, ↓reduceIte, resQ_tmp, resQ_cell, resQ_nil, retD_one, retD_two, retD_three, retD_none]; try simp [R.val, retD_one, retD_two, retD_three, retD_none])
def m37_L0 (N : Nat) (x1759 : Int) (p1763 : PV) (p1764 : PV) (p1765 : PV) (p1766 : PV) (p1767 : PV) (x1769 : Int) (x1772 : Int) : Nat → Nat → Int → List PV → Option ((Nat × List PV))
  | 0, _, _, _ => none
  | n + 1, n2292, x2293, c2294 =>
    brn (decide (x2293 < (Int.tmod (IntKind.i64.wrap x1772) (IntKind.i64.wrap ((IntKind.i64.wrap (1 + (Int.tmod (IntKind.i64.wrap x1769) x1759))) + 1))))) (
      bnd' (m38_3 N (IntKind.i64.wrap (1 + (Int.tmod (IntKind.i64.wrap x1769) x1759))) n2292 c2294) fun (p2822, c2824) =>
      getL p2822 fun n2826 c2827 =>
      grd (0 ≤ x2293 ∧ x2293 < 5) <|
      grd ((2 + (Int.toNat x2293)) < 7) <|
      getI .u8 (gp [(.int .u8 x1769), (.int .u8 x1772), p1763, p1764, p1765, p1766, p1767] (2 + (Int.toNat x2293))) fun x2832 =>
      grd (((n2826 : Nat) : Int) ≠ 0) <|
      grd (0 ≤ (Int.tmod (IntKind.i64.wrap x2832) ((n2826 : Nat) : Int)) ∧ (Int.tmod (IntKind.i64.wrap x2832) ((n2826 : Nat) : Int)) < ((n2826 : Nat) : Int)) <|
      grd (0 < List.length (List.drop (Int.toNat (Int.tmod (IntKind.i64.wrap x2832) ((n2826 : Nat) : Int))) c2827)) <|
      getL (gp c2827 (Int.toNat (Int.tmod (IntKind.i64.wrap x2832) ((n2826 : Nat) : Int)))) fun n2838 c2839 =>
      grd ((n2292 + 1) ≤ 1099511627776) <|
      grd (List.length c2824 = n2292) <|
      m37_L0 N x1759 p1763 p1764 p1765 p1766 p1767 x1769 x1772 n (n2292 + 1) (IntKind.i64.wrap (x2293 + 1)) (c2824 ++ [(.lst false n2838 c2839)])) (
      some (n2292, c2294))
def m37 (N : Nat) (p1758 : PV) (x1759 : Int) : Option (PV) :=
  getA7 p1758 fun p1761 p1762 p1763 p1764 p1765 p1766 p1767 =>
  getI .u8 p1761 fun x1769 =>
  grd (x1759 ≠ 0) <|
  getI .u8 p1762 fun x1772 =>
  grd ((IntKind.i64.wrap ((IntKind.i64.wrap (1 + (Int.tmod (IntKind.i64.wrap x1769) x1759))) + 1)) ≠ 0) <|
  bnd' (m37_L0 N x1759 p1763 p1764 p1765 p1766 p1767 x1769 x1772 N 0 0 []) fun o =>
  match o with
  | (n2842, c2843) =>
    grd (List.length c2843 = n2842) <|
    some (.tup [(.int .i64 (IntKind.i64.wrap (1 + (Int.tmod (IntKind.i64.wrap x1769) x1759)))), (.lst false n2842 c2843)])
theorem c37 (N : Nat) (p1758 : PV) (x1759 : Int) (r : PV)  (h : m37 N p1758 x1759 = some r) : FnP Tryd.prog 37 [p1758, (.int .i64 x1759)] r := by
  unfold m37 at h
  refine Fn_of (sz := 45) tab_ok [0, 1, 2, 4, 5, 6, 7, 8, 9, 21, 22, 23] [.tmp 4, .tmp 5] Tryd.func37 rfl rfl rfl (by simp) ?_
  simp only [initSt, initEnv, List.map_cons, List.map_nil, List.getD_cons_zero, List.getD_cons_succ, List.getD_nil]
  have hh := getA7_some h; clear h; obtain ⟨p1761, p1762, p1763, p1764, p1765, p1766, p1767, h1760, h⟩ := hh
  have hh := getI_some h; clear h; obtain ⟨x1769, h1768, h⟩ := hh
  have hh := grd_some h; clear h; obtain ⟨g1770, h⟩ := hh
  have hh := getI_some h; clear h; obtain ⟨x1772, h1771, h⟩ := hh
  have hh := grd_some h; clear h; obtain ⟨g1773, h⟩ := hh
  refine W_sound tab_ok mixed 31 _ _ _ ?_
  simp -implicitDefEqProofs only [go_sem, qa, qb, qc, qd, qe, qf, qg, qh, qi, qj, qk, ↓reduceIte, h1760, h1768, g1770, h1771, g1773]
  repeat with_reducible refine ⟨by first | kernel_rfl | decide, ?_⟩
  refine Wp_weaken (Wk_ownS 7 1 rfl (by decide) (by decide)) ?_
  simp -implicitDefEqProofs only [go_sem, qa, qb, qc, qd, qe, qf, qg, qh, qi, qj, qk, ↓reduceIte, h1760, h1768, g1770, h1771, g1773]
  have hh := bnd'_some h; clear h; obtain ⟨o2845, h2846, h2847⟩ := hh
  refine Wp_cut (fun s => ∃ n2842, ∃ c2843, (n2842, c2843) = o2845 ∧ s = ⟨[], [(0, .dead), (1, .dead), (2, .dead), (4, .dead), (5, .dead), (6, .v (.int .i64 (IntKind.i64.wrap (1 + (Int.tmod (IntKind.i64.wrap x1769) x1759))))), (7, .sl false 0 0 n2842 1), (8, .dead), (9, .dead), (21, .dead), (22, .dead), (23, .dead)], [(0, .p c2843)], 1, []⟩) ?_ ?_
  · refine Wp_block ?_
    refine Wp_loopG (fun n s => ∃ n2292, ∃ x2293, ∃ c2294, m37_L0 N x1759 p1763 p1764 p1765 p1766 p1767 x1769 x1772 n n2292 x2293 c2294 = some o2845 ∧ s = ⟨[], [(0, .dead), (1, .dead), (2, .ptr 0 0), (4, .dead), (5, .dead), (6, .v (.int .i64 (IntKind.i64.wrap (1 + (Int.tmod (IntKind.i64.wrap x1769) x1759))))), (7, .sl false 1 0 n2292 1), (8, .dead), (9, .dead), (21, .v (.int .i64 (Int.tmod (IntKind.i64.wrap x1772) (IntKind.i64.wrap ((IntKind.i64.wrap (1 + (Int.tmod (IntKind.i64.wrap x1769) x1759))) + 1))))), (22, .v (.int .i64 x2293)), (23, .dead)], [(0, .p [(.int .u8 x1769), (.int .u8 x1772), p1763, p1764, p1765, p1766, p1767]), (1, .p c2294)], 2, []⟩) N _ ((Wk_le (.k (.k (.r (.k (.k (.r (.r (.r (.r (.r (.r (.r .nil)))))))))))) (OLe.refl _)).trans (cmpS_ok (st' := ⟨[], [(0, .dead), (1, .dead), (2, .ptr 0 0), (4, .dead), (5, .dead), (6, .v (.int .i64 (IntKind.i64.wrap (1 + (Int.tmod (IntKind.i64.wrap x1769) x1759))))), (7, .sl false 1 0 0 1), (8, .dead), (9, .dead), (21, .v (.int .i64 (Int.tmod (IntKind.i64.wrap x1772) (IntKind.i64.wrap ((IntKind.i64.wrap (1 + (Int.tmod (IntKind.i64.wrap x1769) x1759))) + 1))))), (22, .v (.int .i64 0)), (23, .dead)], [(0, .p [(.int .u8 x1769), (.int .u8 x1772), p1763, p1764, p1765, p1766, p1767]), (1, .p [])], 2, []⟩) (by kernel_rfl))) ⟨_, _, _, h2846, rfl⟩ ?_
    clear h2846
    rintro n _ ⟨n2292, x2293, c2294, h2846, rfl⟩
    cases n with
    | zero => cases h2846
    | succ n =>
      rw [m37_L0] at h2846
      have hh := brn_some h2846; clear h2846; rcases hh with ⟨h2295, h2846⟩ | ⟨h2295, h2846⟩
      · have hh := bnd'_some h2846; clear h2846; obtain ⟨⟨p2822, c2824⟩, h2823, h2846⟩ := hh
        (try dsimp only at h2846)
        refine W_sound tab_ok mixed 18 _ _ _ ?_
        simp -implicitDefEqProofs only [go_sem, qa, qb, qc, qd, qe, qf, qg, qh, qi, qj, qk, ↓reduceIte, h1760, h1768, g1770, h1771, g1773, h2295]
        repeat with_reducible refine ⟨by first | kernel_rfl | decide, ?_⟩
        refine Wp_callD [1] (c38_3 N _ _ _ _ _ h2823) rfl rfl rfl (by first | rfl | (simp only [go_sem, qa, qb, qc, qd, qe, qf, qg, qh, qi, qj, qk, ↓reduceIte, h1760, h1768, g1770, h1771, g1773, h2295] <;> rfl)) rfl (by kernel_rfl) ?_
        have hh := getL_some h2846; clear h2846; obtain ⟨n2826, c2827, h2825, h2846⟩ := hh
        have hh := grd_some h2846; clear h2846; obtain ⟨⟨g2828, g2829⟩, h2846⟩ := hh
        have hh := grd_some h2846; clear h2846; obtain ⟨g2830, h2846⟩ := hh
        have hh := getI_some h2846; clear h2846; obtain ⟨x2832, h2831, h2846⟩ := hh
        have hh := grd_some h2846; clear h2846; obtain ⟨g2833, h2846⟩ := hh
        have hh := grd_some h2846; clear h2846; obtain ⟨⟨g2834, g2835⟩, h2846⟩ := hh
        have hh := grd_some h2846; clear h2846; obtain ⟨g2836, h2846⟩ := hh
        have hh := getL_some h2846; clear h2846; obtain ⟨n2838, c2839, h2837, h2846⟩ := hh
        have hh := grd_some h2846; clear h2846; obtain ⟨g2840, h2846⟩ := hh
        have hh := grd_some h2846; clear h2846; obtain ⟨g2841, h2846⟩ := hh
        refine W_sound tab_ok mixed 24 _ _ _ ?_
        simp -implicitDefEqProofs only [go_sem, qa, qb, qc, qd, qe, qf, qg, qh, qi, qj, qk, ↓reduceIte, h1760, h1768, g1770, h1771, g1773, h2295, h2825, g2828, g2829, g2830, h2831, g2833, g2834, g2835, g2836, h2837, g2840, g2841]
        repeat with_reducible refine ⟨by first | kernel_rfl | decide, ?_⟩
        exact cutQ _ ((Wk_le (.r (.r (.r (.r (.r (.r (.r (.k (.k (.r (.r (.k .nil)))))))))))) (OLe.refl _)).trans (cmpS_ok (st' := ⟨[], [(0, .dead), (1, .dead), (2, .ptr 0 0), (4, .dead), (5, .dead), (6, .v (.int .i64 (IntKind.i64.wrap (1 + (Int.tmod (IntKind.i64.wrap x1769) x1759))))), (7, .sl false 1 0 (n2292 + 1) 1), (8, .dead), (9, .dead), (21, .v (.int .i64 (Int.tmod (IntKind.i64.wrap x1772) (IntKind.i64.wrap ((IntKind.i64.wrap (1 + (Int.tmod (IntKind.i64.wrap x1769) x1759))) + 1))))), (22, .v (.int .i64 (IntKind.i64.wrap (x2293 + 1)))), (23, .dead)], [(0, .p [(.int .u8 x1769), (.int .u8 x1772), p1763, p1764, p1765, p1766, p1767]), (1, .p (c2824 ++ [(.lst false n2838 c2839)]))], 2, []⟩) (by kernel_rfl))) ⟨n, Nat.lt_succ_self n, _, _, _, h2846, rfl⟩
      · refine W_sound tab_ok mixed 7 _ _ _ ?_
        simp -implicitDefEqProofs only [go_sem, qa, qb, qc, qd, qe, qf, qg, qh, qi, qj, qk, ↓reduceIte, h1760, h1768, g1770, h1771, g1773, h2295]
        repeat with_reducible refine ⟨by first | kernel_rfl | decide, ?_⟩
        obtain rfl := Option.some.inj h2846
        exact cutQ _ ((Wk_le (.r (.r (.k (.r (.r (.r (.r (.r (.r (.k (.k (.k .nil)))))))))))) (OLe.refl _)).trans (cmpS_ok (st' := ⟨[], [(0, .dead), (1, .dead), (2, .dead), (4, .dead), (5, .dead), (6, .v (.int .i64 (IntKind.i64.wrap (1 + (Int.tmod (IntKind.i64.wrap x1769) x1759))))), (7, .sl false 0 0 n2292 1), (8, .dead), (9, .dead), (21, .dead), (22, .dead), (23, .dead)], [(0, .p c2294)], 1, []⟩) (by kernel_rfl))) ⟨_, _, rfl, rfl⟩
  · rintro _ ⟨n2842, c2843, rfl, rfl⟩
    (try dsimp only at h2847)
    refine W_sound tab_ok mixed 9 _ _ _ ?_
    simp -implicitDefEqProofs only [go_sem, qa, qb, qc, qd, qe, qf, qg, qh, qi, qj, qk, ↓reduceIte, h1760, h1768, g1770, h1771, g1773]
    repeat with_reducible refine ⟨by first | kernel_rfl | decide, ?_⟩
    have hh := grd_some h2847; clear h2847; obtain ⟨g2844, h2847⟩ := hh
    refine FinQ_wk (Wk_freeze 0 c2843 (by rfl) (by decide) (by decide)) ?_
    simp -implicitDefEqProofs only [go_sem, qa, qb, qc, qd, qe, qf, qg, qh, qi, qj, qk, ↓reduceIte, h1760, h1768, g1770, h1771, g1773, g2844]
    obtain rfl := Option.some.inj h2847
    exact finC [(4, .v (.int .i64 (IntKind.i64.wrap (1 + (Int.tmod (IntKind.i64.wrap x1769) x1759))))), (5, .v (.lst false n2842 c2843))] [(4, .v (.int .i64 (IntKind.i64.wrap (1 + (Int.tmod (IntKind.i64.wrap x1769) x1759))))), (5, .v (.lst false n2842 c2843))] (by simp [leE, lk_cons]) (.cons _ _ _ _ _ (.v _ _ (.refl _)) (.cons _ _ _ _ _ (.v _ _ (.refl _)) .nil)) (by rfl) (by simp [leE, lk_cons]) (by decide) (by decide) rfl (by simp only [go_sem, qa, qb, qc, qd, qe, qf, qg, qh, qi, qj, qk, ↓reduceIte, resQ_tmp, resQ_cell, resQ_nil, retD_one, retD_two, retD_three, retD_none]; try simp [R.val, retD_one, retD_two, retD_three, retD_none])
end Go.Proofs.YtcaecfofgdogbaaDoor
namespace Go.Proofs.YtcaecfofgdogbaaDoor
open Go.V
set_option maxRecDepth 100000
set_option maxHeartbeats 4000000
set_option linter.unusedSimpArgs false
set_option linter.unusedVariables false
attribute [local go_sem] tl1 tl2 tl3 tl4 tl5 tl9 tl17 tl21 tl22 tl23 tl24 tl25 tl27 tl28 tl30 tl31 tl32 tl33 tl35 tl36 tl37 tl38 tl39 tl40 tl42 tl43 tl44 tl45 tl46 tl47 tl48 tl49 tl50 tl51 tl52 tl53 tl54 tl55 tl56 tl57 tl58 tl59 tl61 tl62 tl63 tl64 tl65 tl66 tl67 tl68 tl69 tl70 tl71 tl72 tl73 tl74 tl75 tl76 tl77 tl78 tl79 tl80 tl81 tl82 tl83 tl84 tl85 tl87 tl89 tl90 tl91 tl92 tl93 tl94 tl96 tl97 tl98 tl99 tl100 tl101 tl102 tl103 tl104 tl105 tl106 tl107 tl108 tl109 tl115 tl119
end Go.Proofs.YtcaecfofgdogbaaDoor
