/-
  TopTolls: numbers, lists and maps as the functions see them; the map by numbers; how many streets each corner has.
-/
import Derived.Test.YtdnfffmppppoeaaDoorQTK
import Derived.Test.YtdnfffmppppoeaaDoorQTV41
set_option linter.unusedSimpArgs false
set_option linter.unusedVariables false
namespace Go.Proofs.YtdnfffmppppoeaaDoor
open Go.V
set_option maxRecDepth 100000
set_option maxHeartbeats 4000000
set_option linter.unusedSimpArgs false
set_option linter.unusedVariables false
attribute [local go_sem] tl1 tl2 tl3 tl4 tl5 tl9 tl17 tl21 tl22 tl23 tl24 tl25 tl26 tl27 tl28 tl29 tl30 tl31 tl33 tl34 tl35 tl36 tl37 tl38 tl39 tl40 tl41 tl42 tl43 tl44 tl45 tl46 tl47 tl48 tl49 tl51 tl52 tl53 tl54 tl56 tl57 tl58 tl59 tl60 tl61 tl62 tl64 tl65 tl66 tl67 tl68 tl69 tl70 tl71 tl72 tl73 tl74 tl75 tl76 tl77 tl78 tl79 tl80 tl81 tl82 tl83 tl84 tl85 tl87 tl88 tl89 tl90 tl91 tl92 tl93 tl94 tl95 tl96 tl97 tl98 tl99 tl100 tl101 tl102 tl103 tl104 tl105 tl106 tl107 tl108 tl109 tl110 tl111 tl112 tl114 tl116 tl117 tl118 tl120 tl122 tl123 tl124 tl125 tl126 tl127 tl128 tl129 tl130 tl131 tl132 tl133 tl134 tl135 tl136 tl137 tl139 tl140 tl141 tl142 tl143 tl144 tl146 tl148 tl149 tl150 tl151 tl152 tl153 tl154 tl155 tl156 tl158 tl159 tl160 tl161 tl162 tl163 tl164 tl165 tl166 tl168 tl169 tl170 tl172 tl173 tl174 tl175 tl176 tl177 tl178 tl179 tl180 tl181 tl182 tl183 tl184 tl186 tl187 tl188 tl189 tl190 tl191 tl192 tl193 tl194 tl195 tl196 tl197 tl203 tl207 tl212 tl214 ne_eq not_false_eq_true Int.le_refl Nat.le_refl Int.cast_ofNat_Int
def getA5 {α : Type} (p : PV) (k : PV → PV → PV → PV → PV → Option α) : Option α := match p with | .agg [a0, a1, a2, a3, a4] => k a0 a1 a2 a3 a4 | _ => none
theorem getA5_some {α : Type} {p : PV} {k : PV → PV → PV → PV → PV → Option α} {r : α} (h : getA5 p k = some r) : ∃ a0 a1 a2 a3 a4, p = .agg [a0, a1, a2, a3, a4] ∧ k a0 a1 a2 a3 a4 = some r := by
  unfold getA5 at h; split at h
  · exact ⟨_, _, _, _, _, rfl, h⟩
  · cases h
def getA8 {α : Type} (p : PV) (k : PV → PV → PV → PV → PV → PV → PV → PV → Option α) : Option α := match p with | .agg [a0, a1, a2, a3, a4, a5, a6, a7] => k a0 a1 a2 a3 a4 a5 a6 a7 | _ => none
theorem getA8_some {α : Type} {p : PV} {k : PV → PV → PV → PV → PV → PV → PV → PV → Option α} {r : α} (h : getA8 p k = some r) : ∃ a0 a1 a2 a3 a4 a5 a6 a7, p = .agg [a0, a1, a2, a3, a4, a5, a6, a7] ∧ k a0 a1 a2 a3 a4 a5 a6 a7 = some r := by
  unfold getA8 at h; split at h
  · exact ⟨_, _, _, _, _, _, _, _, rfl, h⟩
  · cases h
def gv1 : List PV := (glk Gv 1).getD []
@[local go_sem] theorem ev_gv1 (get : Nat → D) : evG get (.global 1) = .v (.ipt gv1) := rfl
def m7_L0 (N : Nat) (x18 : Int) (x19 : Int) (x20 : Int) (p24 : PV) (p25 : PV) (p26 : PV) (p27 : PV) (p28 : PV) (p29 : PV) (p30 : PV) (p31 : PV) (c33 : List PV) : Nat → Int → Nat → List PV → Option ((Nat × List PV))
  | 0, _, _, _ => none
  | n + 1, x50, n51, c52 =>
    brn (decide (x50 < x18)) (
      grd (0 ≤ x50 ∧ x50 < 8) <|
      grd ((Int.toNat x50) < 8) <|
      getI .u8 (gp [p24, p25, p26, p27, p28, p29, p30, p31] (Int.toNat x50)) fun x58 =>
      grd (x50 ≠ 0) <|
      grd ((n51 + 1) ≤ 1099511627776) <|
      grd (List.length c52 = (n51 * 2)) <|
      m7_L0 N x18 x19 x20 p24 p25 p26 p27 p28 p29 p30 p31 c33 n (IntKind.i64.wrap (x50 + 1)) (n51 + 1) (c52 ++ [(.int .i64 (Int.tmod (IntKind.i64.wrap x58) x50)), (.int .i64 x50)])) (
      some (n51, c52))
def m7_L1 (N : Nat) (x18 : Int) (x19 : Int) (x20 : Int) (c33 : List PV) : Nat → Int → Nat → List PV → Option ((Nat × List PV))
  | 0, _, _, _ => none
  | n + 1, x85, n86, c87 =>
    brn (decide (x85 < (((Int.toNat (Int.tmod x19 9)) : Nat) : Int))) (
      grd (0 ≤ x85 ∧ x85 < (((Int.toNat (Int.tmod x19 9)) : Nat) : Int)) <|
      grd ((((Int.toNat x85) * 2) + 2) ≤ List.length c33) <|
      getA2 (.agg (List.take 2 (List.drop ((Int.toNat x85) * 2) c33))) fun p93 p94 =>
      getI .u8 p93 fun x96 =>
      grd (x18 ≠ 0) <|
      getI .u8 p94 fun x99 =>
      brn ((Int.tmod (IntKind.i64.wrap x96) x18) != (Int.tmod (IntKind.i64.wrap x99) x18)) (
        brn (decide (((n86 : Nat) : Int) < x20)) (
          grd ((n86 + 1) ≤ 1099511627776) <|
          grd (List.length c87 = (n86 * 2)) <|
          m7_L1 N x18 x19 x20 c33 n (IntKind.i64.wrap (x85 + 1)) (n86 + 1) (c87 ++ [(.int .i64 (minI (Int.tmod (IntKind.i64.wrap x96) x18) (Int.tmod (IntKind.i64.wrap x99) x18))), (.int .i64 (maxI (Int.tmod (IntKind.i64.wrap x96) x18) (Int.tmod (IntKind.i64.wrap x99) x18)))])) (
          m7_L1 N x18 x19 x20 c33 n (IntKind.i64.wrap (x85 + 1)) n86 c87)) (
        m7_L1 N x18 x19 x20 c33 n (IntKind.i64.wrap (x85 + 1)) n86 c87)) (
      some (n86, c87))
def m7 (N : Nat) (x18 : Int) (x19 : Int) (x20 : Int) (p21 : PV) (p22 : PV) : Option (PV) :=
  getA8 p21 fun p24 p25 p26 p27 p28 p29 p30 p31 =>
  getA p22 fun c33 =>
  bnd' (m7_L0 N x18 x19 x20 p24 p25 p26 p27 p28 p29 p30 p31 c33 N 1 0 []) fun o =>
  match o with
  | (n62, c63) =>
    grd (9 ≠ 0) <|
    grd (0 ≤ (Int.tmod x19 9) ∧ (Int.tmod x19 9) ≤ 8 ∧ 16 ≤ List.length c33) <|
    bnd' (m7_L1 N x18 x19 x20 c33 N 0 n62 c63) fun o =>
    match o with
    | (n104, c105) =>
      grd (List.length c105 = (n104 * 2)) <|
      some (.agg [(.int .i64 x18), (.lst false n104 c105)])
theorem c7 (N : Nat) (x18 : Int) (x19 : Int) (x20 : Int) (p21 : PV) (p22 : PV) (r : PV)  (h : m7 N x18 x19 x20 p21 p22 = some r) : FnP Tryd.prog 7 [(.int .i64 x18), (.int .i64 x19), (.int .i64 x20), p21, p22] r := by
  unfold m7 at h
  refine Fn_of (sz := 79) tab_ok [0, 1, 2, 3, 4, 8, 9, 10, 11, 12, 14, 15, 16, 21, 39, 40, 41, 42, 64] [.cell 10 27] Tryd.func7 rfl rfl rfl (by simp) ?_
  simp only [initSt, initEnv, List.map_cons, List.map_nil, List.getD_cons_zero, List.getD_cons_succ, List.getD_nil]
  have hh := getA8_some h; clear h; obtain ⟨p24, p25, p26, p27, p28, p29, p30, p31, h23, h⟩ := hh
  have hh := getA_some h; clear h; obtain ⟨c33, h32, h⟩ := hh
  refine W_sound tab_ok mixed 18 _ _ _ ?_
  simp -implicitDefEqProofs only [go_sem, Nat.reduceBEq, Nat.reduceAdd, Nat.reduceSub, Nat.reduceMul, Nat.reduceLT, Nat.reduceLeDiff, Int.reduceLE, Int.reduceLT, Int.reduceToNat, Int.reduceBEq, Int.reduceBNe, ↓reduceIte, h23, h32]
  repeat with_reducible refine And.intro (by first | kernel_rfl | decide) ?_
  refine Wp_weaken (Wk_ownC 22 1 2 rfl rfl (by decide) (by decide)) ?_
  simp -implicitDefEqProofs only [go_sem, Nat.reduceBEq, Nat.reduceAdd, Nat.reduceSub, Nat.reduceMul, Nat.reduceLT, Nat.reduceLeDiff, Int.reduceLE, Int.reduceLT, Int.reduceToNat, Int.reduceBEq, Int.reduceBNe, ↓reduceIte, setO, h23, h32]
  have hh := bnd'_some h; clear h; obtain ⟨o107, h108, h109⟩ := hh
  refine Wp_cut (fun s => ∃ n62, ∃ c63, (n62, c63) = o107 ∧ s = ⟨[], [(0, .v (.int .i64 x18)), (1, .v (.int .i64 x19)), (2, .v (.int .i64 x20)), (3, .dead), (4, .dead), (8, .dead), (9, .ptr 0 0), (10, .ptr 1 0), (11, .ptr 2 0), (12, .dead), (14, .dead), (15, .dead), (16, .dead), (21, .dead), (39, .dead), (40, .dead), (41, .dead), (42, .dead), (64, .dead)], [(0, .p c33), (1, .p [(.int .i64 0), .nl]), (2, .r [.v (.int .i64 x18), .sl false 3 0 n62 2]), (3, .p c63)], 4, []⟩) ?_ ?_
  · refine Wp_block ?_
    refine Wp_loopG (fun n s => ∃ x50, ∃ n51, ∃ c52, m7_L0 N x18 x19 x20 p24 p25 p26 p27 p28 p29 p30 p31 c33 n x50 n51 c52 = some o107 ∧ s = ⟨[], [(0, .v (.int .i64 x18)), (1, .v (.int .i64 x19)), (2, .v (.int .i64 x20)), (3, .dead), (4, .dead), (8, .ptr 0 0), (9, .ptr 1 0), (10, .ptr 2 0), (11, .ptr 3 0), (12, .v (.int .i64 x50)), (14, .dead), (15, .dead), (16, .dead), (21, .dead), (39, .dead), (40, .dead), (41, .dead), (42, .dead), (64, .dead)], [(0, .p [p24, p25, p26, p27, p28, p29, p30, p31]), (1, .p c33), (2, .p [(.int .i64 0), .nl]), (3, .r [.v (.int .i64 x18), .sl false 4 0 n51 2]), (4, .p c52)], 5, []⟩) N _ (Wk_keep (st' := ⟨[], [(0, .v (.int .i64 x18)), (1, .v (.int .i64 x19)), (2, .v (.int .i64 x20)), (3, .dead), (4, .dead), (8, .ptr 0 0), (9, .ptr 1 0), (10, .ptr 2 0), (11, .ptr 3 0), (12, .v (.int .i64 1)), (14, .dead), (15, .dead), (16, .dead), (21, .dead), (39, .dead), (40, .dead), (41, .dead), (42, .dead), (64, .dead)], [(0, .p [p24, p25, p26, p27, p28, p29, p30, p31]), (1, .p c33), (2, .p [(.int .i64 0), .nl]), (3, .r [.v (.int .i64 x18), .sl false 4 0 0 2]), (4, .p [])], 5, []⟩) [0, 1, 2, 8, 9, 10, 11, 12] (by kernel_rfl)) ⟨_, _, _, h108, rfl⟩ ?_
    clear h108
    rintro n _ ⟨x50, n51, c52, h108, rfl⟩
    cases n with
    | zero => cases h108
    | succ n =>
      rw [m7_L0] at h108
      have hh := brn_some h108; clear h108; rcases hh with ⟨h53, h108⟩ | ⟨h53, h108⟩
      · have hh := grd_some h108; clear h108; obtain ⟨⟨g54, g55⟩, h108⟩ := hh
        have hh := grd_some h108; clear h108; obtain ⟨g56, h108⟩ := hh
        have hh := getI_some h108; clear h108; obtain ⟨x58, h57, h108⟩ := hh
        have hh := grd_some h108; clear h108; obtain ⟨g59, h108⟩ := hh
        have hh := grd_some h108; clear h108; obtain ⟨g60, h108⟩ := hh
        have hh := grd_some h108; clear h108; obtain ⟨g61, h108⟩ := hh
        refine W_sound tab_ok mixed 33 _ _ _ ?_
        simp -implicitDefEqProofs only [go_sem, Nat.reduceBEq, Nat.reduceAdd, Nat.reduceSub, Nat.reduceMul, Nat.reduceLT, Nat.reduceLeDiff, Int.reduceLE, Int.reduceLT, Int.reduceToNat, Int.reduceBEq, Int.reduceBNe, ↓reduceIte, h23, h32, h53, g54, g55, g56, h57, g59, g60, g61]
        repeat with_reducible refine And.intro (by first | kernel_rfl | decide) ?_
        refine cutQ _ ?_ ⟨n, Nat.lt_succ_self n, _, _, _, h108, rfl⟩
        exact Wk_keep [0, 1, 2, 8, 9, 10, 11, 12] (by kernel_rfl)
      · refine W_sound tab_ok mixed 9 _ _ _ ?_
        simp -implicitDefEqProofs only [go_sem, Nat.reduceBEq, Nat.reduceAdd, Nat.reduceSub, Nat.reduceMul, Nat.reduceLT, Nat.reduceLeDiff, Int.reduceLE, Int.reduceLT, Int.reduceToNat, Int.reduceBEq, Int.reduceBNe, ↓reduceIte, h23, h32, h53]
        repeat with_reducible refine And.intro (by first | kernel_rfl | decide) ?_
        obtain rfl := Option.some.inj h108
        refine cutQ _ ?_ ⟨_, _, rfl, rfl⟩
        exact Wk_keep [0, 1, 2, 9, 10, 11] (by kernel_rfl)
  · rintro _ ⟨n62, c63, rfl, rfl⟩
    (try dsimp only at h109)
    have hh := grd_some h109; clear h109; obtain ⟨g64, h109⟩ := hh
    have hh := grd_some h109; clear h109; obtain ⟨⟨g65, g66, g67⟩, h109⟩ := hh
    refine W_sound tab_ok mixed 9 _ _ _ ?_
    simp -implicitDefEqProofs only [go_sem, Nat.reduceBEq, Nat.reduceAdd, Nat.reduceSub, Nat.reduceMul, Nat.reduceLT, Nat.reduceLeDiff, Int.reduceLE, Int.reduceLT, Int.reduceToNat, Int.reduceBEq, Int.reduceBNe, ↓reduceIte, h23, h32, g64, g65, g66, g67]
    repeat with_reducible refine And.intro (by first | kernel_rfl | decide) ?_
    refine Wp_wkK Wk_norm rfl ?_
    simp -implicitDefEqProofs only [go_sem, Nat.reduceBEq, Nat.reduceAdd, Nat.reduceSub, Nat.reduceMul, Nat.reduceLT, Nat.reduceLeDiff, Int.reduceLE, Int.reduceLT, Int.reduceToNat, Int.reduceBEq, Int.reduceBNe, ↓reduceIte, normE, h23, h32, g64, g65, g66, g67]
    (try simp -implicitDefEqProofs only [go_sem, Nat.reduceBEq, Nat.reduceAdd, Nat.reduceSub, Nat.reduceMul, Nat.reduceLT, Nat.reduceLeDiff, Int.reduceLE, Int.reduceLT, Int.reduceToNat, Int.reduceBEq, Int.reduceBNe, ↓reduceIte, h23, h32, g64, g65, g66, g67])
    have hh := bnd'_some h109; clear h109; obtain ⟨o110, h111, h112⟩ := hh
    refine Wp_cut (fun s => ∃ n104, ∃ c105, (n104, c105) = o110 ∧ s = ⟨[], [(0, .dead), (1, .dead), (2, .dead), (3, .dead), (4, .dead), (8, .dead), (9, .dead), (10, .ptr 0 0), (11, .ptr 1 0), (12, .dead), (14, .dead), (15, .dead), (16, .dead), (21, .dead), (39, .dead), (40, .dead), (41, .dead), (42, .dead), (64, .dead)], [(0, .p [(.int .i64 0), .nl]), (1, .r [.v (.int .i64 x18), .sl false 2 0 n104 2]), (2, .p c105)], 3, []⟩) ?_ ?_
    · refine Wp_block ?_
      refine Wp_loopG (fun n s => ∃ x85, ∃ n86, ∃ c87, m7_L1 N x18 x19 x20 c33 n x85 n86 c87 = some o110 ∧ s = ⟨[], [(0, .v (.int .i64 x18)), (1, .dead), (2, .v (.int .i64 x20)), (3, .dead), (4, .dead), (8, .dead), (9, .dead), (10, .ptr 0 0), (11, .ptr 1 0), (12, .dead), (14, .dead), (15, .dead), (16, .dead), (21, .dead), (39, .sl false 2 0 (Int.toNat (Int.tmod x19 9)) 2), (40, .v (.int .i64 (((Int.toNat (Int.tmod x19 9)) : Nat) : Int))), (41, .v (.int .i64 x85)), (42, .dead), (64, .dead)], [(0, .p [(.int .i64 0), .nl]), (1, .r [.v (.int .i64 x18), .sl false 3 0 n86 2]), (2, .p c33), (3, .p c87)], 4, []⟩) N _ (Wk_keep (st' := ⟨[], [(0, .v (.int .i64 x18)), (1, .dead), (2, .v (.int .i64 x20)), (3, .dead), (4, .dead), (8, .dead), (9, .dead), (10, .ptr 0 0), (11, .ptr 1 0), (12, .dead), (14, .dead), (15, .dead), (16, .dead), (21, .dead), (39, .sl false 2 0 (Int.toNat (Int.tmod x19 9)) 2), (40, .v (.int .i64 (((Int.toNat (Int.tmod x19 9)) : Nat) : Int))), (41, .v (.int .i64 0)), (42, .dead), (64, .dead)], [(0, .p [(.int .i64 0), .nl]), (1, .r [.v (.int .i64 x18), .sl false 3 0 n62 2]), (2, .p c33), (3, .p c63)], 4, []⟩) [0, 2, 10, 11, 39, 40, 41] (by kernel_rfl)) ⟨_, _, _, h111, rfl⟩ ?_
      clear h111
      rintro n _ ⟨x85, n86, c87, h111, rfl⟩
      cases n with
      | zero => cases h111
      | succ n =>
        rw [m7_L1] at h111
        have hh := brn_some h111; clear h111; rcases hh with ⟨h88, h111⟩ | ⟨h88, h111⟩
        · have hh := grd_some h111; clear h111; obtain ⟨⟨g89, g90⟩, h111⟩ := hh
          have hh := grd_some h111; clear h111; obtain ⟨g91, h111⟩ := hh
          have hh := getA2_some h111; clear h111; obtain ⟨p93, p94, h92, h111⟩ := hh
          injection h92 with h92
          have hh := getI_some h111; clear h111; obtain ⟨x96, h95, h111⟩ := hh
          have hh := grd_some h111; clear h111; obtain ⟨g97, h111⟩ := hh
          have hh := getI_some h111; clear h111; obtain ⟨x99, h98, h111⟩ := hh
          have hh := brn_some h111; clear h111; rcases hh with ⟨h100, h111⟩ | ⟨h100, h111⟩
          · have hh := brn_some h111; clear h111; rcases hh with ⟨h101, h111⟩ | ⟨h101, h111⟩
            · have hh := grd_some h111; clear h111; obtain ⟨g102, h111⟩ := hh
              have hh := grd_some h111; clear h111; obtain ⟨g103, h111⟩ := hh
              refine W_sound tab_ok mixed 65 _ _ _ ?_
              simp -implicitDefEqProofs only [go_sem, Nat.reduceBEq, Nat.reduceAdd, Nat.reduceSub, Nat.reduceMul, Nat.reduceLT, Nat.reduceLeDiff, Int.reduceLE, Int.reduceLT, Int.reduceToNat, Int.reduceBEq, Int.reduceBNe, ↓reduceIte, h23, h32, g64, g65, g66, g67, h88, g89, g90, g91, h92, h95, g97, h98, h100, h101, g102, g103]
              repeat with_reducible refine And.intro (by first | kernel_rfl | decide) ?_
              refine cutQ _ ?_ ⟨n, Nat.lt_succ_self n, _, _, _, h111, rfl⟩
              exact Wk_keep [0, 2, 10, 11, 39, 40, 41] (by kernel_rfl)
            · refine W_sound tab_ok mixed 51 _ _ _ ?_
              simp -implicitDefEqProofs only [go_sem, Nat.reduceBEq, Nat.reduceAdd, Nat.reduceSub, Nat.reduceMul, Nat.reduceLT, Nat.reduceLeDiff, Int.reduceLE, Int.reduceLT, Int.reduceToNat, Int.reduceBEq, Int.reduceBNe, ↓reduceIte, h23, h32, g64, g65, g66, g67, h88, g89, g90, g91, h92, h95, g97, h98, h100, h101]
              repeat with_reducible refine And.intro (by first | kernel_rfl | decide) ?_
              refine cutQ _ ?_ ⟨n, Nat.lt_succ_self n, _, _, _, h111, rfl⟩
              exact Wk_keep [0, 2, 10, 11, 39, 40, 41] (by kernel_rfl)
          · refine W_sound tab_ok mixed 51 _ _ _ ?_
            simp -implicitDefEqProofs only [go_sem, Nat.reduceBEq, Nat.reduceAdd, Nat.reduceSub, Nat.reduceMul, Nat.reduceLT, Nat.reduceLeDiff, Int.reduceLE, Int.reduceLT, Int.reduceToNat, Int.reduceBEq, Int.reduceBNe, ↓reduceIte, h23, h32, g64, g65, g66, g67, h88, g89, g90, g91, h92, h95, g97, h98, h100]
            repeat with_reducible refine And.intro (by first | kernel_rfl | decide) ?_
            refine cutQ _ ?_ ⟨n, Nat.lt_succ_self n, _, _, _, h111, rfl⟩
            exact Wk_keep [0, 2, 10, 11, 39, 40, 41] (by kernel_rfl)
        · refine W_sound tab_ok mixed 7 _ _ _ ?_
          simp -implicitDefEqProofs only [go_sem, Nat.reduceBEq, Nat.reduceAdd, Nat.reduceSub, Nat.reduceMul, Nat.reduceLT, Nat.reduceLeDiff, Int.reduceLE, Int.reduceLT, Int.reduceToNat, Int.reduceBEq, Int.reduceBNe, ↓reduceIte, h23, h32, g64, g65, g66, g67, h88]
          repeat with_reducible refine And.intro (by first | kernel_rfl | decide) ?_
          obtain rfl := Option.some.inj h111
          refine cutQ _ ?_ ⟨_, _, rfl, rfl⟩
          exact Wk_keep [10, 11] (by kernel_rfl)
    · rintro _ ⟨n104, c105, rfl, rfl⟩
      (try dsimp only at h112)
      refine W_sound tab_ok mixed 7 _ _ _ ?_
      simp -implicitDefEqProofs only [go_sem, Nat.reduceBEq, Nat.reduceAdd, Nat.reduceSub, Nat.reduceMul, Nat.reduceLT, Nat.reduceLeDiff, Int.reduceLE, Int.reduceLT, Int.reduceToNat, Int.reduceBEq, Int.reduceBNe, ↓reduceIte, h23, h32, g64, g65, g66, g67]
      repeat with_reducible refine And.intro (by first | kernel_rfl | decide) ?_
      have hh := grd_some h112; clear h112; obtain ⟨g106, h112⟩ := hh
      refine FinQ_wk (Wk_freeze 2 c105 (by rfl) (by decide) (by decide)) ?_
      simp -implicitDefEqProofs only [go_sem, Nat.reduceBEq, Nat.reduceAdd, Nat.reduceSub, Nat.reduceMul, Nat.reduceLT, Nat.reduceLeDiff, Int.reduceLE, Int.reduceLT, Int.reduceToNat, Int.reduceBEq, Int.reduceBNe, ↓reduceIte, h23, h32, g64, g65, g66, g67, g106]
      refine FinQ_wk (Wk_freeze 0 [(.int .i64 x18), (.lst false n104 c105)] (by rfl) (by decide) (by decide)) ?_
      simp -implicitDefEqProofs only [go_sem, Nat.reduceBEq, Nat.reduceAdd, Nat.reduceSub, Nat.reduceMul, Nat.reduceLT, Nat.reduceLeDiff, Int.reduceLE, Int.reduceLT, Int.reduceToNat, Int.reduceBEq, Int.reduceBNe, ↓reduceIte, h23, h32, g64, g65, g66, g67, g106]
      obtain rfl := Option.some.inj h112
      exact finC [(10, .v (.ipt [(.int .i64 x18), (.lst false n104 c105)]))] [(10, .v (.ipt [(.int .i64 x18), (.lst false n104 c105)]))] (by simp [leE, lk_cons]) (.cons _ _ _ _ _ (.v _ _ (.refl _)) .nil) (by rfl) (by simp [leE, lk_cons]) (by decide) (by decide) rfl (by simp only [go_sem, Nat.reduceBEq, Nat.reduceAdd, Nat.reduceSub, Nat.reduceMul, Nat.reduceLT, Nat.reduceLeDiff, Int.reduceLE, Int.reduceLT, Int.reduceToNat, Int.reduceBEq, Int.reduceBNe, ↓reduceIte, resQ_tmp, resQ_cell, resQ_nil, retD_one, retD_two, retD_three, retD_none]; (try simp [R.val, retD_one, retD_two, retD_three, retD_none]); try assumption)
def m59 (N : Nat) (x197 : Int) (x198 : Int) (x199 : Int) : Option (PV) :=
  brn (decide (x198 ≤ x197)) (
    some (.bool (decide (x197 ≤ x199)))) (
    some (.bool false))
theorem c59 (N : Nat) (x197 : Int) (x198 : Int) (x199 : Int) (r : PV)  (h : m59 N x197 x198 x199 = some r) : FnP Tryd.prog 59 [(.int .i64 x197), (.int .i64 x198), (.int .i64 x199)] r := by
  unfold m59 at h
  refine Fn_of (sz := 15) tab_ok [0, 1, 2, 6] [.tmp 6] Tryd.func59 rfl rfl rfl (by simp) ?_
  simp only [initSt, initEnv, List.map_cons, List.map_nil, List.getD_cons_zero, List.getD_cons_succ, List.getD_nil]
  have hh := brn_some h; clear h; rcases hh with ⟨h200, h⟩ | ⟨h200, h⟩
  · refine W_sound tab_ok mixed 18 _ _ _ ?_
    simp -implicitDefEqProofs only [go_sem, Nat.reduceBEq, Nat.reduceAdd, Nat.reduceSub, Nat.reduceMul, Nat.reduceLT, Nat.reduceLeDiff, Int.reduceLE, Int.reduceLT, Int.reduceToNat, Int.reduceBEq, Int.reduceBNe, ↓reduceIte, h200]
    repeat with_reducible refine And.intro (by first | kernel_rfl | decide) ?_
    obtain rfl := Option.some.inj h
    exact finC [(6, .v (.bool (decide (x197 ≤ x199))))] [(6, .v (.bool (decide (x197 ≤ x199))))] (by simp [leE, lk_cons]) (.cons _ _ _ _ _ (.v _ _ (.refl _)) .nil) (by rfl) (by simp [leE, lk_cons]) (by decide) (by decide) rfl (by simp only [go_sem, Nat.reduceBEq, Nat.reduceAdd, Nat.reduceSub, Nat.reduceMul, Nat.reduceLT, Nat.reduceLeDiff, Int.reduceLE, Int.reduceLT, Int.reduceToNat, Int.reduceBEq, Int.reduceBNe, ↓reduceIte, resQ_tmp, resQ_cell, resQ_nil, retD_one, retD_two, retD_three, retD_none]; (try simp [R.val, retD_one, retD_two, retD_three, retD_none]); try assumption)
  · refine W_sound tab_ok mixed 18 _ _ _ ?_
    simp -implicitDefEqProofs only [go_sem, Nat.reduceBEq, Nat.reduceAdd, Nat.reduceSub, Nat.reduceMul, Nat.reduceLT, Nat.reduceLeDiff, Int.reduceLE, Int.reduceLT, Int.reduceToNat, Int.reduceBEq, Int.reduceBNe, ↓reduceIte, h200]
    repeat with_reducible refine And.intro (by first | kernel_rfl | decide) ?_
    obtain rfl := Option.some.inj h
    exact finC [(6, .v (.bool false))] [(6, .v (.bool false))] (by simp [leE, lk_cons]) (.cons _ _ _ _ _ (.v _ _ (.refl _)) .nil) (by rfl) (by simp [leE, lk_cons]) (by decide) (by decide) rfl (by simp only [go_sem, Nat.reduceBEq, Nat.reduceAdd, Nat.reduceSub, Nat.reduceMul, Nat.reduceLT, Nat.reduceLeDiff, Int.reduceLE, Int.reduceLT, Int.reduceToNat, Int.reduceBEq, Int.reduceBNe, ↓reduceIte, resQ_tmp, resQ_cell, resQ_nil, retD_one, retD_two, retD_three, retD_none]; (try simp [R.val, retD_one, retD_two, retD_three, retD_none]); try assumption)
def m25_L0 (N : Nat) (x182 : Int) (n185 : Nat) (c186 : List PV) : Nat → Int → Int → Option ((PV ⊕ Int))
  | 0, _, _ => none
  | n + 1, x189, x190 =>
    brn (decide (x190 < ((n185 : Nat) : Int))) (
      grd (0 ≤ x190 ∧ x190 < ((n185 : Nat) : Int)) <|
      grd (0 < List.length (List.drop (Int.toNat x190) c186)) <|
      getI .i64 (gp c186 (Int.toNat x190)) fun x196 =>
      bnd' (m59 N x196 1 1000) fun p201 =>
      getB p201 fun b204 =>
      brn b204 (
        m25_L0 N x182 n185 c186 n (IntKind.i64.wrap (x189 + x196)) (IntKind.i64.wrap (x190 + 1))) (
        some (.inl (.int .i64 1)))) (
      some (.inr x189))
def m25 (N : Nat) (x182 : Int) (p183 : PV) : Option (PV) :=
  getL p183 fun n185 c186 =>
  brn (((n185 : Nat) : Int) == 0) (
    some (.int .i64 4)) (
    brn (decide (((n185 : Nat) : Int) > 5)) (
      some (.int .i64 3)) (
      bnd' (m25_L0 N x182 n185 c186 N 0 0) fun o =>
      match o with
      | .inl p206 =>
        some p206
      | .inr x207 =>
        bnd' (m59 N x182 0 x207) fun p208 =>
        getB p208 fun b211 =>
        brn b211 (
          some (.int .i64 0)) (
          some (.int .i64 1))))
theorem c25 (N : Nat) (x182 : Int) (p183 : PV) (r : PV)  (h : m25 N x182 p183 = some r) : FnP Tryd.prog 25 [(.int .i64 x182), p183] r := by
  unfold m25 at h
  refine Fn_of (sz := 33) tab_ok [0, 1, 4, 5, 7, 8, 12, 16, 17, 18, 19, 24, 32] [.tmp 4] Tryd.func25 rfl rfl rfl (by simp) ?_
  simp only [initSt, initEnv, List.map_cons, List.map_nil, List.getD_cons_zero, List.getD_cons_succ, List.getD_nil]
  have hh := getL_some h; clear h; obtain ⟨n185, c186, h184, h⟩ := hh
  have hh := brn_some h; clear h; rcases hh with ⟨h187, h⟩ | ⟨h187, h⟩
  · refine W_sound tab_ok mixed 20 _ _ _ ?_
    simp -implicitDefEqProofs only [go_sem, Nat.reduceBEq, Nat.reduceAdd, Nat.reduceSub, Nat.reduceMul, Nat.reduceLT, Nat.reduceLeDiff, Int.reduceLE, Int.reduceLT, Int.reduceToNat, Int.reduceBEq, Int.reduceBNe, ↓reduceIte, h184, h187]
    repeat with_reducible refine And.intro (by first | kernel_rfl | decide) ?_
    obtain rfl := Option.some.inj h
    exact finC [(4, .v (.int .i64 4))] [(4, .v (.int .i64 4))] (by simp [leE, lk_cons]) (.cons _ _ _ _ _ (.v _ _ (.refl _)) .nil) (by rfl) (by simp [leE, lk_cons]) (by decide) (by decide) rfl (by simp only [go_sem, Nat.reduceBEq, Nat.reduceAdd, Nat.reduceSub, Nat.reduceMul, Nat.reduceLT, Nat.reduceLeDiff, Int.reduceLE, Int.reduceLT, Int.reduceToNat, Int.reduceBEq, Int.reduceBNe, ↓reduceIte, resQ_tmp, resQ_cell, resQ_nil, retD_one, retD_two, retD_three, retD_none]; (try simp [R.val, retD_one, retD_two, retD_three, retD_none]); try assumption)
  · have hh := brn_some h; clear h; rcases hh with ⟨h188, h⟩ | ⟨h188, h⟩
    · refine W_sound tab_ok mixed 28 _ _ _ ?_
      simp -implicitDefEqProofs only [go_sem, Nat.reduceBEq, Nat.reduceAdd, Nat.reduceSub, Nat.reduceMul, Nat.reduceLT, Nat.reduceLeDiff, Int.reduceLE, Int.reduceLT, Int.reduceToNat, Int.reduceBEq, Int.reduceBNe, ↓reduceIte, h184, h187, h188]
      repeat with_reducible refine And.intro (by first | kernel_rfl | decide) ?_
      obtain rfl := Option.some.inj h
      exact finC [(4, .v (.int .i64 3))] [(4, .v (.int .i64 3))] (by simp [leE, lk_cons]) (.cons _ _ _ _ _ (.v _ _ (.refl _)) .nil) (by rfl) (by simp [leE, lk_cons]) (by decide) (by decide) rfl (by simp only [go_sem, Nat.reduceBEq, Nat.reduceAdd, Nat.reduceSub, Nat.reduceMul, Nat.reduceLT, Nat.reduceLeDiff, Int.reduceLE, Int.reduceLT, Int.reduceToNat, Int.reduceBEq, Int.reduceBNe, ↓reduceIte, resQ_tmp, resQ_cell, resQ_nil, retD_one, retD_two, retD_three, retD_none]; (try simp [R.val, retD_one, retD_two, retD_three, retD_none]); try assumption)
    · refine W_sound tab_ok mixed 35 _ _ _ ?_
      simp -implicitDefEqProofs only [go_sem, Nat.reduceBEq, Nat.reduceAdd, Nat.reduceSub, Nat.reduceMul, Nat.reduceLT, Nat.reduceLeDiff, Int.reduceLE, Int.reduceLT, Int.reduceToNat, Int.reduceBEq, Int.reduceBNe, ↓reduceIte, h184, h187, h188]
      repeat with_reducible refine And.intro (by first | kernel_rfl | decide) ?_
      have hh := bnd'_some h; clear h; obtain ⟨o213, h214, h215⟩ := hh
      refine Wp_cut (fun s => ∃ x207, (.inr x207) = o213 ∧ s = ⟨[], [(0, .v (.int .i64 x182)), (1, .dead), (4, .dead), (5, .v (.int .i64 x207)), (7, .dead), (8, .dead), (12, .dead), (16, .dead), (17, .dead), (18, .dead), (19, .dead), (24, .dead), (32, .dead)], [], 0, []⟩) ?_ ?_
      · refine Wp_block ?_
        refine Wp_loopG (fun n s => ∃ x189, ∃ x190, m25_L0 N x182 n185 c186 n x189 x190 = some o213 ∧ s = ⟨[], [(0, .v (.int .i64 x182)), (1, .dead), (4, .dead), (5, .v (.int .i64 x189)), (7, .dead), (8, .dead), (12, .dead), (16, .v (.lst false n185 c186)), (17, .v (.int .i64 ((n185 : Nat) : Int))), (18, .v (.int .i64 x190)), (19, .dead), (24, .dead), (32, .dead)], [], 0, []⟩) N _ (Wk_keep (st' := ⟨[], [(0, .v (.int .i64 x182)), (1, .dead), (4, .dead), (5, .v (.int .i64 0)), (7, .dead), (8, .dead), (12, .dead), (16, .v (.lst false n185 c186)), (17, .v (.int .i64 ((n185 : Nat) : Int))), (18, .v (.int .i64 0)), (19, .dead), (24, .dead), (32, .dead)], [], 0, []⟩) [0, 5, 16, 17, 18] (by kernel_rfl)) ⟨_, _, h214, rfl⟩ ?_
        clear h214
        rintro n _ ⟨x189, x190, h214, rfl⟩
        cases n with
        | zero => cases h214
        | succ n =>
          rw [m25_L0] at h214
          have hh := brn_some h214; clear h214; rcases hh with ⟨h191, h214⟩ | ⟨h191, h214⟩
          · have hh := grd_some h214; clear h214; obtain ⟨⟨g192, g193⟩, h214⟩ := hh
            have hh := grd_some h214; clear h214; obtain ⟨g194, h214⟩ := hh
            have hh := getI_some h214; clear h214; obtain ⟨x196, h195, h214⟩ := hh
            have hh := bnd'_some h214; clear h214; obtain ⟨p201, h202, h214⟩ := hh
            refine W_sound tab_ok mixed 19 _ _ _ ?_
            simp -implicitDefEqProofs only [go_sem, Nat.reduceBEq, Nat.reduceAdd, Nat.reduceSub, Nat.reduceMul, Nat.reduceLT, Nat.reduceLeDiff, Int.reduceLE, Int.reduceLT, Int.reduceToNat, Int.reduceBEq, Int.reduceBNe, ↓reduceIte, h184, h187, h188, h191, g192, g193, g194, h195]
            repeat with_reducible refine And.intro (by first | kernel_rfl | decide) ?_
            refine Wp_callP (c59 N _ _ _ _ h202) (by kernel_rfl) rfl rfl rfl rfl (by decide) ?_
            have hh := getB_some h214; clear h214; obtain ⟨b204, h203, h214⟩ := hh
            have hh := brn_some h214; clear h214; rcases hh with ⟨h205, h214⟩ | ⟨h205, h214⟩
            · refine W_sound tab_ok mixed 15 _ _ _ ?_
              simp -implicitDefEqProofs only [go_sem, Nat.reduceBEq, Nat.reduceAdd, Nat.reduceSub, Nat.reduceMul, Nat.reduceLT, Nat.reduceLeDiff, Int.reduceLE, Int.reduceLT, Int.reduceToNat, Int.reduceBEq, Int.reduceBNe, ↓reduceIte, h184, h187, h188, h191, g192, g193, g194, h195, h203, h205]
              repeat with_reducible refine And.intro (by first | kernel_rfl | decide) ?_
              refine cutQ _ ?_ ⟨n, Nat.lt_succ_self n, _, _, h214, rfl⟩
              exact Wk_keep [0, 5, 16, 17, 18] (by kernel_rfl)
            · refine W_sound tab_ok mixed 9 _ _ _ ?_
              simp -implicitDefEqProofs only [go_sem, Nat.reduceBEq, Nat.reduceAdd, Nat.reduceSub, Nat.reduceMul, Nat.reduceLT, Nat.reduceLeDiff, Int.reduceLE, Int.reduceLT, Int.reduceToNat, Int.reduceBEq, Int.reduceBNe, ↓reduceIte, h184, h187, h188, h191, g192, g193, g194, h195, h203, h205]
              repeat with_reducible refine And.intro (by first | kernel_rfl | decide) ?_
              obtain rfl := Option.some.inj h214
              (try dsimp only at h215)
              obtain rfl := Option.some.inj h215
              exact finC [(4, .v (.int .i64 1))] [(4, .v (.int .i64 1))] (by simp [leE, lk_cons]) (.cons _ _ _ _ _ (.v _ _ (.refl _)) .nil) (by rfl) (by simp [leE, lk_cons]) (by decide) (by decide) rfl (by simp only [go_sem, Nat.reduceBEq, Nat.reduceAdd, Nat.reduceSub, Nat.reduceMul, Nat.reduceLT, Nat.reduceLeDiff, Int.reduceLE, Int.reduceLT, Int.reduceToNat, Int.reduceBEq, Int.reduceBNe, ↓reduceIte, resQ_tmp, resQ_cell, resQ_nil, retD_one, retD_two, retD_three, retD_none]; (try simp [R.val, retD_one, retD_two, retD_three, retD_none]); try assumption)
          · refine W_sound tab_ok mixed 7 _ _ _ ?_
            simp -implicitDefEqProofs only [go_sem, Nat.reduceBEq, Nat.reduceAdd, Nat.reduceSub, Nat.reduceMul, Nat.reduceLT, Nat.reduceLeDiff, Int.reduceLE, Int.reduceLT, Int.reduceToNat, Int.reduceBEq, Int.reduceBNe, ↓reduceIte, h184, h187, h188, h191]
            repeat with_reducible refine And.intro (by first | kernel_rfl | decide) ?_
            obtain rfl := Option.some.inj h214
            refine cutQ _ ?_ ⟨_, rfl, rfl⟩
            exact Wk_keep [0, 5] (by kernel_rfl)
      · rintro _ ⟨x207, rfl, rfl⟩
        (try dsimp only at h215)
        have hh := bnd'_some h215; clear h215; obtain ⟨p208, h209, h215⟩ := hh
        refine W_sound tab_ok mixed 5 _ _ _ ?_
        simp -implicitDefEqProofs only [go_sem, Nat.reduceBEq, Nat.reduceAdd, Nat.reduceSub, Nat.reduceMul, Nat.reduceLT, Nat.reduceLeDiff, Int.reduceLE, Int.reduceLT, Int.reduceToNat, Int.reduceBEq, Int.reduceBNe, ↓reduceIte, h184, h187, h188]
        repeat with_reducible refine And.intro (by first | kernel_rfl | decide) ?_
        refine Wp_callP (c59 N _ _ _ _ h209) (by kernel_rfl) rfl rfl rfl rfl (by decide) ?_
        have hh := getB_some h215; clear h215; obtain ⟨b211, h210, h215⟩ := hh
        have hh := brn_some h215; clear h215; rcases hh with ⟨h212, h215⟩ | ⟨h212, h215⟩
        · refine W_sound tab_ok mixed 10 _ _ _ ?_
          simp -implicitDefEqProofs only [go_sem, Nat.reduceBEq, Nat.reduceAdd, Nat.reduceSub, Nat.reduceMul, Nat.reduceLT, Nat.reduceLeDiff, Int.reduceLE, Int.reduceLT, Int.reduceToNat, Int.reduceBEq, Int.reduceBNe, ↓reduceIte, h184, h187, h188, h210, h212]
          repeat with_reducible refine And.intro (by first | kernel_rfl | decide) ?_
          obtain rfl := Option.some.inj h215
          exact finC [(4, .v (.int .i64 0))] [(4, .v (.int .i64 0))] (by simp [leE, lk_cons]) (.cons _ _ _ _ _ (.v _ _ (.refl _)) .nil) (by rfl) (by simp [leE, lk_cons]) (by decide) (by decide) rfl (by simp only [go_sem, Nat.reduceBEq, Nat.reduceAdd, Nat.reduceSub, Nat.reduceMul, Nat.reduceLT, Nat.reduceLeDiff, Int.reduceLE, Int.reduceLT, Int.reduceToNat, Int.reduceBEq, Int.reduceBNe, ↓reduceIte, resQ_tmp, resQ_cell, resQ_nil, retD_one, retD_two, retD_three, retD_none]; (try simp [R.val, retD_one, retD_two, retD_three, retD_none]); try assumption)
        · refine W_sound tab_ok mixed 9 _ _ _ ?_
          simp -implicitDefEqProofs only [go_sem, Nat.reduceBEq, Nat.reduceAdd, Nat.reduceSub, Nat.reduceMul, Nat.reduceLT, Nat.reduceLeDiff, Int.reduceLE, Int.reduceLT, Int.reduceToNat, Int.reduceBEq, Int.reduceBNe, ↓reduceIte, h184, h187, h188, h210, h212]
          repeat with_reducible refine And.intro (by first | kernel_rfl | decide) ?_
          obtain rfl := Option.some.inj h215
          exact finC [(4, .v (.int .i64 1))] [(4, .v (.int .i64 1))] (by simp [leE, lk_cons]) (.cons _ _ _ _ _ (.v _ _ (.refl _)) .nil) (by rfl) (by simp [leE, lk_cons]) (by decide) (by decide) rfl (by simp only [go_sem, Nat.reduceBEq, Nat.reduceAdd, Nat.reduceSub, Nat.reduceMul, Nat.reduceLT, Nat.reduceLeDiff, Int.reduceLE, Int.reduceLT, Int.reduceToNat, Int.reduceBEq, Int.reduceBNe, ↓reduceIte, resQ_tmp, resQ_cell, resQ_nil, retD_one, retD_two, retD_three, retD_none]; (try simp [R.val, retD_one, retD_two, retD_three, retD_none]); try assumption)
def m26_L0 (N : Nat) (x222 : Int) (n224 : Nat) (c225 : List PV) : Nat → Int → Int → List PV → Option ((Int × List PV))
  | 0, _, _, _ => none
  | n + 1, x236, x237, c238 =>
    brn (decide (x237 < ((n224 : Nat) : Int))) (
      grd (0 ≤ x237 ∧ x237 < ((n224 : Nat) : Int)) <|
      grd (0 < List.length (List.drop (Int.toNat x237) c225)) <|
      getI .i64 (gp c225 (Int.toNat x237)) fun x244 =>
      grd (x237 < 5) <|
      grd (((Int.toNat x237) + 1) ≤ List.length c238) <|
      m26_L0 N x222 n224 c225 n (IntKind.i64.wrap (x236 + (IntKind.i64.wrap (x222 * x244)))) (IntKind.i64.wrap (x237 + 1)) (List.set c238 (Int.toNat x237) (.int .i64 (IntKind.i64.wrap (x222 * x244))))) (
      some (x236, c238))
def m26 (N : Nat) (p221 : PV) (x222 : Int) : Option (PV) :=
  getL p221 fun n224 c225 =>
  bnd' (m26_L0 N x222 n224 c225 N 0 0 [(.int .i64 0), (.int .i64 0), (.int .i64 0), (.int .i64 0), (.int .i64 0)]) fun o =>
  match o with
  | (x247, c248) =>
    grd (5 ≤ List.length c248) <|
    getA5 (.agg (List.take 5 c248)) fun p251 p252 p253 p254 p255 =>
    some (.tup [(.agg (List.take 5 (List.set (List.set (List.set (List.set (List.set c248 0 p251) 1 p252) 2 p253) 3 p254) 4 p255))), (.int .i64 x247)])
theorem c26 (N : Nat) (p221 : PV) (x222 : Int) (r : PV)  (h : m26 N p221 x222 = some r) : FnP Tryd.prog 26 [p221, (.int .i64 x222)] r := by
  unfold m26 at h
  refine Fn_of (sz := 28) tab_ok [0, 1, 4, 5, 6, 7, 8, 9, 10, 11] [.cell 4 62, .tmp 5] Tryd.func26 rfl rfl rfl (by simp) ?_
  simp only [initSt, initEnv, List.map_cons, List.map_nil, List.getD_cons_zero, List.getD_cons_succ, List.getD_nil]
  have hh := getL_some h; clear h; obtain ⟨n224, c225, h223, h⟩ := hh
  refine W_sound tab_ok mixed 12 _ _ _ ?_
  simp -implicitDefEqProofs only [go_sem, Nat.reduceBEq, Nat.reduceAdd, Nat.reduceSub, Nat.reduceMul, Nat.reduceLT, Nat.reduceLeDiff, Int.reduceLE, Int.reduceLT, Int.reduceToNat, Int.reduceBEq, Int.reduceBNe, ↓reduceIte, h223]
  repeat with_reducible refine And.intro (by first | kernel_rfl | decide) ?_
  have hh := bnd'_some h; clear h; obtain ⟨o256, h257, h258⟩ := hh
  refine Wp_cut (fun s => ∃ x247, ∃ c248, (x247, c248) = o256 ∧ s = ⟨[], [(0, .dead), (1, .dead), (4, .ptr 0 0), (5, .v (.int .i64 x247)), (6, .dead), (7, .dead), (8, .dead), (9, .dead), (10, .dead), (11, .dead)], [(0, .p c248)], 1, []⟩) ?_ ?_
  · refine Wp_block ?_
    refine Wp_loopG (fun n s => ∃ x236, ∃ x237, ∃ c238, m26_L0 N x222 n224 c225 n x236 x237 c238 = some o256 ∧ s = ⟨[], [(0, .dead), (1, .v (.int .i64 x222)), (4, .ptr 0 0), (5, .v (.int .i64 x236)), (6, .dead), (7, .dead), (8, .v (.lst false n224 c225)), (9, .v (.int .i64 ((n224 : Nat) : Int))), (10, .v (.int .i64 x237)), (11, .dead)], [(0, .p c238)], 1, []⟩) N _ (Wk_keep (st' := ⟨[], [(0, .dead), (1, .v (.int .i64 x222)), (4, .ptr 0 0), (5, .v (.int .i64 0)), (6, .dead), (7, .dead), (8, .v (.lst false n224 c225)), (9, .v (.int .i64 ((n224 : Nat) : Int))), (10, .v (.int .i64 0)), (11, .dead)], [(0, .p [(.int .i64 0), (.int .i64 0), (.int .i64 0), (.int .i64 0), (.int .i64 0)])], 1, []⟩) [1, 4, 5, 8, 9, 10] (by kernel_rfl)) ⟨_, _, _, h257, rfl⟩ ?_
    clear h257
    rintro n _ ⟨x236, x237, c238, h257, rfl⟩
    cases n with
    | zero => cases h257
    | succ n =>
      rw [m26_L0] at h257
      have hh := brn_some h257; clear h257; rcases hh with ⟨h239, h257⟩ | ⟨h239, h257⟩
      · have hh := grd_some h257; clear h257; obtain ⟨⟨g240, g241⟩, h257⟩ := hh
        have hh := grd_some h257; clear h257; obtain ⟨g242, h257⟩ := hh
        have hh := getI_some h257; clear h257; obtain ⟨x244, h243, h257⟩ := hh
        have hh := grd_some h257; clear h257; obtain ⟨g245, h257⟩ := hh
        have hh := grd_some h257; clear h257; obtain ⟨g246, h257⟩ := hh
        refine W_sound tab_ok mixed 39 _ _ _ ?_
        simp -implicitDefEqProofs only [go_sem, Nat.reduceBEq, Nat.reduceAdd, Nat.reduceSub, Nat.reduceMul, Nat.reduceLT, Nat.reduceLeDiff, Int.reduceLE, Int.reduceLT, Int.reduceToNat, Int.reduceBEq, Int.reduceBNe, ↓reduceIte, h223, h239, g240, g241, g242, h243, g245, g246]
        repeat with_reducible refine And.intro (by first | kernel_rfl | decide) ?_
        refine cutQ _ ?_ ⟨n, Nat.lt_succ_self n, _, _, _, h257, rfl⟩
        exact Wk_keep [1, 4, 5, 8, 9, 10] (by kernel_rfl)
      · refine W_sound tab_ok mixed 7 _ _ _ ?_
        simp -implicitDefEqProofs only [go_sem, Nat.reduceBEq, Nat.reduceAdd, Nat.reduceSub, Nat.reduceMul, Nat.reduceLT, Nat.reduceLeDiff, Int.reduceLE, Int.reduceLT, Int.reduceToNat, Int.reduceBEq, Int.reduceBNe, ↓reduceIte, h223, h239]
        repeat with_reducible refine And.intro (by first | kernel_rfl | decide) ?_
        obtain rfl := Option.some.inj h257
        refine cutQ _ ?_ ⟨_, _, rfl, rfl⟩
        exact Wk_keep [4, 5] (by kernel_rfl)
  · rintro _ ⟨x247, c248, rfl, rfl⟩
    (try dsimp only at h258)
    have hh := grd_some h258; clear h258; obtain ⟨g249, h258⟩ := hh
    have hh := getA5_some h258; clear h258; obtain ⟨p251, p252, p253, p254, p255, h250, h258⟩ := hh
    injection h250 with h250
    refine W_sound tab_ok mixed 9 _ _ _ ?_
    simp -implicitDefEqProofs only [go_sem, Nat.reduceBEq, Nat.reduceAdd, Nat.reduceSub, Nat.reduceMul, Nat.reduceLT, Nat.reduceLeDiff, Int.reduceLE, Int.reduceLT, Int.reduceToNat, Int.reduceBEq, Int.reduceBNe, ↓reduceIte, h223, g249, h250]
    repeat with_reducible refine And.intro (by first | kernel_rfl | decide) ?_
    refine FinQ_wk (Wk_freeze 0 (List.set (List.set (List.set (List.set (List.set c248 0 p251) 1 p252) 2 p253) 3 p254) 4 p255) (by rfl) (by decide) (by decide)) ?_
    simp -implicitDefEqProofs only [go_sem, Nat.reduceBEq, Nat.reduceAdd, Nat.reduceSub, Nat.reduceMul, Nat.reduceLT, Nat.reduceLeDiff, Int.reduceLE, Int.reduceLT, Int.reduceToNat, Int.reduceBEq, Int.reduceBNe, ↓reduceIte, h223, g249, h250]
    obtain rfl := Option.some.inj h258
    exact finC [(4, .v (.ipt (List.set (List.set (List.set (List.set (List.set c248 0 p251) 1 p252) 2 p253) 3 p254) 4 p255))), (5, .v (.int .i64 x247))] [(4, .v (.ipt (List.set (List.set (List.set (List.set (List.set c248 0 p251) 1 p252) 2 p253) 3 p254) 4 p255))), (5, .v (.int .i64 x247))] (by simp [leE, lk_cons]) (.cons _ _ _ _ _ (.v _ _ (.refl _)) (.cons _ _ _ _ _ (.v _ _ (.refl _)) .nil)) (by rfl) (by simp [leE, lk_cons]) (by decide) (by decide) rfl (by simp only [go_sem, Nat.reduceBEq, Nat.reduceAdd, Nat.reduceSub, Nat.reduceMul, Nat.reduceLT, Nat.reduceLeDiff, Int.reduceLE, Int.reduceLT, Int.reduceToNat, Int.reduceBEq, Int.reduceBNe, ↓reduceIte, resQ_tmp, resQ_cell, resQ_nil, retD_one, retD_two, retD_three, retD_none]; (try simp [R.val, retD_one, retD_two, retD_three, retD_none]); try assumption)
def m110 (N : Nat) (x304 : Int) : Option (PV) :=
  brn (decide (x304 ≥ 4294967296)) (
    none) (
    brn (decide (x304 ≥ 65536)) (
      none) (
      brn (decide (x304 ≥ 256)) (
        none) (
        grd (0 ≤ (IntKind.u8.wrap x304)) <|
        getS ⟨#[0, 1, 2, 2, 3, 3, 3, 3, 4, 4, 4, 4, 4, 4, 4, 4, 5, 5, 5, 5, 5, 5, 5, 5, 5, 5, 5, 5, 5, 5, 5, 5, 6, 6, 6, 6, 6, 6, 6, 6, 6, 6, 6, 6, 6, 6, 6, 6, 6, 6, 6, 6, 6, 6, 6, 6, 6, 6, 6, 6, 6, 6, 6, 6, 7, 7, 7, 7, 7, 7, 7, 7, 7, 7, 7, 7, 7, 7, 7, 7, 7, 7, 7, 7, 7, 7, 7, 7, 7, 7, 7, 7, 7, 7, 7, 7, 7, 7, 7, 7, 7, 7, 7, 7, 7, 7, 7, 7, 7, 7, 7, 7, 7, 7, 7, 7, 7, 7, 7, 7, 7, 7, 7, 7, 7, 7, 7, 7, 8, 8, 8, 8, 8, 8, 8, 8, 8, 8, 8, 8, 8, 8, 8, 8, 8, 8, 8, 8, 8, 8, 8, 8, 8, 8, 8, 8, 8, 8, 8, 8, 8, 8, 8, 8, 8, 8, 8, 8, 8, 8, 8, 8, 8, 8, 8, 8, 8, 8, 8, 8, 8, 8, 8, 8, 8, 8, 8, 8, 8, 8, 8, 8, 8, 8, 8, 8, 8, 8, 8, 8, 8, 8, 8, 8, 8, 8, 8, 8, 8, 8, 8, 8, 8, 8, 8, 8, 8, 8, 8, 8, 8, 8, 8, 8, 8, 8, 8, 8, 8, 8, 8, 8, 8, 8, 8, 8, 8, 8, 8, 8, 8, 8, 8, 8, 8, 8, 8, 8, 8, 8, 8, 8, 8, 8, 8, 8]⟩ (Int.toNat (IntKind.u8.wrap x304)) fun x309 =>
        some (.int .i64 (IntKind.i64.wrap (0 + (IntKind.i64.wrap x309)))))))
theorem c110 (N : Nat) (x304 : Int) (r : PV)  (h : m110 N x304 = some r) : FnP Tryd.prog 110 [(.int .u64 x304)] r := by
  unfold m110 at h
  refine Fn_of (sz := 25) tab_ok [0, 2, 4, 8, 14] [.tmp 2] Tryd.func110 rfl rfl rfl (by simp) ?_
  simp only [initSt, initEnv, List.map_cons, List.map_nil, List.getD_cons_zero, List.getD_cons_succ, List.getD_nil]
  have hh := brn_some h; clear h; rcases hh with ⟨h305, h⟩ | ⟨h305, h⟩
  · cases h
  · have hh := brn_some h; clear h; rcases hh with ⟨h306, h⟩ | ⟨h306, h⟩
    · cases h
    · have hh := brn_some h; clear h; rcases hh with ⟨h307, h⟩ | ⟨h307, h⟩
      · cases h
      · have hh := grd_some h; clear h; obtain ⟨g308, h⟩ := hh
        have hh := getS_some h; clear h; obtain ⟨_, x309, h310, h311, h⟩ := hh
        refine W_sound tab_ok mixed 40 _ _ _ ?_
        simp -implicitDefEqProofs only [go_sem, Nat.reduceBEq, Nat.reduceAdd, Nat.reduceSub, Nat.reduceMul, Nat.reduceLT, Nat.reduceLeDiff, Int.reduceLE, Int.reduceLT, Int.reduceToNat, Int.reduceBEq, Int.reduceBNe, ↓reduceIte, h305, h306, h307, g308, h310, h311]
        split
        rotate_left
        · rename_i hb; exact absurd (hb.symm.trans h310) (by simp)
        rename_i b hb
        obtain rfl := Option.some.inj (hb.symm.trans h310)
        simp -implicitDefEqProofs only [go_sem, Nat.reduceBEq, Nat.reduceAdd, Nat.reduceSub, Nat.reduceMul, Nat.reduceLT, Nat.reduceLeDiff, Int.reduceLE, Int.reduceLT, Int.reduceToNat, Int.reduceBEq, Int.reduceBNe, ↓reduceIte, h305, h306, h307, g308, h310, h311]
        repeat with_reducible refine And.intro (by first | kernel_rfl | decide) ?_
        obtain rfl := Option.some.inj h
        exact finC [(2, .v (.int .i64 (IntKind.i64.wrap (0 + (IntKind.i64.wrap x309)))))] [(2, .v (.int .i64 (IntKind.i64.wrap (0 + (IntKind.i64.wrap x309)))))] (by simp [leE, lk_cons, -Int.zero_add]) (.cons _ _ _ _ _ (.v _ _ (.refl _)) .nil) (by rfl) (by simp [leE, lk_cons, -Int.zero_add]) (by decide) (by decide) rfl (by simp only [go_sem, Nat.reduceBEq, Nat.reduceAdd, Nat.reduceSub, Nat.reduceMul, Nat.reduceLT, Nat.reduceLeDiff, Int.reduceLE, Int.reduceLT, Int.reduceToNat, Int.reduceBEq, Int.reduceBNe, ↓reduceIte, resQ_tmp, resQ_cell, resQ_nil, retD_one, retD_two, retD_three, retD_none]; (try simp [R.val, retD_one, retD_two, retD_three, retD_none]); try assumption)
def m85 (N : Nat) (x303 : Int) : Option (PV) :=
  bnd' (m110 N x303) fun p312 =>
  getI .i64 p312 fun x315 =>
  some (.int .i64 x315)
theorem c85 (N : Nat) (x303 : Int) (r : PV)  (h : m85 N x303 = some r) : FnP Tryd.prog 85 [(.int .u64 x303)] r := by
  unfold m85 at h
  refine Fn_of (sz := 8) tab_ok [0, 2] [.tmp 2] Tryd.func85 rfl rfl rfl (by simp) ?_
  simp only [initSt, initEnv, List.map_cons, List.map_nil, List.getD_cons_zero, List.getD_cons_succ, List.getD_nil]
  have hh := bnd'_some h; clear h; obtain ⟨p312, h313, h⟩ := hh
  refine W_sound tab_ok mixed 10 _ _ _ ?_
  simp -implicitDefEqProofs only [go_sem, Nat.reduceBEq, Nat.reduceAdd, Nat.reduceSub, Nat.reduceMul, Nat.reduceLT, Nat.reduceLeDiff, Int.reduceLE, Int.reduceLT, Int.reduceToNat, Int.reduceBEq, Int.reduceBNe, ↓reduceIte]
  repeat with_reducible refine And.intro (by first | kernel_rfl | decide) ?_
  refine Wp_callP (c110 N _ _ h313) (by kernel_rfl) rfl rfl rfl rfl (by decide) ?_
  have hh := getI_some h; clear h; obtain ⟨x315, h314, h⟩ := hh
  refine W_sound tab_ok mixed 4 _ _ _ ?_
  simp -implicitDefEqProofs only [go_sem, Nat.reduceBEq, Nat.reduceAdd, Nat.reduceSub, Nat.reduceMul, Nat.reduceLT, Nat.reduceLeDiff, Int.reduceLE, Int.reduceLT, Int.reduceToNat, Int.reduceBEq, Int.reduceBNe, ↓reduceIte, h314]
  repeat with_reducible refine And.intro (by first | kernel_rfl | decide) ?_
  obtain rfl := Option.some.inj h
  exact finC [(2, .v (.int .i64 x315))] [(2, .v (.int .i64 x315))] (by simp [leE, lk_cons]) (.cons _ _ _ _ _ (.v _ _ (.refl _)) .nil) (by rfl) (by simp [leE, lk_cons]) (by decide) (by decide) rfl (by simp only [go_sem, Nat.reduceBEq, Nat.reduceAdd, Nat.reduceSub, Nat.reduceMul, Nat.reduceLT, Nat.reduceLeDiff, Int.reduceLE, Int.reduceLT, Int.reduceToNat, Int.reduceBEq, Int.reduceBNe, ↓reduceIte, resQ_tmp, resQ_cell, resQ_nil, retD_one, retD_two, retD_three, retD_none]; (try simp [R.val, retD_one, retD_two, retD_three, retD_none]); try assumption)
def m88 (N : Nat) (x359 : Int) : Option (PV) :=
  some (.bool (x359 != x359))
theorem c88 (N : Nat) (x359 : Int) (r : PV)  (h : m88 N x359 = some r) : FnP Tryd.prog 88 [(.int .i64 x359)] r := by
  unfold m88 at h
  refine Fn_of (sz := 6) tab_ok [0, 2] [.tmp 2] Tryd.func88 rfl rfl rfl (by simp) ?_
  simp only [initSt, initEnv, List.map_cons, List.map_nil, List.getD_cons_zero, List.getD_cons_succ, List.getD_nil]
  refine W_sound tab_ok mixed 13 _ _ _ ?_
  simp -implicitDefEqProofs only [go_sem, Nat.reduceBEq, Nat.reduceAdd, Nat.reduceSub, Nat.reduceMul, Nat.reduceLT, Nat.reduceLeDiff, Int.reduceLE, Int.reduceLT, Int.reduceToNat, Int.reduceBEq, Int.reduceBNe, ↓reduceIte]
  repeat with_reducible refine And.intro (by first | kernel_rfl | decide) ?_
  obtain rfl := Option.some.inj h
  exact finC [(2, .v (.bool (x359 != x359)))] [(2, .v (.bool (x359 != x359)))] (by simp [leE, lk_cons]) (.cons _ _ _ _ _ (.v _ _ (.refl _)) .nil) (by rfl) (by simp [leE, lk_cons]) (by decide) (by decide) rfl (by simp only [go_sem, Nat.reduceBEq, Nat.reduceAdd, Nat.reduceSub, Nat.reduceMul, Nat.reduceLT, Nat.reduceLeDiff, Int.reduceLE, Int.reduceLT, Int.reduceToNat, Int.reduceBEq, Int.reduceBNe, ↓reduceIte, resQ_tmp, resQ_cell, resQ_nil, retD_one, retD_two, retD_three, retD_none]; (try simp [R.val, retD_one, retD_two, retD_three, retD_none]); try assumption)
def m106 (N : Nat) (x357 : Int) (x358 : Int) : Option (PV) :=
  bnd' (m88 N x357) fun p360 =>
  getB p360 fun b363 =>
  brn b363 (
    bnd' (m88 N x358) fun p365 =>
    getB p365 fun b368 =>
    brn b368 (
      some (.bool (decide (x357 < x358)))) (
      some (.bool true))) (
    some (.bool (decide (x357 < x358))))
theorem c106 (N : Nat) (x357 : Int) (x358 : Int) (r : PV)  (h : m106 N x357 x358 = some r) : FnP Tryd.prog 106 [(.int .i64 x357), (.int .i64 x358)] r := by
  unfold m106 at h
  refine Fn_of (sz := 17) tab_ok [0, 1, 4] [.tmp 4] Tryd.func106 rfl rfl rfl (by simp) ?_
  simp only [initSt, initEnv, List.map_cons, List.map_nil, List.getD_cons_zero, List.getD_cons_succ, List.getD_nil]
  have hh := bnd'_some h; clear h; obtain ⟨p360, h361, h⟩ := hh
  refine W_sound tab_ok mixed 7 _ _ _ ?_
  simp -implicitDefEqProofs only [go_sem, Nat.reduceBEq, Nat.reduceAdd, Nat.reduceSub, Nat.reduceMul, Nat.reduceLT, Nat.reduceLeDiff, Int.reduceLE, Int.reduceLT, Int.reduceToNat, Int.reduceBEq, Int.reduceBNe, ↓reduceIte]
  repeat with_reducible refine And.intro (by first | kernel_rfl | decide) ?_
  refine Wp_callP (c88 N _ _ h361) (by kernel_rfl) rfl rfl rfl rfl (by decide) ?_
  have hh := getB_some h; clear h; obtain ⟨b363, h362, h⟩ := hh
  have hh := brn_some h; clear h; rcases hh with ⟨h364, h⟩ | ⟨h364, h⟩
  · have hh := bnd'_some h; clear h; obtain ⟨p365, h366, h⟩ := hh
    refine W_sound tab_ok mixed 2 _ _ _ ?_
    simp -implicitDefEqProofs only [go_sem, Nat.reduceBEq, Nat.reduceAdd, Nat.reduceSub, Nat.reduceMul, Nat.reduceLT, Nat.reduceLeDiff, Int.reduceLE, Int.reduceLT, Int.reduceToNat, Int.reduceBEq, Int.reduceBNe, ↓reduceIte, h362, h364]
    repeat with_reducible refine And.intro (by first | kernel_rfl | decide) ?_
    refine Wp_callP (c88 N _ _ h366) (by kernel_rfl) rfl rfl rfl rfl (by decide) ?_
    have hh := getB_some h; clear h; obtain ⟨b368, h367, h⟩ := hh
    have hh := brn_some h; clear h; rcases hh with ⟨h369, h⟩ | ⟨h369, h⟩
    · refine W_sound tab_ok mixed 11 _ _ _ ?_
      simp -implicitDefEqProofs only [go_sem, Nat.reduceBEq, Nat.reduceAdd, Nat.reduceSub, Nat.reduceMul, Nat.reduceLT, Nat.reduceLeDiff, Int.reduceLE, Int.reduceLT, Int.reduceToNat, Int.reduceBEq, Int.reduceBNe, ↓reduceIte, h362, h364, h367, h369]
      repeat with_reducible refine And.intro (by first | kernel_rfl | decide) ?_
      obtain rfl := Option.some.inj h
      exact finC [(4, .v (.bool (decide (x357 < x358))))] [(4, .v (.bool (decide (x357 < x358))))] (by simp [leE, lk_cons]) (.cons _ _ _ _ _ (.v _ _ (.refl _)) .nil) (by rfl) (by simp [leE, lk_cons]) (by decide) (by decide) rfl (by simp only [go_sem, Nat.reduceBEq, Nat.reduceAdd, Nat.reduceSub, Nat.reduceMul, Nat.reduceLT, Nat.reduceLeDiff, Int.reduceLE, Int.reduceLT, Int.reduceToNat, Int.reduceBEq, Int.reduceBNe, ↓reduceIte, resQ_tmp, resQ_cell, resQ_nil, retD_one, retD_two, retD_three, retD_none]; (try simp [R.val, retD_one, retD_two, retD_three, retD_none]); try assumption)
    · refine W_sound tab_ok mixed 11 _ _ _ ?_
      simp -implicitDefEqProofs only [go_sem, Nat.reduceBEq, Nat.reduceAdd, Nat.reduceSub, Nat.reduceMul, Nat.reduceLT, Nat.reduceLeDiff, Int.reduceLE, Int.reduceLT, Int.reduceToNat, Int.reduceBEq, Int.reduceBNe, ↓reduceIte, h362, h364, h367, h369]
      repeat with_reducible refine And.intro (by first | kernel_rfl | decide) ?_
      obtain rfl := Option.some.inj h
      exact finC [(4, .v (.bool true))] [(4, .v (.bool true))] (by simp [leE, lk_cons]) (.cons _ _ _ _ _ (.v _ _ (.refl _)) .nil) (by rfl) (by simp [leE, lk_cons]) (by decide) (by decide) rfl (by simp only [go_sem, Nat.reduceBEq, Nat.reduceAdd, Nat.reduceSub, Nat.reduceMul, Nat.reduceLT, Nat.reduceLeDiff, Int.reduceLE, Int.reduceLT, Int.reduceToNat, Int.reduceBEq, Int.reduceBNe, ↓reduceIte, resQ_tmp, resQ_cell, resQ_nil, retD_one, retD_two, retD_three, retD_none]; (try simp [R.val, retD_one, retD_two, retD_three, retD_none]); try assumption)
  · refine W_sound tab_ok mixed 14 _ _ _ ?_
    simp -implicitDefEqProofs only [go_sem, Nat.reduceBEq, Nat.reduceAdd, Nat.reduceSub, Nat.reduceMul, Nat.reduceLT, Nat.reduceLeDiff, Int.reduceLE, Int.reduceLT, Int.reduceToNat, Int.reduceBEq, Int.reduceBNe, ↓reduceIte, h362, h364]
    repeat with_reducible refine And.intro (by first | kernel_rfl | decide) ?_
    obtain rfl := Option.some.inj h
    exact finC [(4, .v (.bool (decide (x357 < x358))))] [(4, .v (.bool (decide (x357 < x358))))] (by simp [leE, lk_cons]) (.cons _ _ _ _ _ (.v _ _ (.refl _)) .nil) (by rfl) (by simp [leE, lk_cons]) (by decide) (by decide) rfl (by simp only [go_sem, Nat.reduceBEq, Nat.reduceAdd, Nat.reduceSub, Nat.reduceMul, Nat.reduceLT, Nat.reduceLeDiff, Int.reduceLE, Int.reduceLT, Int.reduceToNat, Int.reduceBEq, Int.reduceBNe, ↓reduceIte, resQ_tmp, resQ_cell, resQ_nil, retD_one, retD_two, retD_three, retD_none]; (try simp [R.val, retD_one, retD_two, retD_three, retD_none]); try assumption)
def m100_L1 (N : Nat) (n443 : Nat) (x444 : Int) (x445 : Int) (x494 : Int) : Nat → Int → List PV → Option (List PV)
  | 0, _, _ => none
  | n + 1, x516, c517 =>
    brn (decide (x516 > x444)) (
      grd (0 ≤ x516 ∧ x516 < ((n443 : Nat) : Int)) <|
      grd ((Int.toNat x516) < List.length c517) <|
      getI .i64 (gp c517 (Int.toNat x516)) fun x523 =>
      grd (0 ≤ (IntKind.i64.wrap (x516 - 1)) ∧ (IntKind.i64.wrap (x516 - 1)) < ((n443 : Nat) : Int)) <|
      grd ((Int.toNat (IntKind.i64.wrap (x516 - 1))) < List.length c517) <|
      getI .i64 (gp c517 (Int.toNat (IntKind.i64.wrap (x516 - 1)))) fun x528 =>
      bnd' (m106 N x523 x528) fun p529 =>
      getB p529 fun b532 =>
      brn b532 (
        grd (((Int.toNat x516) + 1) ≤ List.length c517) <|
        grd (((Int.toNat (IntKind.i64.wrap (x516 - 1))) + 1) ≤ List.length c517) <|
        m100_L1 N n443 x444 x445 x494 n (IntKind.i64.wrap (x516 - 1)) (List.set (List.set c517 (Int.toNat x516) (.int .i64 x528)) (Int.toNat (IntKind.i64.wrap (x516 - 1))) (.int .i64 x523))) (
        some c517)) (
      some c517)
def m100_L0 (N : Nat) (n443 : Nat) (x444 : Int) (x445 : Int) : Nat → Int → List PV → Option (List PV)
  | 0, _, _ => none
  | n + 1, x494, c495 =>
    brn (decide (x494 < x445)) (
      bnd' (m100_L1 N n443 x444 x445 x494 N x494 c495) fun c536 =>
      m100_L0 N n443 x444 x445 n (IntKind.i64.wrap (x494 + 1)) c536) (
      some c495)
def m100 (N : Nat) (n443 : Nat) (x444 : Int) (x445 : Int) (p446 : PV) (p447 : PV) (p448 : PV) (p449 : PV) (p450 : PV) : Option ((PV × List PV)) :=
  bnd' (m100_L0 N n443 x444 x445 N (IntKind.i64.wrap (x444 + 1)) [p446, p447, p448, p449, p450]) fun c537 =>
  some ((.tup []), c537)
theorem c100 (N : Nat) (n443 : Nat) (x444 : Int) (x445 : Int) (p446 : PV) (p447 : PV) (p448 : PV) (p449 : PV) (p450 : PV) (r : PV) (c539 : List PV) (h : m100 N n443 x444 x445 p446 p447 p448 p449 p450 = some (r, c539)) : V.Fn Tryd.prog 100 1 [.sl false 0 0 n443 1, .v (.int .i64 x444), .v (.int .i64 x445)] [(0, .p [p446, p447, p448, p449, p450])] (fun d ob' => d = .v r ∧ ob' = [(0, .p c539)]) := by
  unfold m100 at h
  refine Fn_of (sz := 49) tab_ok [0, 1, 2, 6, 7, 12, 30] [] Tryd.func100 rfl rfl rfl (by simp) ?_
  simp only [initSt, initEnv, List.map_cons, List.map_nil, List.getD_cons_zero, List.getD_cons_succ, List.getD_nil]
  refine W_sound tab_ok mixed 6 _ _ _ ?_
  simp -implicitDefEqProofs only [go_sem, Nat.reduceBEq, Nat.reduceAdd, Nat.reduceSub, Nat.reduceMul, Nat.reduceLT, Nat.reduceLeDiff, Int.reduceLE, Int.reduceLT, Int.reduceToNat, Int.reduceBEq, Int.reduceBNe, ↓reduceIte]
  repeat with_reducible refine And.intro (by first | kernel_rfl | decide) ?_
  have hh := bnd'_some h; clear h; obtain ⟨o540, h541, h542⟩ := hh
  refine Wp_cut (fun s => ∃ c537, c537 = o540 ∧ s = ⟨[], [(0, .dead), (1, .dead), (2, .dead), (6, .dead), (7, .dead), (12, .dead), (30, .dead)], [(0, .p c537)], 1, []⟩) ?_ ?_
  · refine Wp_block ?_
    refine Wp_loopG (fun n s => ∃ x494, ∃ c495, m100_L0 N n443 x444 x445 n x494 c495 = some o540 ∧ s = ⟨[], [(0, .sl false 0 0 n443 1), (1, .v (.int .i64 x444)), (2, .v (.int .i64 x445)), (6, .v (.int .i64 x494)), (7, .dead), (12, .dead), (30, .dead)], [(0, .p c495)], 1, []⟩) N _ (Wk_keep (st' := ⟨[], [(0, .sl false 0 0 n443 1), (1, .v (.int .i64 x444)), (2, .v (.int .i64 x445)), (6, .v (.int .i64 (IntKind.i64.wrap (x444 + 1)))), (7, .dead), (12, .dead), (30, .dead)], [(0, .p [p446, p447, p448, p449, p450])], 1, []⟩) [0, 1, 2, 6] (by kernel_rfl)) ⟨_, _, h541, rfl⟩ ?_
    clear h541
    rintro n _ ⟨x494, c495, h541, rfl⟩
    cases n with
    | zero => cases h541
    | succ n =>
      rw [m100_L0] at h541
      have hh := brn_some h541; clear h541; rcases hh with ⟨h496, h541⟩ | ⟨h496, h541⟩
      · refine W_sound tab_ok mixed 16 _ _ _ ?_
        simp -implicitDefEqProofs only [go_sem, Nat.reduceBEq, Nat.reduceAdd, Nat.reduceSub, Nat.reduceMul, Nat.reduceLT, Nat.reduceLeDiff, Int.reduceLE, Int.reduceLT, Int.reduceToNat, Int.reduceBEq, Int.reduceBNe, ↓reduceIte, h496]
        repeat with_reducible refine And.intro (by first | kernel_rfl | decide) ?_
        have hh := bnd'_some h541; clear h541; obtain ⟨o543, h544, h545⟩ := hh
        refine Wp_cut (fun s => ∃ c536, c536 = o543 ∧ s = ⟨[], [(0, .sl false 0 0 n443 1), (1, .v (.int .i64 x444)), (2, .v (.int .i64 x445)), (6, .v (.int .i64 x494)), (7, .dead), (12, .dead), (30, .dead)], [(0, .p c536)], 1, []⟩) ?_ ?_
        · refine Wp_block ?_
          refine Wp_loopG (fun n s => ∃ x516, ∃ c517, m100_L1 N n443 x444 x445 x494 n x516 c517 = some o543 ∧ s = ⟨[], [(0, .sl false 0 0 n443 1), (1, .v (.int .i64 x444)), (2, .v (.int .i64 x445)), (6, .v (.int .i64 x494)), (7, .v (.int .i64 x516)), (12, .dead), (30, .dead)], [(0, .p c517)], 1, []⟩) N _ (Wk_keep (st' := ⟨[], [(0, .sl false 0 0 n443 1), (1, .v (.int .i64 x444)), (2, .v (.int .i64 x445)), (6, .v (.int .i64 x494)), (7, .v (.int .i64 x494)), (12, .dead), (30, .dead)], [(0, .p c495)], 1, []⟩) [0, 1, 2, 6, 7] (by kernel_rfl)) ⟨_, _, h544, rfl⟩ ?_
          clear h544
          rintro n _ ⟨x516, c517, h544, rfl⟩
          cases n with
          | zero => cases h544
          | succ n =>
            rw [m100_L1] at h544
            have hh := brn_some h544; clear h544; rcases hh with ⟨h518, h544⟩ | ⟨h518, h544⟩
            · have hh := grd_some h544; clear h544; obtain ⟨⟨g519, g520⟩, h544⟩ := hh
              have hh := grd_some h544; clear h544; obtain ⟨g521, h544⟩ := hh
              have hh := getI_some h544; clear h544; obtain ⟨x523, h522, h544⟩ := hh
              have hh := grd_some h544; clear h544; obtain ⟨⟨g524, g525⟩, h544⟩ := hh
              have hh := grd_some h544; clear h544; obtain ⟨g526, h544⟩ := hh
              have hh := getI_some h544; clear h544; obtain ⟨x528, h527, h544⟩ := hh
              have hh := bnd'_some h544; clear h544; obtain ⟨p529, h530, h544⟩ := hh
              refine W_sound tab_ok mixed 16 _ _ _ ?_
              simp -implicitDefEqProofs only [go_sem, Nat.reduceBEq, Nat.reduceAdd, Nat.reduceSub, Nat.reduceMul, Nat.reduceLT, Nat.reduceLeDiff, Int.reduceLE, Int.reduceLT, Int.reduceToNat, Int.reduceBEq, Int.reduceBNe, ↓reduceIte, h496, h518, g519, g520, g521, h522, g524, g525, g526, h527]
              repeat with_reducible refine And.intro (by first | kernel_rfl | decide) ?_
              refine Wp_callP (c106 N _ _ _ h530) (by kernel_rfl) rfl rfl rfl rfl (by decide) ?_
              have hh := getB_some h544; clear h544; obtain ⟨b532, h531, h544⟩ := hh
              have hh := brn_some h544; clear h544; rcases hh with ⟨h533, h544⟩ | ⟨h533, h544⟩
              · have hh := grd_some h544; clear h544; obtain ⟨g534, h544⟩ := hh
                have hh := grd_some h544; clear h544; obtain ⟨g535, h544⟩ := hh
                refine W_sound tab_ok mixed 32 _ _ _ ?_
                simp -implicitDefEqProofs only [go_sem, Nat.reduceBEq, Nat.reduceAdd, Nat.reduceSub, Nat.reduceMul, Nat.reduceLT, Nat.reduceLeDiff, Int.reduceLE, Int.reduceLT, Int.reduceToNat, Int.reduceBEq, Int.reduceBNe, ↓reduceIte, h496, h518, g519, g520, g521, h522, g524, g525, g526, h527, h531, h533, g534, g535]
                repeat with_reducible refine And.intro (by first | kernel_rfl | decide) ?_
                refine cutQ _ ?_ ⟨n, Nat.lt_succ_self n, _, _, h544, rfl⟩
                exact Wk_keep [0, 1, 2, 6, 7] (by kernel_rfl)
              · refine W_sound tab_ok mixed 4 _ _ _ ?_
                simp -implicitDefEqProofs only [go_sem, Nat.reduceBEq, Nat.reduceAdd, Nat.reduceSub, Nat.reduceMul, Nat.reduceLT, Nat.reduceLeDiff, Int.reduceLE, Int.reduceLT, Int.reduceToNat, Int.reduceBEq, Int.reduceBNe, ↓reduceIte, h496, h518, g519, g520, g521, h522, g524, g525, g526, h527, h531, h533]
                repeat with_reducible refine And.intro (by first | kernel_rfl | decide) ?_
                obtain rfl := Option.some.inj h544
                refine cutQ _ ?_ ⟨_, rfl, rfl⟩
                exact Wk_keep [0, 1, 2, 6] (by kernel_rfl)
            · refine W_sound tab_ok mixed 21 _ _ _ ?_
              simp -implicitDefEqProofs only [go_sem, Nat.reduceBEq, Nat.reduceAdd, Nat.reduceSub, Nat.reduceMul, Nat.reduceLT, Nat.reduceLeDiff, Int.reduceLE, Int.reduceLT, Int.reduceToNat, Int.reduceBEq, Int.reduceBNe, ↓reduceIte, h496, h518]
              repeat with_reducible refine And.intro (by first | kernel_rfl | decide) ?_
              obtain rfl := Option.some.inj h544
              refine cutQ _ ?_ ⟨_, rfl, rfl⟩
              exact Wk_keep [0, 1, 2, 6] (by kernel_rfl)
        · rintro _ ⟨c536, rfl, rfl⟩
          refine W_sound tab_ok mixed 6 _ _ _ ?_
          simp -implicitDefEqProofs only [go_sem, Nat.reduceBEq, Nat.reduceAdd, Nat.reduceSub, Nat.reduceMul, Nat.reduceLT, Nat.reduceLeDiff, Int.reduceLE, Int.reduceLT, Int.reduceToNat, Int.reduceBEq, Int.reduceBNe, ↓reduceIte, h496]
          repeat with_reducible refine And.intro (by first | kernel_rfl | decide) ?_
          refine cutQ _ ?_ ⟨n, Nat.lt_succ_self n, _, _, h545, rfl⟩
          exact Wk_keep [0, 1, 2, 6] (by kernel_rfl)
      · refine W_sound tab_ok mixed 9 _ _ _ ?_
        simp -implicitDefEqProofs only [go_sem, Nat.reduceBEq, Nat.reduceAdd, Nat.reduceSub, Nat.reduceMul, Nat.reduceLT, Nat.reduceLeDiff, Int.reduceLE, Int.reduceLT, Int.reduceToNat, Int.reduceBEq, Int.reduceBNe, ↓reduceIte, h496]
        repeat with_reducible refine And.intro (by first | kernel_rfl | decide) ?_
        obtain rfl := Option.some.inj h541
        refine cutQ _ ?_ ⟨_, rfl, rfl⟩
        exact Wk_keep [] (by kernel_rfl)
  · rintro _ ⟨c537, rfl, rfl⟩
    refine W_sound tab_ok mixed 1 _ _ _ ?_
    simp -implicitDefEqProofs only [go_sem, Nat.reduceBEq, Nat.reduceAdd, Nat.reduceSub, Nat.reduceMul, Nat.reduceLT, Nat.reduceLeDiff, Int.reduceLE, Int.reduceLT, Int.reduceToNat, Int.reduceBEq, Int.reduceBNe, ↓reduceIte]
    repeat with_reducible refine And.intro (by first | kernel_rfl | decide) ?_
    simp only [Option.some.injEq, Prod.mk.injEq] at h542; obtain ⟨rfl, rfl⟩ := h542
    exact finD (st' := ⟨[], [(0, .dead), (1, .dead), (2, .dead), (6, .dead), (7, .dead), (12, .dead), (30, .dead)], [(0, .p c537)], 1, []⟩) (keepE_le [] _) (OLe.refl _) (by kernel_rfl) (by simp only [go_sem, Nat.reduceBEq, Nat.reduceAdd, Nat.reduceSub, Nat.reduceMul, Nat.reduceLT, Nat.reduceLeDiff, Int.reduceLE, Int.reduceLT, Int.reduceToNat, Int.reduceBEq, Int.reduceBNe, ↓reduceIte, resQ_tmp, resQ_cell, resQ_nil, retD_one, retD_two, retD_three, retD_none]; (try simp [R.val, retD_one, retD_two, retD_three, retD_none]); try assumption)
def m84_L0 (N : Nat) (n552 : Nat) (p556 : PV) (p557 : PV) (p558 : PV) (p559 : PV) (p560 : PV) : Nat → Int → Int → Int → Bool → Bool → Option ((PV × List PV))
  | 0, _, _, _, _, _ => none
  | n + 1, x562, x563, x564, b565, b566 =>
    brn (decide ((IntKind.i64.wrap (x563 - x562)) ≤ 12)) (
      bnd' (m100 N n552 x562 x563 p556 p557 p558 p559 p560) fun (p568, c570) =>
      getT0 p568 <|
      some ((.tup []), c570)) (
      none)
def m84 (N : Nat) (n552 : Nat) (x553 : Int) (x554 : Int) (x555 : Int) (p556 : PV) (p557 : PV) (p558 : PV) (p559 : PV) (p560 : PV) : Option ((PV × List PV)) :=
  bnd' (m84_L0 N n552 p556 p557 p558 p559 p560 N x553 x554 x555 true true) fun o =>
  match o with
  | p572 =>
    some p572
theorem c84 (N : Nat) (n552 : Nat) (x553 : Int) (x554 : Int) (x555 : Int) (p556 : PV) (p557 : PV) (p558 : PV) (p559 : PV) (p560 : PV) (r : PV) (c574 : List PV) (h : m84 N n552 x553 x554 x555 p556 p557 p558 p559 p560 = some (r, c574)) : V.Fn Tryd.prog 84 1 [.sl false 0 0 n552 1, .v (.int .i64 x553), .v (.int .i64 x554), .v (.int .i64 x555)] [(0, .p [p556, p557, p558, p559, p560])] (fun d ob' => d = .v r ∧ ob' = [(0, .p c574)]) := by
  unfold m84 at h
  refine Fn_of (sz := 134) tab_ok [0, 1, 2, 3, 8, 9, 10, 11, 12, 13, 14, 15, 16, 17, 18, 23, 29, 35, 50, 68, 72, 87, 113] [] Tryd.func84 rfl rfl rfl (by simp) ?_
  simp only [initSt, initEnv, List.map_cons, List.map_nil, List.getD_cons_zero, List.getD_cons_succ, List.getD_nil]
  refine W_sound tab_ok mixed 8 _ _ _ ?_
  simp -implicitDefEqProofs only [go_sem, Nat.reduceBEq, Nat.reduceAdd, Nat.reduceSub, Nat.reduceMul, Nat.reduceLT, Nat.reduceLeDiff, Int.reduceLE, Int.reduceLT, Int.reduceToNat, Int.reduceBEq, Int.reduceBNe, ↓reduceIte]
  repeat with_reducible refine And.intro (by first | kernel_rfl | decide) ?_
  have hh := bnd'_some h; clear h; obtain ⟨o575, h576, h577⟩ := hh
  refine Wp_cut (fun _ => False) ?_ ?_
  · refine Wp_block ?_
    refine Wp_loopG (fun n s => ∃ x562, ∃ x563, ∃ x564, ∃ b565, ∃ b566, m84_L0 N n552 p556 p557 p558 p559 p560 n x562 x563 x564 b565 b566 = some o575 ∧ s = ⟨[], [(0, .sl false 0 0 n552 1), (1, .v (.int .i64 x562)), (2, .v (.int .i64 x563)), (3, .v (.int .i64 x564)), (8, .v (.bool b565)), (9, .v (.bool b566)), (10, .dead), (11, .dead), (12, .dead), (13, .dead), (14, .dead), (15, .dead), (16, .dead), (17, .dead), (18, .dead), (23, .dead), (29, .dead), (35, .dead), (50, .dead), (68, .dead), (72, .dead), (87, .dead), (113, .dead)], [(0, .p [p556, p557, p558, p559, p560])], 1, []⟩) N _ (Wk_keep (st' := ⟨[], [(0, .sl false 0 0 n552 1), (1, .v (.int .i64 x553)), (2, .v (.int .i64 x554)), (3, .v (.int .i64 x555)), (8, .v (.bool true)), (9, .v (.bool true)), (10, .dead), (11, .dead), (12, .dead), (13, .dead), (14, .dead), (15, .dead), (16, .dead), (17, .dead), (18, .dead), (23, .dead), (29, .dead), (35, .dead), (50, .dead), (68, .dead), (72, .dead), (87, .dead), (113, .dead)], [(0, .p [p556, p557, p558, p559, p560])], 1, []⟩) [0, 1, 2, 3, 8, 9] (by kernel_rfl)) ⟨_, _, _, _, _, h576, rfl⟩ ?_
    clear h576
    rintro n _ ⟨x562, x563, x564, b565, b566, h576, rfl⟩
    cases n with
    | zero => cases h576
    | succ n =>
      rw [m84_L0] at h576
      have hh := brn_some h576; clear h576; rcases hh with ⟨h567, h576⟩ | ⟨h567, h576⟩
      · have hh := bnd'_some h576; clear h576; obtain ⟨⟨p568, c570⟩, h569, h576⟩ := hh
        (try dsimp only at h576)
        refine W_sound tab_ok mixed 20 _ _ _ ?_
        simp -implicitDefEqProofs only [go_sem, Nat.reduceBEq, Nat.reduceAdd, Nat.reduceSub, Nat.reduceMul, Nat.reduceLT, Nat.reduceLeDiff, Int.reduceLE, Int.reduceLT, Int.reduceToNat, Int.reduceBEq, Int.reduceBNe, ↓reduceIte, h567]
        repeat with_reducible refine And.intro (by first | kernel_rfl | decide) ?_
        refine Wp_callD [0] (c100 N _ _ _ _ _ _ _ _ _ _ h569) rfl rfl rfl (by first | rfl | (simp only [go_sem, Nat.reduceBEq, Nat.reduceAdd, Nat.reduceSub, Nat.reduceMul, Nat.reduceLT, Nat.reduceLeDiff, Int.reduceLE, Int.reduceLT, Int.reduceToNat, Int.reduceBEq, Int.reduceBNe, ↓reduceIte, h567] <;> rfl)) rfl (by kernel_rfl) ?_
        have hh := getT0_some h576; clear h576; obtain ⟨h571, h576⟩ := hh
        refine W_sound tab_ok mixed 3 _ _ _ ?_
        simp -implicitDefEqProofs only [go_sem, Nat.reduceBEq, Nat.reduceAdd, Nat.reduceSub, Nat.reduceMul, Nat.reduceLT, Nat.reduceLeDiff, Int.reduceLE, Int.reduceLT, Int.reduceToNat, Int.reduceBEq, Int.reduceBNe, ↓reduceIte, h567, h571]
        repeat with_reducible refine And.intro (by first | kernel_rfl | decide) ?_
        obtain rfl := Option.some.inj h576
        (try dsimp only at h577)
        simp only [Option.some.injEq, Prod.mk.injEq] at h577; obtain ⟨rfl, rfl⟩ := h577
        exact finD (st' := ⟨[], [(0, .dead), (1, .dead), (2, .dead), (3, .dead), (8, .dead), (9, .dead), (10, .dead), (11, .dead), (12, .dead), (13, .dead), (14, .dead), (15, .dead), (16, .dead), (17, .dead), (18, .dead), (23, .dead), (29, .dead), (35, .dead), (50, .dead), (68, .dead), (72, .dead), (87, .dead), (113, .dead)], [(0, .p c570)], 1, []⟩) (keepE_le [] _) (OLe.refl _) (by kernel_rfl) (by simp only [go_sem, Nat.reduceBEq, Nat.reduceAdd, Nat.reduceSub, Nat.reduceMul, Nat.reduceLT, Nat.reduceLeDiff, Int.reduceLE, Int.reduceLT, Int.reduceToNat, Int.reduceBEq, Int.reduceBNe, ↓reduceIte, resQ_tmp, resQ_cell, resQ_nil, retD_one, retD_two, retD_three, retD_none]; (try simp [R.val, retD_one, retD_two, retD_three, retD_none]); try assumption)
      · cases h576
  · intro _ hf; exact hf.elim
def m60 (N : Nat) (n583 : Nat) (p584 : PV) (p585 : PV) (p586 : PV) (p587 : PV) (p588 : PV) : Option ((PV × List PV)) :=
  bnd' (m85 N (IntKind.u64.wrap ((n583 : Nat) : Int))) fun p590 =>
  getI .i64 p590 fun x593 =>
  bnd' (m84 N n583 0 ((n583 : Nat) : Int) x593 p584 p585 p586 p587 p588) fun (p594, c596) =>
  getT0 p594 <|
  some ((.tup []), c596)
theorem c60 (N : Nat) (n583 : Nat) (p584 : PV) (p585 : PV) (p586 : PV) (p587 : PV) (p588 : PV) (r : PV) (c599 : List PV) (h : m60 N n583 p584 p585 p586 p587 p588 = some (r, c599)) : V.Fn Tryd.prog 60 1 [.sl false 0 0 n583 1] [(0, .p [p584, p585, p586, p587, p588])] (fun d ob' => d = .v r ∧ ob' = [(0, .p c599)]) := by
  unfold m60 at h
  refine Fn_of (sz := 11) tab_ok [0, 2] [] Tryd.func60 rfl rfl rfl (by simp) ?_
  simp only [initSt, initEnv, List.map_cons, List.map_nil, List.getD_cons_zero, List.getD_cons_succ, List.getD_nil]
  have hh := bnd'_some h; clear h; obtain ⟨p590, h591, h⟩ := hh
  refine W_sound tab_ok mixed 11 _ _ _ ?_
  simp -implicitDefEqProofs only [go_sem, Nat.reduceBEq, Nat.reduceAdd, Nat.reduceSub, Nat.reduceMul, Nat.reduceLT, Nat.reduceLeDiff, Int.reduceLE, Int.reduceLT, Int.reduceToNat, Int.reduceBEq, Int.reduceBNe, ↓reduceIte]
  repeat with_reducible refine And.intro (by first | kernel_rfl | decide) ?_
  refine Wp_callP (c85 N _ _ h591) (by kernel_rfl) rfl rfl rfl rfl (by decide) ?_
  have hh := getI_some h; clear h; obtain ⟨x593, h592, h⟩ := hh
  have hh := bnd'_some h; clear h; obtain ⟨⟨p594, c596⟩, h595, h⟩ := hh
  (try dsimp only at h)
  (try simp -implicitDefEqProofs only [go_sem, Nat.reduceBEq, Nat.reduceAdd, Nat.reduceSub, Nat.reduceMul, Nat.reduceLT, Nat.reduceLeDiff, Int.reduceLE, Int.reduceLT, Int.reduceToNat, Int.reduceBEq, Int.reduceBNe, ↓reduceIte, h592])
  refine Wp_callD [0] (c84 N _ _ _ _ _ _ _ _ _ _ _ h595) rfl rfl rfl (by first | rfl | (simp only [go_sem, Nat.reduceBEq, Nat.reduceAdd, Nat.reduceSub, Nat.reduceMul, Nat.reduceLT, Nat.reduceLeDiff, Int.reduceLE, Int.reduceLT, Int.reduceToNat, Int.reduceBEq, Int.reduceBNe, ↓reduceIte, h592] <;> rfl)) rfl (by kernel_rfl) ?_
  have hh := getT0_some h; clear h; obtain ⟨h597, h⟩ := hh
  refine W_sound tab_ok mixed 2 _ _ _ ?_
  simp -implicitDefEqProofs only [go_sem, Nat.reduceBEq, Nat.reduceAdd, Nat.reduceSub, Nat.reduceMul, Nat.reduceLT, Nat.reduceLeDiff, Int.reduceLE, Int.reduceLT, Int.reduceToNat, Int.reduceBEq, Int.reduceBNe, ↓reduceIte, h592, h597]
  repeat with_reducible refine And.intro (by first | kernel_rfl | decide) ?_
  simp only [Option.some.injEq, Prod.mk.injEq] at h; obtain ⟨rfl, rfl⟩ := h
  exact finD (st' := ⟨[], [(0, .dead), (2, .dead)], [(0, .p c596)], 1, []⟩) (keepE_le [] _) (OLe.refl _) (by kernel_rfl) (by simp only [go_sem, Nat.reduceBEq, Nat.reduceAdd, Nat.reduceSub, Nat.reduceMul, Nat.reduceLT, Nat.reduceLeDiff, Int.reduceLE, Int.reduceLT, Int.reduceToNat, Int.reduceBEq, Int.reduceBNe, ↓reduceIte, resQ_tmp, resQ_cell, resQ_nil, retD_one, retD_two, retD_three, retD_none]; (try simp [R.val, retD_one, retD_two, retD_three, retD_none]); try assumption)
def m27_L1 (N : Nat) (x288 : Int) (p290 : PV) (p291 : PV) (p292 : PV) (p293 : PV) (p294 : PV) (x604 : Int) (x605 : Int) : Nat → Int → List PV → Option (List PV)
  | 0, _, _ => none
  | n + 1, x622, c623 =>
    brn (decide (x622 < x288)) (
      grd (0 ≤ x622 ∧ x622 < 5) <|
      grd ((Int.toNat x622) < 5) <|
      getI .i64 (gp [p290, p291, p292, p293, p294] (Int.toNat x622)) fun x629 =>
      grd (((Int.toNat x622) + 1) ≤ List.length c623) <|
      m27_L1 N x288 p290 p291 p292 p293 p294 x604 x605 n (IntKind.i64.wrap (x622 + 1)) (List.set c623 (Int.toNat x622) (.int .i64 (minI x629 (IntKind.i64.wrap (Int.tdiv x604 (IntKind.i64.wrap (x288 - x605)))))))) (
      some c623)
def m27_L0 (N : Nat) (x288 : Int) (p290 : PV) (p291 : PV) (p292 : PV) (p293 : PV) (p294 : PV) (c602 : List PV) : Nat → Int → Int → Option ((PV ⊕ Unit))
  | 0, _, _ => none
  | n + 1, x604, x605 =>
    brn (decide (x605 < x288)) (
      grd ((IntKind.i64.wrap (x288 - x605)) ≠ 0) <|
      grd (0 ≤ x605 ∧ x605 < 5) <|
      grd ((Int.toNat x605) < List.length c602) <|
      getI .i64 (gp c602 (Int.toNat x605)) fun x612 =>
      brn (decide ((IntKind.i64.wrap (Int.tdiv x604 (IntKind.i64.wrap (x288 - x605)))) ≤ x612)) (
        bnd' (m27_L1 N x288 p290 p291 p292 p293 p294 x604 x605 N 0 [(.int .i64 0), (.int .i64 0), (.int .i64 0), (.int .i64 0), (.int .i64 0)]) fun c631 =>
        grd (5 ≤ List.length c631) <|
        getA5 (.agg (List.take 5 c631)) fun p634 p635 p636 p637 p638 =>
        some (.inl (.agg [p634, p635, p636, p637, p638]))) (
        m27_L0 N x288 p290 p291 p292 p293 p294 c602 n (IntKind.i64.wrap (x604 - x612)) (IntKind.i64.wrap (x605 + 1)))) (
      some (.inr ()))
def m27 (N : Nat) (x286 : Int) (p287 : PV) (x288 : Int) : Option (PV) :=
  getA5 p287 fun p290 p291 p292 p293 p294 =>
  grd (0 ≤ x288 ∧ x288 ≤ 5) <|
  bnd' (m60 N (Int.toNat x288) p290 p291 p292 p293 p294) fun (p600, c602) =>
  getT0 p600 <|
  bnd' (m27_L0 N x288 p290 p291 p292 p293 p294 c602 N x286 0) fun o =>
  match o with
  | .inl p639 =>
    some p639
  | .inr () =>
    some (.agg [p290, p291, p292, p293, p294])
theorem c27 (N : Nat) (x286 : Int) (p287 : PV) (x288 : Int) (r : PV)  (h : m27 N x286 p287 x288 = some r) : FnP Tryd.prog 27 [(.int .i64 x286), p287, (.int .i64 x288)] r := by
  unfold m27 at h
  refine Fn_of (sz := 50) tab_ok [0, 1, 2, 4, 6, 7, 8, 9, 10, 11, 16, 17, 18, 29, 30, 31, 32] [.cell 6 62] Tryd.func27 rfl rfl rfl (by simp) ?_
  simp only [initSt, initEnv, List.map_cons, List.map_nil, List.getD_cons_zero, List.getD_cons_succ, List.getD_nil]
  have hh := getA5_some h; clear h; obtain ⟨p290, p291, p292, p293, p294, h289, h⟩ := hh
  have hh := grd_some h; clear h; obtain ⟨⟨g295, g296⟩, h⟩ := hh
  have hh := bnd'_some h; clear h; obtain ⟨⟨p600, c602⟩, h601, h⟩ := hh
  (try dsimp only at h)
  refine W_sound tab_ok mixed 19 _ _ _ ?_
  simp -implicitDefEqProofs only [go_sem, Nat.reduceBEq, Nat.reduceAdd, Nat.reduceSub, Nat.reduceMul, Nat.reduceLT, Nat.reduceLeDiff, Int.reduceLE, Int.reduceLT, Int.reduceToNat, Int.reduceBEq, Int.reduceBNe, ↓reduceIte, h289, g295, g296]
  repeat with_reducible refine And.intro (by first | kernel_rfl | decide) ?_
  refine Wp_callD [23] (Fn_slr (room := 5) (c60 N _ _ _ _ _ _ _ _ h601)) rfl rfl rfl (by first | rfl | (simp only [go_sem, Nat.reduceBEq, Nat.reduceAdd, Nat.reduceSub, Nat.reduceMul, Nat.reduceLT, Nat.reduceLeDiff, Int.reduceLE, Int.reduceLT, Int.reduceToNat, Int.reduceBEq, Int.reduceBNe, ↓reduceIte, h289, g295, g296] <;> rfl)) rfl (by kernel_rfl) ?_
  have hh := getT0_some h; clear h; obtain ⟨h603, h⟩ := hh
  refine W_sound tab_ok mixed 7 _ _ _ ?_
  simp -implicitDefEqProofs only [go_sem, Nat.reduceBEq, Nat.reduceAdd, Nat.reduceSub, Nat.reduceMul, Nat.reduceLT, Nat.reduceLeDiff, Int.reduceLE, Int.reduceLT, Int.reduceToNat, Int.reduceBEq, Int.reduceBNe, ↓reduceIte, h289, g295, g296, h603]
  repeat with_reducible refine And.intro (by first | kernel_rfl | decide) ?_
  have hh := bnd'_some h; clear h; obtain ⟨o640, h641, h642⟩ := hh
  refine Wp_cut (fun s => (.inr ()) = o640 ∧ s = ⟨[], [(0, .dead), (1, .dead), (2, .dead), (4, .ptr 0 0), (6, .ptr 1 0), (7, .dead), (8, .dead), (9, .dead), (10, .dead), (11, .dead), (16, .dead), (17, .dead), (18, .dead), (29, .dead), (30, .dead), (31, .dead), (32, .dead)], [(0, .p [p290, p291, p292, p293, p294]), (1, .p [(.int .i64 0), (.int .i64 0), (.int .i64 0), (.int .i64 0), (.int .i64 0)])], 2, []⟩) ?_ ?_
  · refine Wp_block ?_
    refine Wp_loopG (fun n s => ∃ x604, ∃ x605, m27_L0 N x288 p290 p291 p292 p293 p294 c602 n x604 x605 = some o640 ∧ s = ⟨[], [(0, .v (.int .i64 x604)), (1, .dead), (2, .v (.int .i64 x288)), (4, .ptr 0 0), (6, .ptr 1 0), (7, .ptr 2 0), (8, .ptr 3 0), (9, .dead), (10, .dead), (11, .dead), (16, .v (.int .i64 x288)), (17, .v (.int .i64 x605)), (18, .dead), (29, .dead), (30, .dead), (31, .dead), (32, .dead)], [(0, .p [p290, p291, p292, p293, p294]), (1, .p [(.int .i64 0), (.int .i64 0), (.int .i64 0), (.int .i64 0), (.int .i64 0)]), (2, .p [(.int .i64 0), (.int .i64 0), (.int .i64 0), (.int .i64 0), (.int .i64 0)]), (3, .p c602)], 4, []⟩) N _ (Wk_keep (st' := ⟨[], [(0, .v (.int .i64 x286)), (1, .dead), (2, .v (.int .i64 x288)), (4, .ptr 0 0), (6, .ptr 1 0), (7, .ptr 2 0), (8, .ptr 3 0), (9, .dead), (10, .dead), (11, .dead), (16, .v (.int .i64 x288)), (17, .v (.int .i64 0)), (18, .dead), (29, .dead), (30, .dead), (31, .dead), (32, .dead)], [(0, .p [p290, p291, p292, p293, p294]), (1, .p [(.int .i64 0), (.int .i64 0), (.int .i64 0), (.int .i64 0), (.int .i64 0)]), (2, .p [(.int .i64 0), (.int .i64 0), (.int .i64 0), (.int .i64 0), (.int .i64 0)]), (3, .p c602)], 4, []⟩) [0, 2, 4, 6, 7, 8, 16, 17] (by kernel_rfl)) ⟨_, _, h641, rfl⟩ ?_
    clear h641
    rintro n _ ⟨x604, x605, h641, rfl⟩
    cases n with
    | zero => cases h641
    | succ n =>
      rw [m27_L0] at h641
      have hh := brn_some h641; clear h641; rcases hh with ⟨h606, h641⟩ | ⟨h606, h641⟩
      · have hh := grd_some h641; clear h641; obtain ⟨g607, h641⟩ := hh
        have hh := grd_some h641; clear h641; obtain ⟨⟨g608, g609⟩, h641⟩ := hh
        have hh := grd_some h641; clear h641; obtain ⟨g610, h641⟩ := hh
        have hh := getI_some h641; clear h641; obtain ⟨x612, h611, h641⟩ := hh
        have hh := brn_some h641; clear h641; rcases hh with ⟨h613, h641⟩ | ⟨h613, h641⟩
        · refine W_sound tab_ok mixed 39 _ _ _ ?_
          simp -implicitDefEqProofs only [go_sem, Nat.reduceBEq, Nat.reduceAdd, Nat.reduceSub, Nat.reduceMul, Nat.reduceLT, Nat.reduceLeDiff, Int.reduceLE, Int.reduceLT, Int.reduceToNat, Int.reduceBEq, Int.reduceBNe, ↓reduceIte, h289, g295, g296, h603, h606, g607, g608, g609, g610, h611, h613]
          repeat with_reducible refine And.intro (by first | kernel_rfl | decide) ?_
          have hh := bnd'_some h641; clear h641; obtain ⟨o643, h644, h645⟩ := hh
          refine Wp_cut (fun s => ∃ c631, c631 = o643 ∧ s = ⟨[], [(0, .dead), (1, .dead), (2, .dead), (4, .dead), (6, .ptr 0 0), (7, .ptr 1 0), (8, .dead), (9, .dead), (10, .dead), (11, .dead), (16, .dead), (17, .dead), (18, .dead), (29, .dead), (30, .dead), (31, .dead), (32, .dead)], [(0, .p [(.int .i64 0), (.int .i64 0), (.int .i64 0), (.int .i64 0), (.int .i64 0)]), (1, .p c631)], 2, []⟩) ?_ ?_
          · refine Wp_block ?_
            refine Wp_loopG (fun n s => ∃ x622, ∃ c623, m27_L1 N x288 p290 p291 p292 p293 p294 x604 x605 n x622 c623 = some o643 ∧ s = ⟨[], [(0, .dead), (1, .dead), (2, .dead), (4, .ptr 0 0), (6, .ptr 1 0), (7, .ptr 2 0), (8, .dead), (9, .dead), (10, .v (.int .i64 (IntKind.i64.wrap (Int.tdiv x604 (IntKind.i64.wrap (x288 - x605)))))), (11, .dead), (16, .dead), (17, .dead), (18, .dead), (29, .dead), (30, .v (.int .i64 x288)), (31, .v (.int .i64 x622)), (32, .dead)], [(0, .p [p290, p291, p292, p293, p294]), (1, .p [(.int .i64 0), (.int .i64 0), (.int .i64 0), (.int .i64 0), (.int .i64 0)]), (2, .p c623)], 3, []⟩) N _ (Wk_keep (st' := ⟨[], [(0, .dead), (1, .dead), (2, .dead), (4, .ptr 0 0), (6, .ptr 1 0), (7, .ptr 2 0), (8, .dead), (9, .dead), (10, .v (.int .i64 (IntKind.i64.wrap (Int.tdiv x604 (IntKind.i64.wrap (x288 - x605)))))), (11, .dead), (16, .dead), (17, .dead), (18, .dead), (29, .dead), (30, .v (.int .i64 x288)), (31, .v (.int .i64 0)), (32, .dead)], [(0, .p [p290, p291, p292, p293, p294]), (1, .p [(.int .i64 0), (.int .i64 0), (.int .i64 0), (.int .i64 0), (.int .i64 0)]), (2, .p [(.int .i64 0), (.int .i64 0), (.int .i64 0), (.int .i64 0), (.int .i64 0)])], 3, []⟩) [4, 6, 7, 10, 30, 31] (by kernel_rfl)) ⟨_, _, h644, rfl⟩ ?_
            clear h644
            rintro n _ ⟨x622, c623, h644, rfl⟩
            cases n with
            | zero => cases h644
            | succ n =>
              rw [m27_L1] at h644
              have hh := brn_some h644; clear h644; rcases hh with ⟨h624, h644⟩ | ⟨h624, h644⟩
              · have hh := grd_some h644; clear h644; obtain ⟨⟨g625, g626⟩, h644⟩ := hh
                have hh := grd_some h644; clear h644; obtain ⟨g627, h644⟩ := hh
                have hh := getI_some h644; clear h644; obtain ⟨x629, h628, h644⟩ := hh
                have hh := grd_some h644; clear h644; obtain ⟨g630, h644⟩ := hh
                refine W_sound tab_ok mixed 29 _ _ _ ?_
                simp -implicitDefEqProofs only [go_sem, Nat.reduceBEq, Nat.reduceAdd, Nat.reduceSub, Nat.reduceMul, Nat.reduceLT, Nat.reduceLeDiff, Int.reduceLE, Int.reduceLT, Int.reduceToNat, Int.reduceBEq, Int.reduceBNe, ↓reduceIte, h289, g295, g296, h603, h606, g607, g608, g609, g610, h611, h613, h624, g625, g626, g627, h628, g630]
                repeat with_reducible refine And.intro (by first | kernel_rfl | decide) ?_
                refine cutQ _ ?_ ⟨n, Nat.lt_succ_self n, _, _, h644, rfl⟩
                exact Wk_keep [4, 6, 7, 10, 30, 31] (by kernel_rfl)
              · refine W_sound tab_ok mixed 7 _ _ _ ?_
                simp -implicitDefEqProofs only [go_sem, Nat.reduceBEq, Nat.reduceAdd, Nat.reduceSub, Nat.reduceMul, Nat.reduceLT, Nat.reduceLeDiff, Int.reduceLE, Int.reduceLT, Int.reduceToNat, Int.reduceBEq, Int.reduceBNe, ↓reduceIte, h289, g295, g296, h603, h606, g607, g608, g609, g610, h611, h613, h624]
                repeat with_reducible refine And.intro (by first | kernel_rfl | decide) ?_
                obtain rfl := Option.some.inj h644
                refine cutQ _ ?_ ⟨_, rfl, rfl⟩
                exact Wk_keep [6, 7] (by kernel_rfl)
          · rintro _ ⟨c631, rfl, rfl⟩
            have hh := grd_some h645; clear h645; obtain ⟨g632, h645⟩ := hh
            have hh := getA5_some h645; clear h645; obtain ⟨p634, p635, p636, p637, p638, h633, h645⟩ := hh
            injection h633 with h633
            refine W_sound tab_ok mixed 7 _ _ _ ?_
            simp -implicitDefEqProofs only [go_sem, Nat.reduceBEq, Nat.reduceAdd, Nat.reduceSub, Nat.reduceMul, Nat.reduceLT, Nat.reduceLeDiff, Int.reduceLE, Int.reduceLT, Int.reduceToNat, Int.reduceBEq, Int.reduceBNe, ↓reduceIte, h289, g295, g296, h603, h606, g607, g608, g609, g610, h611, h613, g632, h633]
            repeat with_reducible refine And.intro (by first | kernel_rfl | decide) ?_
            refine FinQ_wk (Wk_freeze 0 [p634, p635, p636, p637, p638] (by rfl) (by decide) (by decide)) ?_
            simp -implicitDefEqProofs only [go_sem, Nat.reduceBEq, Nat.reduceAdd, Nat.reduceSub, Nat.reduceMul, Nat.reduceLT, Nat.reduceLeDiff, Int.reduceLE, Int.reduceLT, Int.reduceToNat, Int.reduceBEq, Int.reduceBNe, ↓reduceIte, h289, g295, g296, h603, h606, g607, g608, g609, g610, h611, h613, g632, h633]
            obtain rfl := Option.some.inj h645
            (try dsimp only at h642)
            obtain rfl := Option.some.inj h642
            exact finC [(6, .v (.ipt [p634, p635, p636, p637, p638]))] [(6, .v (.ipt [p634, p635, p636, p637, p638]))] (by simp [leE, lk_cons]) (.cons _ _ _ _ _ (.v _ _ (.refl _)) .nil) (by rfl) (by simp [leE, lk_cons]) (by decide) (by decide) rfl (by simp only [go_sem, Nat.reduceBEq, Nat.reduceAdd, Nat.reduceSub, Nat.reduceMul, Nat.reduceLT, Nat.reduceLeDiff, Int.reduceLE, Int.reduceLT, Int.reduceToNat, Int.reduceBEq, Int.reduceBNe, ↓reduceIte, resQ_tmp, resQ_cell, resQ_nil, retD_one, retD_two, retD_three, retD_none]; (try simp [R.val, retD_one, retD_two, retD_three, retD_none]); try assumption)
        · refine W_sound tab_ok mixed 47 _ _ _ ?_
          simp -implicitDefEqProofs only [go_sem, Nat.reduceBEq, Nat.reduceAdd, Nat.reduceSub, Nat.reduceMul, Nat.reduceLT, Nat.reduceLeDiff, Int.reduceLE, Int.reduceLT, Int.reduceToNat, Int.reduceBEq, Int.reduceBNe, ↓reduceIte, h289, g295, g296, h603, h606, g607, g608, g609, g610, h611, h613]
          repeat with_reducible refine And.intro (by first | kernel_rfl | decide) ?_
          refine cutQ _ ?_ ⟨n, Nat.lt_succ_self n, _, _, h641, rfl⟩
          exact Wk_keep [0, 2, 4, 6, 7, 8, 16, 17] (by kernel_rfl)
      · refine W_sound tab_ok mixed 7 _ _ _ ?_
        simp -implicitDefEqProofs only [go_sem, Nat.reduceBEq, Nat.reduceAdd, Nat.reduceSub, Nat.reduceMul, Nat.reduceLT, Nat.reduceLeDiff, Int.reduceLE, Int.reduceLT, Int.reduceToNat, Int.reduceBEq, Int.reduceBNe, ↓reduceIte, h289, g295, g296, h603, h606]
        repeat with_reducible refine And.intro (by first | kernel_rfl | decide) ?_
        obtain rfl := Option.some.inj h641
        refine cutQ _ ?_ ⟨rfl, rfl⟩
        exact Wk_keep [4, 6] (by kernel_rfl)
  · rintro _ ⟨rfl, rfl⟩
    (try dsimp only at h642)
    refine W_sound tab_ok mixed 7 _ _ _ ?_
    simp -implicitDefEqProofs only [go_sem, Nat.reduceBEq, Nat.reduceAdd, Nat.reduceSub, Nat.reduceMul, Nat.reduceLT, Nat.reduceLeDiff, Int.reduceLE, Int.reduceLT, Int.reduceToNat, Int.reduceBEq, Int.reduceBNe, ↓reduceIte, h289, g295, g296, h603]
    repeat with_reducible refine And.intro (by first | kernel_rfl | decide) ?_
    refine FinQ_wk (Wk_freeze 1 [p290, p291, p292, p293, p294] (by rfl) (by decide) (by decide)) ?_
    simp -implicitDefEqProofs only [go_sem, Nat.reduceBEq, Nat.reduceAdd, Nat.reduceSub, Nat.reduceMul, Nat.reduceLT, Nat.reduceLeDiff, Int.reduceLE, Int.reduceLT, Int.reduceToNat, Int.reduceBEq, Int.reduceBNe, ↓reduceIte, h289, g295, g296, h603]
    obtain rfl := Option.some.inj h642
    exact finC [(6, .v (.ipt [p290, p291, p292, p293, p294]))] [(6, .v (.ipt [p290, p291, p292, p293, p294]))] (by simp [leE, lk_cons]) (.cons _ _ _ _ _ (.v _ _ (.refl _)) .nil) (by rfl) (by simp [leE, lk_cons]) (by decide) (by decide) rfl (by simp only [go_sem, Nat.reduceBEq, Nat.reduceAdd, Nat.reduceSub, Nat.reduceMul, Nat.reduceLT, Nat.reduceLeDiff, Int.reduceLE, Int.reduceLT, Int.reduceToNat, Int.reduceBEq, Int.reduceBNe, ↓reduceIte, resQ_tmp, resQ_cell, resQ_nil, retD_one, retD_two, retD_three, retD_none]; (try simp [R.val, retD_one, retD_two, retD_three, retD_none]); try assumption)
def m28 (N : Nat) (p656 : PV) : Option (PV) :=
  getL p656 fun n658 c659 =>
  grd (0 < n658) <|
  grd (List.length c659 = n658) <|
  grd (n658 ≤ 1099511627776) <|
  some (.lst false n658 c659)
theorem c28 (N : Nat) (p656 : PV) (r : PV)  (h : m28 N p656 = some r) : FnP Tryd.prog 28 [p656] r := by
  unfold m28 at h
  refine Fn_of (sz := 8) tab_ok [0, 2, 4] [.tmp 2] Tryd.func28 rfl rfl rfl (by simp) ?_
  simp only [initSt, initEnv, List.map_cons, List.map_nil, List.getD_cons_zero, List.getD_cons_succ, List.getD_nil]
  have hh := getL_some h; clear h; obtain ⟨n658, c659, h657, h⟩ := hh
  have hh := grd_some h; clear h; obtain ⟨g660, h⟩ := hh
  have hh := grd_some h; clear h; obtain ⟨g661, h⟩ := hh
  have hh := grd_some h; clear h; obtain ⟨g662, h⟩ := hh
  refine W_sound tab_ok mixed 21 _ _ _ ?_
  simp -implicitDefEqProofs only [go_sem, Nat.reduceBEq, Nat.reduceAdd, Nat.reduceSub, Nat.reduceMul, Nat.reduceLT, Nat.reduceLeDiff, Int.reduceLE, Int.reduceLT, Int.reduceToNat, Int.reduceBEq, Int.reduceBNe, ↓reduceIte, h657, g660, g661, g662]
  repeat with_reducible refine And.intro (by first | kernel_rfl | decide) ?_
  refine FinQ_wk (Wk_freeze 7 c659 (by rfl) (by decide) (by decide)) ?_
  simp -implicitDefEqProofs only [go_sem, Nat.reduceBEq, Nat.reduceAdd, Nat.reduceSub, Nat.reduceMul, Nat.reduceLT, Nat.reduceLeDiff, Int.reduceLE, Int.reduceLT, Int.reduceToNat, Int.reduceBEq, Int.reduceBNe, ↓reduceIte, h657, g660, g661, g662]
  obtain rfl := Option.some.inj h
  exact finC [(2, .v (.lst false n658 c659))] [(2, .v (.lst false n658 c659))] (by simp [leE, lk_cons]) (.cons _ _ _ _ _ (.v _ _ (.refl _)) .nil) (by rfl) (by simp [leE, lk_cons]) (by decide) (by decide) rfl (by simp only [go_sem, Nat.reduceBEq, Nat.reduceAdd, Nat.reduceSub, Nat.reduceMul, Nat.reduceLT, Nat.reduceLeDiff, Int.reduceLE, Int.reduceLT, Int.reduceToNat, Int.reduceBEq, Int.reduceBNe, ↓reduceIte, resQ_tmp, resQ_cell, resQ_nil, retD_one, retD_two, retD_three, retD_none]; (try simp [R.val, retD_one, retD_two, retD_three, retD_none]); try assumption)
def m29_L0 (N : Nat) (x678 : Int) (p680 : PV) (p681 : PV) (p682 : PV) (p683 : PV) (p684 : PV) (p686 : PV) (p687 : PV) (p688 : PV) (p689 : PV) (p690 : PV) : Nat → Int → List PV → Option (List PV)
  | 0, _, _ => none
  | n + 1, x705, c706 =>
    brn (decide (x705 < (((Int.toNat x678) : Nat) : Int))) (
      grd (0 ≤ x705 ∧ x705 < 5) <|
      grd ((Int.toNat x705) < 5) <|
      getI .i64 (gp [p686, p687, p688, p689, p690] (Int.toNat x705)) fun x712 =>
      getI .i64 (gp [p680, p681, p682, p683, p684] (Int.toNat x705)) fun x714 =>
      grd (x705 < (((Int.toNat x678) : Nat) : Int)) <|
      grd (((Int.toNat x705) + 1) ≤ List.length c706) <|
      m29_L0 N x678 p680 p681 p682 p683 p684 p686 p687 p688 p689 p690 n (IntKind.i64.wrap (x705 + 1)) (List.set c706 (Int.toNat x705) (.int .i64 (IntKind.i64.wrap (x712 - x714))))) (
      some c706)
def m29 (N : Nat) (p676 : PV) (p677 : PV) (x678 : Int) : Option (PV) :=
  getA5 p676 fun p680 p681 p682 p683 p684 =>
  getA5 p677 fun p686 p687 p688 p689 p690 =>
  grd (0 ≤ x678 ∧ x678 ≤ x678 ∧ x678 ≤ 1099511627776) <|
  bnd' (m29_L0 N x678 p680 p681 p682 p683 p684 p686 p687 p688 p689 p690 N 0 (List.replicate (Int.toNat x678) (.int .i64 0))) fun c717 =>
  grd (List.length c717 = (Int.toNat x678)) <|
  some (.lst false (Int.toNat x678) c717)
theorem c29 (N : Nat) (p676 : PV) (p677 : PV) (x678 : Int) (r : PV)  (h : m29 N p676 p677 x678 = some r) : FnP Tryd.prog 29 [p676, p677, (.int .i64 x678)] r := by
  unfold m29 at h
  refine Fn_of (sz := 28) tab_ok [0, 1, 2, 3, 4, 6, 7, 8, 12, 13, 14] [.tmp 6] Tryd.func29 rfl rfl rfl (by simp) ?_
  simp only [initSt, initEnv, List.map_cons, List.map_nil, List.getD_cons_zero, List.getD_cons_succ, List.getD_nil]
  have hh := getA5_some h; clear h; obtain ⟨p680, p681, p682, p683, p684, h679, h⟩ := hh
  have hh := getA5_some h; clear h; obtain ⟨p686, p687, p688, p689, p690, h685, h⟩ := hh
  have hh := grd_some h; clear h; obtain ⟨⟨g691, g692, g693⟩, h⟩ := hh
  refine W_sound tab_ok mixed 19 _ _ _ ?_
  simp -implicitDefEqProofs only [go_sem, Nat.reduceBEq, Nat.reduceAdd, Nat.reduceSub, Nat.reduceMul, Nat.reduceLT, Nat.reduceLeDiff, Int.reduceLE, Int.reduceLT, Int.reduceToNat, Int.reduceBEq, Int.reduceBNe, ↓reduceIte, h679, h685, g691, g692, g693]
  repeat with_reducible refine And.intro (by first | kernel_rfl | decide) ?_
  have hh := bnd'_some h; clear h; obtain ⟨o719, h720, h721⟩ := hh
  refine Wp_cut (fun s => ∃ c717, c717 = o719 ∧ s = ⟨[], [(0, .dead), (1, .dead), (2, .dead), (3, .dead), (4, .dead), (6, .dead), (7, .sl false 0 0 (Int.toNat x678) 1), (8, .dead), (12, .dead), (13, .dead), (14, .dead)], [(0, .p c717)], 1, []⟩) ?_ ?_
  · refine Wp_block ?_
    refine Wp_loopG (fun n s => ∃ x705, ∃ c706, m29_L0 N x678 p680 p681 p682 p683 p684 p686 p687 p688 p689 p690 n x705 c706 = some o719 ∧ s = ⟨[], [(0, .dead), (1, .dead), (2, .dead), (3, .ptr 0 0), (4, .ptr 1 0), (6, .dead), (7, .sl false 2 0 (Int.toNat x678) 1), (8, .dead), (12, .v (.int .i64 (((Int.toNat x678) : Nat) : Int))), (13, .v (.int .i64 x705)), (14, .dead)], [(0, .p [p680, p681, p682, p683, p684]), (1, .p [p686, p687, p688, p689, p690]), (2, .p c706)], 3, []⟩) N _ (Wk_keep (st' := ⟨[], [(0, .dead), (1, .dead), (2, .dead), (3, .ptr 0 0), (4, .ptr 1 0), (6, .dead), (7, .sl false 2 0 (Int.toNat x678) 1), (8, .dead), (12, .v (.int .i64 (((Int.toNat x678) : Nat) : Int))), (13, .v (.int .i64 0)), (14, .dead)], [(0, .p [p680, p681, p682, p683, p684]), (1, .p [p686, p687, p688, p689, p690]), (2, .p (List.replicate (Int.toNat x678) (.int .i64 0)))], 3, []⟩) [3, 4, 7, 12, 13] (by kernel_rfl)) ⟨_, _, h720, rfl⟩ ?_
    clear h720
    rintro n _ ⟨x705, c706, h720, rfl⟩
    cases n with
    | zero => cases h720
    | succ n =>
      rw [m29_L0] at h720
      have hh := brn_some h720; clear h720; rcases hh with ⟨h707, h720⟩ | ⟨h707, h720⟩
      · have hh := grd_some h720; clear h720; obtain ⟨⟨g708, g709⟩, h720⟩ := hh
        have hh := grd_some h720; clear h720; obtain ⟨g710, h720⟩ := hh
        have hh := getI_some h720; clear h720; obtain ⟨x712, h711, h720⟩ := hh
        have hh := getI_some h720; clear h720; obtain ⟨x714, h713, h720⟩ := hh
        have hh := grd_some h720; clear h720; obtain ⟨g715, h720⟩ := hh
        have hh := grd_some h720; clear h720; obtain ⟨g716, h720⟩ := hh
        refine W_sound tab_ok mixed 32 _ _ _ ?_
        simp -implicitDefEqProofs only [go_sem, Nat.reduceBEq, Nat.reduceAdd, Nat.reduceSub, Nat.reduceMul, Nat.reduceLT, Nat.reduceLeDiff, Int.reduceLE, Int.reduceLT, Int.reduceToNat, Int.reduceBEq, Int.reduceBNe, ↓reduceIte, h679, h685, g691, g692, g693, h707, g708, g709, g710, h711, h713, g715, g716]
        repeat with_reducible refine And.intro (by first | kernel_rfl | decide) ?_
        refine cutQ _ ?_ ⟨n, Nat.lt_succ_self n, _, _, h720, rfl⟩
        exact Wk_keep [3, 4, 7, 12, 13] (by kernel_rfl)
      · refine W_sound tab_ok mixed 7 _ _ _ ?_
        simp -implicitDefEqProofs only [go_sem, Nat.reduceBEq, Nat.reduceAdd, Nat.reduceSub, Nat.reduceMul, Nat.reduceLT, Nat.reduceLeDiff, Int.reduceLE, Int.reduceLT, Int.reduceToNat, Int.reduceBEq, Int.reduceBNe, ↓reduceIte, h679, h685, g691, g692, g693, h707]
        repeat with_reducible refine And.intro (by first | kernel_rfl | decide) ?_
        obtain rfl := Option.some.inj h720
        refine cutQ _ ?_ ⟨_, rfl, rfl⟩
        exact Wk_keep [7] (by kernel_rfl)
  · rintro _ ⟨c717, rfl, rfl⟩
    refine W_sound tab_ok mixed 7 _ _ _ ?_
    simp -implicitDefEqProofs only [go_sem, Nat.reduceBEq, Nat.reduceAdd, Nat.reduceSub, Nat.reduceMul, Nat.reduceLT, Nat.reduceLeDiff, Int.reduceLE, Int.reduceLT, Int.reduceToNat, Int.reduceBEq, Int.reduceBNe, ↓reduceIte, h679, h685, g691, g692, g693]
    repeat with_reducible refine And.intro (by first | kernel_rfl | decide) ?_
    have hh := grd_some h721; clear h721; obtain ⟨g718, h721⟩ := hh
    refine FinQ_wk (Wk_freeze 0 c717 (by rfl) (by decide) (by decide)) ?_
    simp -implicitDefEqProofs only [go_sem, Nat.reduceBEq, Nat.reduceAdd, Nat.reduceSub, Nat.reduceMul, Nat.reduceLT, Nat.reduceLeDiff, Int.reduceLE, Int.reduceLT, Int.reduceToNat, Int.reduceBEq, Int.reduceBNe, ↓reduceIte, h679, h685, g691, g692, g693, g718]
    obtain rfl := Option.some.inj h721
    exact finC [(6, .v (.lst false (Int.toNat x678) c717))] [(6, .v (.lst false (Int.toNat x678) c717))] (by simp [leE, lk_cons]) (.cons _ _ _ _ _ (.v _ _ (.refl _)) .nil) (by rfl) (by simp [leE, lk_cons]) (by decide) (by decide) rfl (by simp only [go_sem, Nat.reduceBEq, Nat.reduceAdd, Nat.reduceSub, Nat.reduceMul, Nat.reduceLT, Nat.reduceLeDiff, Int.reduceLE, Int.reduceLT, Int.reduceToNat, Int.reduceBEq, Int.reduceBNe, ↓reduceIte, resQ_tmp, resQ_cell, resQ_nil, retD_one, retD_two, retD_three, retD_none]; (try simp [R.val, retD_one, retD_two, retD_three, retD_none]); try assumption)
def m8 (N : Nat) (x177 : Int) (p178 : PV) : Option (PV) :=
  getL p178 fun n180 c181 =>
  bnd' (m25 N x177 (.lst false n180 c181)) fun p216 =>
  getI .i64 p216 fun x219 =>
  brn (x219 != 0) (
    some (.tup [(.lst false 0 []), (.int .i64 x219)])) (
    bnd' (m26 N (.lst false n180 c181) 120) fun p259 =>
    getT2 p259 fun p262 p263 =>
    getA5 p262 fun p265 p266 p267 p268 p269 =>
    getI .i64 p263 fun x271 =>
    bnd' (m26 N (.lst false n180 c181) 60) fun p272 =>
    getT2 p272 fun p275 p276 =>
    getA5 p275 fun p278 p279 p280 p281 p282 =>
    getI .i64 p276 fun x284 =>
    brn (decide ((IntKind.i64.wrap (2 * (IntKind.i64.wrap (120 * x177)))) ≤ x271)) (
      bnd' (m27 N (IntKind.i64.wrap (120 * x177)) (.agg [p278, p279, p280, p281, p282]) ((n180 : Nat) : Int)) fun p646 =>
      getA5 p646 fun p649 p650 p651 p652 p653 =>
      grd (0 ≤ ((n180 : Nat) : Int) ∧ ((n180 : Nat) : Int) ≤ 5) <|
      bnd' (m28 N (.lst false n180 (List.take n180 [p649, p650, p651, p652, p653]))) fun p663 =>
      getL p663 fun n666 c667 =>
      some (.tup [(.lst false n666 c667), (.int .i64 0)])) (
      bnd' (m27 N (IntKind.i64.wrap (x271 - (IntKind.i64.wrap (120 * x177)))) (.agg [p278, p279, p280, p281, p282]) ((n180 : Nat) : Int)) fun p668 =>
      getA5 p668 fun p671 p672 p673 p674 p675 =>
      bnd' (m29 N (.agg [p671, p672, p673, p674, p675]) (.agg [p265, p266, p267, p268, p269]) ((n180 : Nat) : Int)) fun p722 =>
      getL p722 fun n725 c726 =>
      some (.tup [(.lst false n725 c726), (.int .i64 0)])))
theorem c8 (N : Nat) (x177 : Int) (p178 : PV) (r : PV)  (h : m8 N x177 p178 = some r) : FnP Tryd.prog 8 [(.int .i64 x177), p178] r := by
  unfold m8 at h
  refine Fn_of (sz := 55) tab_ok [0, 1, 4, 5, 6, 7, 8, 9, 10, 12, 13, 18, 37] [.tmp 4, .tmp 5] Tryd.func8 rfl rfl rfl (by simp) ?_
  simp only [initSt, initEnv, List.map_cons, List.map_nil, List.getD_cons_zero, List.getD_cons_succ, List.getD_nil]
  have hh := getL_some h; clear h; obtain ⟨n180, c181, h179, h⟩ := hh
  have hh := bnd'_some h; clear h; obtain ⟨p216, h217, h⟩ := hh
  refine W_sound tab_ok mixed 10 _ _ _ ?_
  simp -implicitDefEqProofs only [go_sem, Nat.reduceBEq, Nat.reduceAdd, Nat.reduceSub, Nat.reduceMul, Nat.reduceLT, Nat.reduceLeDiff, Int.reduceLE, Int.reduceLT, Int.reduceToNat, Int.reduceBEq, Int.reduceBNe, ↓reduceIte, h179]
  repeat with_reducible refine And.intro (by first | kernel_rfl | decide) ?_
  refine Wp_callP (c25 N _ _ _ h217) (by kernel_rfl) rfl rfl rfl rfl (by decide) ?_
  have hh := getI_some h; clear h; obtain ⟨x219, h218, h⟩ := hh
  have hh := brn_some h; clear h; rcases hh with ⟨h220, h⟩ | ⟨h220, h⟩
  · refine W_sound tab_ok mixed 16 _ _ _ ?_
    simp -implicitDefEqProofs only [go_sem, Nat.reduceBEq, Nat.reduceAdd, Nat.reduceSub, Nat.reduceMul, Nat.reduceLT, Nat.reduceLeDiff, Int.reduceLE, Int.reduceLT, Int.reduceToNat, Int.reduceBEq, Int.reduceBNe, ↓reduceIte, h179, h218, h220]
    repeat with_reducible refine And.intro (by first | kernel_rfl | decide) ?_
    obtain rfl := Option.some.inj h
    exact finC [(4, .v .nl), (5, .v (.int .i64 x219))] [(4, .v (.lst false 0 [])), (5, .v (.int .i64 x219))] (by simp [leE, lk_cons]) (.cons _ _ _ _ _ (.v _ _ (.nl false)) (.cons _ _ _ _ _ (.v _ _ (.refl _)) .nil)) (by rfl) (by simp [leE, lk_cons]) (by decide) (by decide) rfl (by simp only [go_sem, Nat.reduceBEq, Nat.reduceAdd, Nat.reduceSub, Nat.reduceMul, Nat.reduceLT, Nat.reduceLeDiff, Int.reduceLE, Int.reduceLT, Int.reduceToNat, Int.reduceBEq, Int.reduceBNe, ↓reduceIte, resQ_tmp, resQ_cell, resQ_nil, retD_one, retD_two, retD_three, retD_none]; (try simp [R.val, retD_one, retD_two, retD_three, retD_none]); try assumption)
  · have hh := bnd'_some h; clear h; obtain ⟨p259, h260, h⟩ := hh
    refine W_sound tab_ok mixed 18 _ _ _ ?_
    simp -implicitDefEqProofs only [go_sem, Nat.reduceBEq, Nat.reduceAdd, Nat.reduceSub, Nat.reduceMul, Nat.reduceLT, Nat.reduceLeDiff, Int.reduceLE, Int.reduceLT, Int.reduceToNat, Int.reduceBEq, Int.reduceBNe, ↓reduceIte, h179, h218, h220]
    repeat with_reducible refine And.intro (by first | kernel_rfl | decide) ?_
    refine Wp_callP (c26 N _ _ _ h260) (by kernel_rfl) rfl rfl rfl rfl (by decide) ?_
    have hh := getT2_some h; clear h; obtain ⟨p262, p263, h261, h⟩ := hh
    have hh := getA5_some h; clear h; obtain ⟨p265, p266, p267, p268, p269, h264, h⟩ := hh
    have hh := getI_some h; clear h; obtain ⟨x271, h270, h⟩ := hh
    have hh := bnd'_some h; clear h; obtain ⟨p272, h273, h⟩ := hh
    refine W_sound tab_ok mixed 10 _ _ _ ?_
    simp -implicitDefEqProofs only [go_sem, Nat.reduceBEq, Nat.reduceAdd, Nat.reduceSub, Nat.reduceMul, Nat.reduceLT, Nat.reduceLeDiff, Int.reduceLE, Int.reduceLT, Int.reduceToNat, Int.reduceBEq, Int.reduceBNe, ↓reduceIte, h179, h218, h220, h261, h264, h270]
    repeat with_reducible refine And.intro (by first | kernel_rfl | decide) ?_
    refine Wp_callP (c26 N _ _ _ h273) (by kernel_rfl) rfl rfl rfl rfl (by decide) ?_
    have hh := getT2_some h; clear h; obtain ⟨p275, p276, h274, h⟩ := hh
    have hh := getA5_some h; clear h; obtain ⟨p278, p279, p280, p281, p282, h277, h⟩ := hh
    have hh := getI_some h; clear h; obtain ⟨x284, h283, h⟩ := hh
    have hh := brn_some h; clear h; rcases hh with ⟨h285, h⟩ | ⟨h285, h⟩
    · have hh := bnd'_some h; clear h; obtain ⟨p646, h647, h⟩ := hh
      refine W_sound tab_ok mixed 27 _ _ _ ?_
      simp -implicitDefEqProofs only [go_sem, Nat.reduceBEq, Nat.reduceAdd, Nat.reduceSub, Nat.reduceMul, Nat.reduceLT, Nat.reduceLeDiff, Int.reduceLE, Int.reduceLT, Int.reduceToNat, Int.reduceBEq, Int.reduceBNe, ↓reduceIte, h179, h218, h220, h261, h264, h270, h274, h277, h283, h285]
      repeat with_reducible refine And.intro (by first | kernel_rfl | decide) ?_
      refine Wp_callP (c27 N _ _ _ _ h647) (by kernel_rfl) rfl rfl rfl rfl (by decide) ?_
      have hh := getA5_some h; clear h; obtain ⟨p649, p650, p651, p652, p653, h648, h⟩ := hh
      have hh := grd_some h; clear h; obtain ⟨⟨g654, g655⟩, h⟩ := hh
      have hh := bnd'_some h; clear h; obtain ⟨p663, h664, h⟩ := hh
      refine W_sound tab_ok mixed 7 _ _ _ ?_
      simp -implicitDefEqProofs only [go_sem, Nat.reduceBEq, Nat.reduceAdd, Nat.reduceSub, Nat.reduceMul, Nat.reduceLT, Nat.reduceLeDiff, Int.reduceLE, Int.reduceLT, Int.reduceToNat, Int.reduceBEq, Int.reduceBNe, ↓reduceIte, h179, h218, h220, h261, h264, h270, h274, h277, h283, h285, h648, g654, g655]
      repeat with_reducible refine And.intro (by first | kernel_rfl | decide) ?_
      refine Wp_callF [(33, [p649, p650, p651, p652, p653])] (c28 N _ _ h664) (by kernel_rfl) rfl rfl rfl (by simp only [go_sem, Nat.reduceBEq, Nat.reduceAdd, Nat.reduceSub, Nat.reduceMul, Nat.reduceLT, Nat.reduceLeDiff, Int.reduceLE, Int.reduceLT, Int.reduceToNat, Int.reduceBEq, Int.reduceBNe, ↓reduceIte, h179, h218, h220, h261, h264, h270, h274, h277, h283, h285, h648, g654, g655] <;> rfl) (by decide) rfl (by simp [roF, obL]) rfl ?_
      have hh := getL_some h; clear h; obtain ⟨n666, c667, h665, h⟩ := hh
      refine W_sound tab_ok mixed 5 _ _ _ ?_
      simp -implicitDefEqProofs only [go_sem, Nat.reduceBEq, Nat.reduceAdd, Nat.reduceSub, Nat.reduceMul, Nat.reduceLT, Nat.reduceLeDiff, Int.reduceLE, Int.reduceLT, Int.reduceToNat, Int.reduceBEq, Int.reduceBNe, ↓reduceIte, h179, h218, h220, h261, h264, h270, h274, h277, h283, h285, h648, g654, g655, h665]
      repeat with_reducible refine And.intro (by first | kernel_rfl | decide) ?_
      obtain rfl := Option.some.inj h
      exact finC [(4, .v (.lst false n666 c667)), (5, .v (.int .i64 0))] [(4, .v (.lst false n666 c667)), (5, .v (.int .i64 0))] (by simp [leE, lk_cons]) (.cons _ _ _ _ _ (.v _ _ (.refl _)) (.cons _ _ _ _ _ (.v _ _ (.refl _)) .nil)) (by rfl) (by simp [leE, lk_cons]) (by decide) (by decide) rfl (by simp only [go_sem, Nat.reduceBEq, Nat.reduceAdd, Nat.reduceSub, Nat.reduceMul, Nat.reduceLT, Nat.reduceLeDiff, Int.reduceLE, Int.reduceLT, Int.reduceToNat, Int.reduceBEq, Int.reduceBNe, ↓reduceIte, resQ_tmp, resQ_cell, resQ_nil, retD_one, retD_two, retD_three, retD_none]; (try simp [R.val, retD_one, retD_two, retD_three, retD_none]); try assumption)
    · have hh := bnd'_some h; clear h; obtain ⟨p668, h669, h⟩ := hh
      refine W_sound tab_ok mixed 31 _ _ _ ?_
      simp -implicitDefEqProofs only [go_sem, Nat.reduceBEq, Nat.reduceAdd, Nat.reduceSub, Nat.reduceMul, Nat.reduceLT, Nat.reduceLeDiff, Int.reduceLE, Int.reduceLT, Int.reduceToNat, Int.reduceBEq, Int.reduceBNe, ↓reduceIte, h179, h218, h220, h261, h264, h270, h274, h277, h283, h285]
      repeat with_reducible refine And.intro (by first | kernel_rfl | decide) ?_
      refine Wp_callP (c27 N _ _ _ _ h669) (by kernel_rfl) rfl rfl rfl rfl (by decide) ?_
      have hh := getA5_some h; clear h; obtain ⟨p671, p672, p673, p674, p675, h670, h⟩ := hh
      have hh := bnd'_some h; clear h; obtain ⟨p722, h723, h⟩ := hh
      refine W_sound tab_ok mixed 2 _ _ _ ?_
      simp -implicitDefEqProofs only [go_sem, Nat.reduceBEq, Nat.reduceAdd, Nat.reduceSub, Nat.reduceMul, Nat.reduceLT, Nat.reduceLeDiff, Int.reduceLE, Int.reduceLT, Int.reduceToNat, Int.reduceBEq, Int.reduceBNe, ↓reduceIte, h179, h218, h220, h261, h264, h270, h274, h277, h283, h285, h670]
      repeat with_reducible refine And.intro (by first | kernel_rfl | decide) ?_
      refine Wp_callP (c29 N _ _ _ _ h723) (by kernel_rfl) rfl rfl rfl rfl (by decide) ?_
      have hh := getL_some h; clear h; obtain ⟨n725, c726, h724, h⟩ := hh
      refine W_sound tab_ok mixed 5 _ _ _ ?_
      simp -implicitDefEqProofs only [go_sem, Nat.reduceBEq, Nat.reduceAdd, Nat.reduceSub, Nat.reduceMul, Nat.reduceLT, Nat.reduceLeDiff, Int.reduceLE, Int.reduceLT, Int.reduceToNat, Int.reduceBEq, Int.reduceBNe, ↓reduceIte, h179, h218, h220, h261, h264, h270, h274, h277, h283, h285, h670, h724]
      repeat with_reducible refine And.intro (by first | kernel_rfl | decide) ?_
      obtain rfl := Option.some.inj h
      exact finC [(4, .v (.lst false n725 c726)), (5, .v (.int .i64 0))] [(4, .v (.lst false n725 c726)), (5, .v (.int .i64 0))] (by simp [leE, lk_cons]) (.cons _ _ _ _ _ (.v _ _ (.refl _)) (.cons _ _ _ _ _ (.v _ _ (.refl _)) .nil)) (by rfl) (by simp [leE, lk_cons]) (by decide) (by decide) rfl (by simp only [go_sem, Nat.reduceBEq, Nat.reduceAdd, Nat.reduceSub, Nat.reduceMul, Nat.reduceLT, Nat.reduceLeDiff, Int.reduceLE, Int.reduceLT, Int.reduceToNat, Int.reduceBEq, Int.reduceBNe, ↓reduceIte, resQ_tmp, resQ_cell, resQ_nil, retD_one, retD_two, retD_three, retD_none]; (try simp [R.val, retD_one, retD_two, retD_three, retD_none]); try assumption)
def m41 (N : Nat) (x763 : Int) (x764 : Int) : Option (PV) :=
  brn (decide (x763 < 0)) (
    some (.bool true)) (
    some (.bool (decide (x763 ≥ x764))))
theorem c41 (N : Nat) (x763 : Int) (x764 : Int) (r : PV)  (h : m41 N x763 x764 = some r) : FnP Tryd.prog 41 [(.int .i64 x763), (.int .i64 x764)] r := by
  unfold m41 at h
  refine Fn_of (sz := 12) tab_ok [0, 1, 4] [.tmp 4] Tryd.func41 rfl rfl rfl (by simp) ?_
  simp only [initSt, initEnv, List.map_cons, List.map_nil, List.getD_cons_zero, List.getD_cons_succ, List.getD_nil]
  have hh := brn_some h; clear h; rcases hh with ⟨h765, h⟩ | ⟨h765, h⟩
  · refine W_sound tab_ok mixed 17 _ _ _ ?_
    simp -implicitDefEqProofs only [go_sem, Nat.reduceBEq, Nat.reduceAdd, Nat.reduceSub, Nat.reduceMul, Nat.reduceLT, Nat.reduceLeDiff, Int.reduceLE, Int.reduceLT, Int.reduceToNat, Int.reduceBEq, Int.reduceBNe, ↓reduceIte, h765]
    repeat with_reducible refine And.intro (by first | kernel_rfl | decide) ?_
    obtain rfl := Option.some.inj h
    exact finC [(4, .v (.bool true))] [(4, .v (.bool true))] (by simp [leE, lk_cons]) (.cons _ _ _ _ _ (.v _ _ (.refl _)) .nil) (by rfl) (by simp [leE, lk_cons]) (by decide) (by decide) rfl (by simp only [go_sem, Nat.reduceBEq, Nat.reduceAdd, Nat.reduceSub, Nat.reduceMul, Nat.reduceLT, Nat.reduceLeDiff, Int.reduceLE, Int.reduceLT, Int.reduceToNat, Int.reduceBEq, Int.reduceBNe, ↓reduceIte, resQ_tmp, resQ_cell, resQ_nil, retD_one, retD_two, retD_three, retD_none]; (try simp [R.val, retD_one, retD_two, retD_three, retD_none]); try assumption)
  · refine W_sound tab_ok mixed 17 _ _ _ ?_
    simp -implicitDefEqProofs only [go_sem, Nat.reduceBEq, Nat.reduceAdd, Nat.reduceSub, Nat.reduceMul, Nat.reduceLT, Nat.reduceLeDiff, Int.reduceLE, Int.reduceLT, Int.reduceToNat, Int.reduceBEq, Int.reduceBNe, ↓reduceIte, h765]
    repeat with_reducible refine And.intro (by first | kernel_rfl | decide) ?_
    obtain rfl := Option.some.inj h
    exact finC [(4, .v (.bool (decide (x763 ≥ x764))))] [(4, .v (.bool (decide (x763 ≥ x764))))] (by simp [leE, lk_cons]) (.cons _ _ _ _ _ (.v _ _ (.refl _)) .nil) (by rfl) (by simp [leE, lk_cons]) (by decide) (by decide) rfl (by simp only [go_sem, Nat.reduceBEq, Nat.reduceAdd, Nat.reduceSub, Nat.reduceMul, Nat.reduceLT, Nat.reduceLeDiff, Int.reduceLE, Int.reduceLT, Int.reduceToNat, Int.reduceBEq, Int.reduceBNe, ↓reduceIte, resQ_tmp, resQ_cell, resQ_nil, retD_one, retD_two, retD_three, retD_none]; (try simp [R.val, retD_one, retD_two, retD_three, retD_none]); try assumption)
def m40 (N : Nat) (p803 : PV) : Option (PV) :=
  getA2 p803 fun p805 p806 =>
  getI .i64 p805 fun x808 =>
  grd (0 ≤ x808) <|
  getI .i64 p806 fun x811 =>
  grd (0 ≤ x811) <|
  some (.int .u64 (bitsI .or .u64 (IntKind.u64.wrap (1 * 2 ^ (min (Int.toNat x808) 64))) (IntKind.u64.wrap (1 * 2 ^ (min (Int.toNat x811) 64)))))
theorem c40 (N : Nat) (p803 : PV) (r : PV)  (h : m40 N p803 = some r) : FnP Tryd.prog 40 [p803] r := by
  unfold m40 at h
  refine Fn_of (sz := 10) tab_ok [0, 1, 2] [.tmp 2] Tryd.func40 rfl rfl rfl (by simp) ?_
  simp only [initSt, initEnv, List.map_cons, List.map_nil, List.getD_cons_zero, List.getD_cons_succ, List.getD_nil]
  have hh := getA2_some h; clear h; obtain ⟨p805, p806, h804, h⟩ := hh
  have hh := getI_some h; clear h; obtain ⟨x808, h807, h⟩ := hh
  have hh := grd_some h; clear h; obtain ⟨g809, h⟩ := hh
  have hh := getI_some h; clear h; obtain ⟨x811, h810, h⟩ := hh
  have hh := grd_some h; clear h; obtain ⟨g812, h⟩ := hh
  refine W_sound tab_ok mixed 18 _ _ _ ?_
  simp -implicitDefEqProofs only [go_sem, Nat.reduceBEq, Nat.reduceAdd, Nat.reduceSub, Nat.reduceMul, Nat.reduceLT, Nat.reduceLeDiff, Int.reduceLE, Int.reduceLT, Int.reduceToNat, Int.reduceBEq, Int.reduceBNe, ↓reduceIte, h804, h807, g809, h810, g812]
  repeat with_reducible refine And.intro (by first | kernel_rfl | decide) ?_
  obtain rfl := Option.some.inj h
  exact finC [(2, .v (.int .u64 (bitsI .or .u64 (IntKind.u64.wrap (1 * 2 ^ (min (Int.toNat x808) 64))) (IntKind.u64.wrap (1 * 2 ^ (min (Int.toNat x811) 64))))))] [(2, .v (.int .u64 (bitsI .or .u64 (IntKind.u64.wrap (1 * 2 ^ (min (Int.toNat x808) 64))) (IntKind.u64.wrap (1 * 2 ^ (min (Int.toNat x811) 64))))))] (by simp [leE, lk_cons]) (.cons _ _ _ _ _ (.v _ _ (.refl _)) .nil) (by rfl) (by simp [leE, lk_cons]) (by decide) (by decide) rfl (by simp only [go_sem, Nat.reduceBEq, Nat.reduceAdd, Nat.reduceSub, Nat.reduceMul, Nat.reduceLT, Nat.reduceLeDiff, Int.reduceLE, Int.reduceLT, Int.reduceToNat, Int.reduceBEq, Int.reduceBNe, ↓reduceIte, resQ_tmp, resQ_cell, resQ_nil, retD_one, retD_two, retD_three, retD_none]; (try simp [R.val, retD_one, retD_two, retD_three, retD_none]); try assumption)
def m39_L1 (N : Nat) (p784 : PV) (x878 : Int) (n882 : Nat) (c883 : List PV) : Nat → PV → Int → Int → Option ((PV × Int))
  | 0, _, _, _ => none
  | n + 1, p921, x922, x923 =>
    brn (decide (x923 < ((n882 : Nat) : Int))) (
      grd (0 ≤ x923 ∧ x923 < ((n882 : Nat) : Int)) <|
      grd (2 ≤ List.length (List.drop ((Int.toNat x923) * 2) c883)) <|
      getA2 (.agg (List.take 2 (List.drop ((Int.toNat x923) * 2) c883))) fun p929 p930 =>
      getN p921 (
        bnd' (m40 N (.agg [p929, p930])) fun p935 =>
        getI .u64 p935 fun x938 =>
        brn ((bitsI .and .u64 x922 x938) != 0) (
          bnd' (m40 N (.agg [p929, p930])) fun p940 =>
          getI .u64 p940 fun x943 =>
          m39_L1 N p784 x878 n882 c883 n .nl (bitsI .or .u64 x922 x943) (IntKind.i64.wrap (x923 + 1))) (
          m39_L1 N p784 x878 n882 c883 n .nl x922 (IntKind.i64.wrap (x923 + 1)))) fun n933 c934 =>
      grd (0 < n933) <|
      grd (x923 < ((n933 : Nat) : Int)) <|
      grd (0 < List.length (List.drop (Int.toNat x923) c934)) <|
      getI .i64 (gp c934 (Int.toNat x923)) fun x948 =>
      brn (decide (x948 > 0)) (
        bnd' (m40 N (.agg [p929, p930])) fun p950 =>
        getI .u64 p950 fun x953 =>
        brn ((bitsI .and .u64 x922 x953) != 0) (
          bnd' (m40 N (.agg [p929, p930])) fun p955 =>
          getI .u64 p955 fun x958 =>
          m39_L1 N p784 x878 n882 c883 n (.lst false n933 c934) (bitsI .or .u64 x922 x958) (IntKind.i64.wrap (x923 + 1))) (
          m39_L1 N p784 x878 n882 c883 n (.lst false n933 c934) x922 (IntKind.i64.wrap (x923 + 1)))) (
        m39_L1 N p784 x878 n882 c883 n (.lst false n933 c934) x922 (IntKind.i64.wrap (x923 + 1)))) (
      some (p921, x922))
def m39_L0 (N : Nat) (p784 : PV) : Nat → Int → PV → PV → Option (PV)
  | 0, _, _, _ => none
  | n + 1, x878, p879, p880 =>
    getL p880 fun n882 c883 =>
    bnd' (m39_L1 N p784 x878 n882 c883 N p879 x878 0) fun o =>
    match o with
    | (p959, x960) =>
      brn (x960 == x878) (
        some (.int .u64 x960)) (
        m39_L0 N p784 n x960 p959 (.lst false n882 c883))
def m39 (N : Nat) (p780 : PV) (x781 : Int) (p782 : PV) : Option (PV) :=
  getA2 p780 fun p784 p785 =>
  bnd' (m39_L0 N p784 N x781 p782 p785) fun o =>
  match o with
  | p962 =>
    some p962
theorem c39 (N : Nat) (p780 : PV) (x781 : Int) (p782 : PV) (r : PV)  (h : m39 N p780 x781 p782 = some r) : FnP Tryd.prog 39 [p780, (.int .u64 x781), p782] r := by
  unfold m39 at h
  refine Fn_of (sz := 45) tab_ok [0, 1, 2, 3, 6, 7, 8, 9, 12, 13, 14, 15, 34, 42] [.tmp 6] Tryd.func39 rfl rfl rfl (by simp) ?_
  simp only [initSt, initEnv, List.map_cons, List.map_nil, List.getD_cons_zero, List.getD_cons_succ, List.getD_nil]
  have hh := getA2_some h; clear h; obtain ⟨p784, p785, h783, h⟩ := hh
  refine W_sound tab_ok mixed 5 _ _ _ ?_
  simp -implicitDefEqProofs only [go_sem, Nat.reduceBEq, Nat.reduceAdd, Nat.reduceSub, Nat.reduceMul, Nat.reduceLT, Nat.reduceLeDiff, Int.reduceLE, Int.reduceLT, Int.reduceToNat, Int.reduceBEq, Int.reduceBNe, ↓reduceIte, h783]
  repeat with_reducible refine And.intro (by first | kernel_rfl | decide) ?_
  have hh := bnd'_some h; clear h; obtain ⟨o963, h964, h965⟩ := hh
  refine Wp_cut (fun _ => False) ?_ ?_
  · refine Wp_block ?_
    refine Wp_loopG (fun n s => ∃ x878, ∃ p879, ∃ p880, m39_L0 N p784 n x878 p879 p880 = some o963 ∧ s = ⟨[], [(0, .dead), (1, .v (.int .u64 x878)), (2, .v p879), (3, .ptr 0 0), (6, .dead), (7, .dead), (8, .dead), (9, .dead), (12, .dead), (13, .dead), (14, .dead), (15, .dead), (34, .dead), (42, .dead)], [(0, .p [p784, p880])], 1, []⟩) N _ (Wk_keep (st' := ⟨[], [(0, .dead), (1, .v (.int .u64 x781)), (2, .v p782), (3, .ptr 0 0), (6, .dead), (7, .dead), (8, .dead), (9, .dead), (12, .dead), (13, .dead), (14, .dead), (15, .dead), (34, .dead), (42, .dead)], [(0, .p [p784, p785])], 1, []⟩) [1, 2, 3] (by kernel_rfl)) ⟨_, _, _, h964, rfl⟩ ?_
    clear h964
    rintro n _ ⟨x878, p879, p880, h964, rfl⟩
    cases n with
    | zero => cases h964
    | succ n =>
      rw [m39_L0] at h964
      have hh := getL_some h964; clear h964; obtain ⟨n882, c883, h881, h964⟩ := hh
      refine W_sound tab_ok mixed 14 _ _ _ ?_
      simp -implicitDefEqProofs only [go_sem, Nat.reduceBEq, Nat.reduceAdd, Nat.reduceSub, Nat.reduceMul, Nat.reduceLT, Nat.reduceLeDiff, Int.reduceLE, Int.reduceLT, Int.reduceToNat, Int.reduceBEq, Int.reduceBNe, ↓reduceIte, h783, h881]
      repeat with_reducible refine And.intro (by first | kernel_rfl | decide) ?_
      have hh := bnd'_some h964; clear h964; obtain ⟨o966, h967, h968⟩ := hh
      refine Wp_cut (fun s => ∃ p959, ∃ x960, (p959, x960) = o966 ∧ s = ⟨[], [(0, .dead), (1, .v (.int .u64 x878)), (2, .v p959), (3, .ptr 0 0), (6, .dead), (7, .v (.int .u64 x960)), (8, .dead), (9, .dead), (12, .dead), (13, .dead), (14, .dead), (15, .dead), (34, .dead), (42, .dead)], [(0, .p [p784, (.lst false n882 c883)])], 1, []⟩) ?_ ?_
      · refine Wp_block ?_
        refine Wp_loopG (fun n s => ∃ p921, ∃ x922, ∃ x923, m39_L1 N p784 x878 n882 c883 n p921 x922 x923 = some o966 ∧ s = ⟨[], [(0, .dead), (1, .v (.int .u64 x878)), (2, .v p921), (3, .ptr 0 0), (6, .dead), (7, .v (.int .u64 x922)), (8, .dead), (9, .dead), (12, .v (.lst false n882 c883)), (13, .v (.int .i64 ((n882 : Nat) : Int))), (14, .v (.int .i64 x923)), (15, .dead), (34, .dead), (42, .dead)], [(0, .p [p784, (.lst false n882 c883)])], 1, []⟩) N _ (Wk_keep (st' := ⟨[], [(0, .dead), (1, .v (.int .u64 x878)), (2, .v p879), (3, .ptr 0 0), (6, .dead), (7, .v (.int .u64 x878)), (8, .dead), (9, .dead), (12, .v (.lst false n882 c883)), (13, .v (.int .i64 ((n882 : Nat) : Int))), (14, .v (.int .i64 0)), (15, .dead), (34, .dead), (42, .dead)], [(0, .p [p784, (.lst false n882 c883)])], 1, []⟩) [1, 2, 3, 7, 12, 13, 14] (by kernel_rfl)) ⟨_, _, _, h967, rfl⟩ ?_
        clear h967
        rintro n _ ⟨p921, x922, x923, h967, rfl⟩
        cases n with
        | zero => cases h967
        | succ n =>
          rw [m39_L1] at h967
          have hh := brn_some h967; clear h967; rcases hh with ⟨h924, h967⟩ | ⟨h924, h967⟩
          · have hh := grd_some h967; clear h967; obtain ⟨⟨g925, g926⟩, h967⟩ := hh
            have hh := grd_some h967; clear h967; obtain ⟨g927, h967⟩ := hh
            have hh := getA2_some h967; clear h967; obtain ⟨p929, p930, h928, h967⟩ := hh
            injection h928 with h928
            have hh := getN_some h967; clear h967; rcases hh with ⟨h932, h967⟩ | ⟨n933, c934, h932, h967⟩
            · have hh := bnd'_some h967; clear h967; obtain ⟨p935, h936, h967⟩ := hh
              refine W_sound tab_ok mixed 32 _ _ _ ?_
              simp -implicitDefEqProofs only [go_sem, Nat.reduceBEq, Nat.reduceAdd, Nat.reduceSub, Nat.reduceMul, Nat.reduceLT, Nat.reduceLeDiff, Int.reduceLE, Int.reduceLT, Int.reduceToNat, Int.reduceBEq, Int.reduceBNe, ↓reduceIte, h783, h881, h924, g925, g926, g927, h928, h932]
              repeat with_reducible refine And.intro (by first | kernel_rfl | decide) ?_
              refine Wp_callP (c40 N _ _ h936) (by kernel_rfl) rfl rfl rfl rfl (by decide) ?_
              have hh := getI_some h967; clear h967; obtain ⟨x938, h937, h967⟩ := hh
              have hh := brn_some h967; clear h967; rcases hh with ⟨h939, h967⟩ | ⟨h939, h967⟩
              · have hh := bnd'_some h967; clear h967; obtain ⟨p940, h941, h967⟩ := hh
                refine W_sound tab_ok mixed 8 _ _ _ ?_
                simp -implicitDefEqProofs only [go_sem, Nat.reduceBEq, Nat.reduceAdd, Nat.reduceSub, Nat.reduceMul, Nat.reduceLT, Nat.reduceLeDiff, Int.reduceLE, Int.reduceLT, Int.reduceToNat, Int.reduceBEq, Int.reduceBNe, ↓reduceIte, h783, h881, h924, g925, g926, g927, h928, h932, h937, h939]
                repeat with_reducible refine And.intro (by first | kernel_rfl | decide) ?_
                refine Wp_callP (c40 N _ _ h941) (by kernel_rfl) rfl rfl rfl rfl (by decide) ?_
                have hh := getI_some h967; clear h967; obtain ⟨x943, h942, h967⟩ := hh
                refine W_sound tab_ok mixed 8 _ _ _ ?_
                simp -implicitDefEqProofs only [go_sem, Nat.reduceBEq, Nat.reduceAdd, Nat.reduceSub, Nat.reduceMul, Nat.reduceLT, Nat.reduceLeDiff, Int.reduceLE, Int.reduceLT, Int.reduceToNat, Int.reduceBEq, Int.reduceBNe, ↓reduceIte, h783, h881, h924, g925, g926, g927, h928, h932, h937, h939, h942]
                repeat with_reducible refine And.intro (by first | kernel_rfl | decide) ?_
                refine cutQ _ ?_ ⟨n, Nat.lt_succ_self n, _, _, _, h967, rfl⟩
                exact Wk_keep [1, 2, 3, 7, 12, 13, 14] (by kernel_rfl)
              · refine W_sound tab_ok mixed 11 _ _ _ ?_
                simp -implicitDefEqProofs only [go_sem, Nat.reduceBEq, Nat.reduceAdd, Nat.reduceSub, Nat.reduceMul, Nat.reduceLT, Nat.reduceLeDiff, Int.reduceLE, Int.reduceLT, Int.reduceToNat, Int.reduceBEq, Int.reduceBNe, ↓reduceIte, h783, h881, h924, g925, g926, g927, h928, h932, h937, h939]
                repeat with_reducible refine And.intro (by first | kernel_rfl | decide) ?_
                refine cutQ _ ?_ ⟨n, Nat.lt_succ_self n, _, _, _, h967, rfl⟩
                exact Wk_keep [1, 2, 3, 7, 12, 13, 14] (by kernel_rfl)
            · have hh := grd_some h967; clear h967; obtain ⟨g944, h967⟩ := hh
              have hh := grd_some h967; clear h967; obtain ⟨g945, h967⟩ := hh
              have hh := grd_some h967; clear h967; obtain ⟨g946, h967⟩ := hh
              have hh := getI_some h967; clear h967; obtain ⟨x948, h947, h967⟩ := hh
              have hh := brn_some h967; clear h967; rcases hh with ⟨h949, h967⟩ | ⟨h949, h967⟩
              · have hh := bnd'_some h967; clear h967; obtain ⟨p950, h951, h967⟩ := hh
                refine W_sound tab_ok mixed 32 _ _ _ ?_
                simp -implicitDefEqProofs only [go_sem, Nat.reduceBEq, Nat.reduceAdd, Nat.reduceSub, Nat.reduceMul, Nat.reduceLT, Nat.reduceLeDiff, Int.reduceLE, Int.reduceLT, Int.reduceToNat, Int.reduceBEq, Int.reduceBNe, ↓reduceIte, h783, h881, h924, g925, g926, g927, h928, h932, g944, g945, g946, h947, h949]
                repeat with_reducible refine And.intro (by first | kernel_rfl | decide) ?_
                refine Wp_callP (c40 N _ _ h951) (by kernel_rfl) rfl rfl rfl rfl (by decide) ?_
                have hh := getI_some h967; clear h967; obtain ⟨x953, h952, h967⟩ := hh
                have hh := brn_some h967; clear h967; rcases hh with ⟨h954, h967⟩ | ⟨h954, h967⟩
                · have hh := bnd'_some h967; clear h967; obtain ⟨p955, h956, h967⟩ := hh
                  refine W_sound tab_ok mixed 8 _ _ _ ?_
                  simp -implicitDefEqProofs only [go_sem, Nat.reduceBEq, Nat.reduceAdd, Nat.reduceSub, Nat.reduceMul, Nat.reduceLT, Nat.reduceLeDiff, Int.reduceLE, Int.reduceLT, Int.reduceToNat, Int.reduceBEq, Int.reduceBNe, ↓reduceIte, h783, h881, h924, g925, g926, g927, h928, h932, g944, g945, g946, h947, h949, h952, h954]
                  repeat with_reducible refine And.intro (by first | kernel_rfl | decide) ?_
                  refine Wp_callP (c40 N _ _ h956) (by kernel_rfl) rfl rfl rfl rfl (by decide) ?_
                  have hh := getI_some h967; clear h967; obtain ⟨x958, h957, h967⟩ := hh
                  refine W_sound tab_ok mixed 8 _ _ _ ?_
                  simp -implicitDefEqProofs only [go_sem, Nat.reduceBEq, Nat.reduceAdd, Nat.reduceSub, Nat.reduceMul, Nat.reduceLT, Nat.reduceLeDiff, Int.reduceLE, Int.reduceLT, Int.reduceToNat, Int.reduceBEq, Int.reduceBNe, ↓reduceIte, h783, h881, h924, g925, g926, g927, h928, h932, g944, g945, g946, h947, h949, h952, h954, h957]
                  repeat with_reducible refine And.intro (by first | kernel_rfl | decide) ?_
                  refine cutQ _ ?_ ⟨n, Nat.lt_succ_self n, _, _, _, h967, rfl⟩
                  exact Wk_keep [1, 2, 3, 7, 12, 13, 14] (by kernel_rfl)
                · refine W_sound tab_ok mixed 11 _ _ _ ?_
                  simp -implicitDefEqProofs only [go_sem, Nat.reduceBEq, Nat.reduceAdd, Nat.reduceSub, Nat.reduceMul, Nat.reduceLT, Nat.reduceLeDiff, Int.reduceLE, Int.reduceLT, Int.reduceToNat, Int.reduceBEq, Int.reduceBNe, ↓reduceIte, h783, h881, h924, g925, g926, g927, h928, h932, g944, g945, g946, h947, h949, h952, h954]
                  repeat with_reducible refine And.intro (by first | kernel_rfl | decide) ?_
                  refine cutQ _ ?_ ⟨n, Nat.lt_succ_self n, _, _, _, h967, rfl⟩
                  exact Wk_keep [1, 2, 3, 7, 12, 13, 14] (by kernel_rfl)
              · refine W_sound tab_ok mixed 44 _ _ _ ?_
                simp -implicitDefEqProofs only [go_sem, Nat.reduceBEq, Nat.reduceAdd, Nat.reduceSub, Nat.reduceMul, Nat.reduceLT, Nat.reduceLeDiff, Int.reduceLE, Int.reduceLT, Int.reduceToNat, Int.reduceBEq, Int.reduceBNe, ↓reduceIte, h783, h881, h924, g925, g926, g927, h928, h932, g944, g945, g946, h947, h949]
                repeat with_reducible refine And.intro (by first | kernel_rfl | decide) ?_
                refine cutQ _ ?_ ⟨n, Nat.lt_succ_self n, _, _, _, h967, rfl⟩
                exact Wk_keep [1, 2, 3, 7, 12, 13, 14] (by kernel_rfl)
          · refine W_sound tab_ok mixed 7 _ _ _ ?_
            simp -implicitDefEqProofs only [go_sem, Nat.reduceBEq, Nat.reduceAdd, Nat.reduceSub, Nat.reduceMul, Nat.reduceLT, Nat.reduceLeDiff, Int.reduceLE, Int.reduceLT, Int.reduceToNat, Int.reduceBEq, Int.reduceBNe, ↓reduceIte, h783, h881, h924]
            repeat with_reducible refine And.intro (by first | kernel_rfl | decide) ?_
            obtain rfl := Option.some.inj h967
            refine cutQ _ ?_ ⟨_, _, rfl, rfl⟩
            exact Wk_keep [1, 2, 3, 7] (by kernel_rfl)
      · rintro _ ⟨p959, x960, rfl, rfl⟩
        (try dsimp only at h968)
        have hh := brn_some h968; clear h968; rcases hh with ⟨h961, h968⟩ | ⟨h961, h968⟩
        · refine W_sound tab_ok mixed 15 _ _ _ ?_
          simp -implicitDefEqProofs only [go_sem, Nat.reduceBEq, Nat.reduceAdd, Nat.reduceSub, Nat.reduceMul, Nat.reduceLT, Nat.reduceLeDiff, Int.reduceLE, Int.reduceLT, Int.reduceToNat, Int.reduceBEq, Int.reduceBNe, ↓reduceIte, h783, h881, h961]
          repeat with_reducible refine And.intro (by first | kernel_rfl | decide) ?_
          obtain rfl := Option.some.inj h968
          (try dsimp only at h965)
          obtain rfl := Option.some.inj h965
          exact finC [(6, .v (.int .u64 x960))] [(6, .v (.int .u64 x960))] (by simp [leE, lk_cons]) (.cons _ _ _ _ _ (.v _ _ (.refl _)) .nil) (by rfl) (by simp [leE, lk_cons]) (by decide) (by decide) rfl (by simp only [go_sem, Nat.reduceBEq, Nat.reduceAdd, Nat.reduceSub, Nat.reduceMul, Nat.reduceLT, Nat.reduceLeDiff, Int.reduceLE, Int.reduceLT, Int.reduceToNat, Int.reduceBEq, Int.reduceBNe, ↓reduceIte, resQ_tmp, resQ_cell, resQ_nil, retD_one, retD_two, retD_three, retD_none]; (try simp [R.val, retD_one, retD_two, retD_three, retD_none]); try assumption)
        · refine W_sound tab_ok mixed 14 _ _ _ ?_
          simp -implicitDefEqProofs only [go_sem, Nat.reduceBEq, Nat.reduceAdd, Nat.reduceSub, Nat.reduceMul, Nat.reduceLT, Nat.reduceLeDiff, Int.reduceLE, Int.reduceLT, Int.reduceToNat, Int.reduceBEq, Int.reduceBNe, ↓reduceIte, h783, h881, h961]
          repeat with_reducible refine And.intro (by first | kernel_rfl | decide) ?_
          refine cutQ _ ?_ ⟨n, Nat.lt_succ_self n, _, _, _, h968, rfl⟩
          exact Wk_keep [1, 2, 3] (by kernel_rfl)
  · intro _ hf; exact hf.elim
def m30_L0 (N : Nat) (x746 : Int) (n750 : Nat) (c751 : List PV) : Nat → Int → Option ((PV ⊕ Unit))
  | 0, _ => none
  | n + 1, x753 =>
    brn (decide (x753 < ((n750 : Nat) : Int))) (
      grd (0 ≤ x753 ∧ x753 < ((n750 : Nat) : Int)) <|
      grd (2 ≤ List.length (List.drop ((Int.toNat x753) * 2) c751)) <|
      getA2 (.agg (List.take 2 (List.drop ((Int.toNat x753) * 2) c751))) fun p759 p760 =>
      getI .i64 p759 fun x762 =>
      bnd' (m41 N x762 x746) fun p766 =>
      getB p766 fun b769 =>
      brn b769 (
        some (.inl (.int .i64 2))) (
        getI .i64 p760 fun x772 =>
        bnd' (m41 N x772 x746) fun p773 =>
        getB p773 fun b776 =>
        brn b776 (
          some (.inl (.int .i64 2))) (
          brn (decide (x762 ≥ x772)) (
            some (.inl (.int .i64 7))) (
            m30_L0 N x746 n750 c751 n (IntKind.i64.wrap (x753 + 1)))))) (
      some (.inr ()))
def m30 (N : Nat) (p741 : PV) : Option (PV) :=
  getA2 p741 fun p743 p744 =>
  getI .i64 p743 fun x746 =>
  brn (decide (x746 < 1)) (
    some (.int .i64 1)) (
    brn (decide (x746 > 6)) (
      some (.int .i64 1)) (
      getL p744 fun n750 c751 =>
      brn (decide (((n750 : Nat) : Int) > 9)) (
        some (.int .i64 3)) (
        bnd' (m30_L0 N x746 n750 c751 N 0) fun o =>
        match o with
        | .inl p779 =>
          some p779
        | .inr () =>
          bnd' (m39 N (.agg [(.int .i64 x746), (.lst false n750 c751)]) 1 .nl) fun p969 =>
          getI .u64 p969 fun x972 =>
          grd (0 ≤ x746) <|
          brn (x972 != (IntKind.u64.wrap ((IntKind.u64.wrap (1 * 2 ^ (min (Int.toNat x746) 64))) - 1))) (
            some (.int .i64 5)) (
            some (.int .i64 0)))))
theorem c30 (N : Nat) (p741 : PV) (r : PV)  (h : m30 N p741 = some r) : FnP Tryd.prog 30 [p741] r := by
  unfold m30 at h
  refine Fn_of (sz := 53) tab_ok [0, 1, 2, 4, 5, 14, 20, 21, 22, 23, 26, 39, 52] [.tmp 2] Tryd.func30 rfl rfl rfl (by simp) ?_
  simp only [initSt, initEnv, List.map_cons, List.map_nil, List.getD_cons_zero, List.getD_cons_succ, List.getD_nil]
  have hh := getA2_some h; clear h; obtain ⟨p743, p744, h742, h⟩ := hh
  have hh := getI_some h; clear h; obtain ⟨x746, h745, h⟩ := hh
  have hh := brn_some h; clear h; rcases hh with ⟨h747, h⟩ | ⟨h747, h⟩
  · refine W_sound tab_ok mixed 26 _ _ _ ?_
    simp -implicitDefEqProofs only [go_sem, Nat.reduceBEq, Nat.reduceAdd, Nat.reduceSub, Nat.reduceMul, Nat.reduceLT, Nat.reduceLeDiff, Int.reduceLE, Int.reduceLT, Int.reduceToNat, Int.reduceBEq, Int.reduceBNe, ↓reduceIte, h742, h745, h747]
    repeat with_reducible refine And.intro (by first | kernel_rfl | decide) ?_
    obtain rfl := Option.some.inj h
    exact finC [(2, .v (.int .i64 1))] [(2, .v (.int .i64 1))] (by simp [leE, lk_cons]) (.cons _ _ _ _ _ (.v _ _ (.refl _)) .nil) (by rfl) (by simp [leE, lk_cons]) (by decide) (by decide) rfl (by simp only [go_sem, Nat.reduceBEq, Nat.reduceAdd, Nat.reduceSub, Nat.reduceMul, Nat.reduceLT, Nat.reduceLeDiff, Int.reduceLE, Int.reduceLT, Int.reduceToNat, Int.reduceBEq, Int.reduceBNe, ↓reduceIte, resQ_tmp, resQ_cell, resQ_nil, retD_one, retD_two, retD_three, retD_none]; (try simp [R.val, retD_one, retD_two, retD_three, retD_none]); try assumption)
  · have hh := brn_some h; clear h; rcases hh with ⟨h748, h⟩ | ⟨h748, h⟩
    · refine W_sound tab_ok mixed 26 _ _ _ ?_
      simp -implicitDefEqProofs only [go_sem, Nat.reduceBEq, Nat.reduceAdd, Nat.reduceSub, Nat.reduceMul, Nat.reduceLT, Nat.reduceLeDiff, Int.reduceLE, Int.reduceLT, Int.reduceToNat, Int.reduceBEq, Int.reduceBNe, ↓reduceIte, h742, h745, h747, h748]
      repeat with_reducible refine And.intro (by first | kernel_rfl | decide) ?_
      obtain rfl := Option.some.inj h
      exact finC [(2, .v (.int .i64 1))] [(2, .v (.int .i64 1))] (by simp [leE, lk_cons]) (.cons _ _ _ _ _ (.v _ _ (.refl _)) .nil) (by rfl) (by simp [leE, lk_cons]) (by decide) (by decide) rfl (by simp only [go_sem, Nat.reduceBEq, Nat.reduceAdd, Nat.reduceSub, Nat.reduceMul, Nat.reduceLT, Nat.reduceLeDiff, Int.reduceLE, Int.reduceLT, Int.reduceToNat, Int.reduceBEq, Int.reduceBNe, ↓reduceIte, resQ_tmp, resQ_cell, resQ_nil, retD_one, retD_two, retD_three, retD_none]; (try simp [R.val, retD_one, retD_two, retD_three, retD_none]); try assumption)
    · have hh := getL_some h; clear h; obtain ⟨n750, c751, h749, h⟩ := hh
      have hh := brn_some h; clear h; rcases hh with ⟨h752, h⟩ | ⟨h752, h⟩
      · refine W_sound tab_ok mixed 35 _ _ _ ?_
        simp -implicitDefEqProofs only [go_sem, Nat.reduceBEq, Nat.reduceAdd, Nat.reduceSub, Nat.reduceMul, Nat.reduceLT, Nat.reduceLeDiff, Int.reduceLE, Int.reduceLT, Int.reduceToNat, Int.reduceBEq, Int.reduceBNe, ↓reduceIte, h742, h745, h747, h748, h749, h752]
        repeat with_reducible refine And.intro (by first | kernel_rfl | decide) ?_
        obtain rfl := Option.some.inj h
        exact finC [(2, .v (.int .i64 3))] [(2, .v (.int .i64 3))] (by simp [leE, lk_cons]) (.cons _ _ _ _ _ (.v _ _ (.refl _)) .nil) (by rfl) (by simp [leE, lk_cons]) (by decide) (by decide) rfl (by simp only [go_sem, Nat.reduceBEq, Nat.reduceAdd, Nat.reduceSub, Nat.reduceMul, Nat.reduceLT, Nat.reduceLeDiff, Int.reduceLE, Int.reduceLT, Int.reduceToNat, Int.reduceBEq, Int.reduceBNe, ↓reduceIte, resQ_tmp, resQ_cell, resQ_nil, retD_one, retD_two, retD_three, retD_none]; (try simp [R.val, retD_one, retD_two, retD_three, retD_none]); try assumption)
      · refine W_sound tab_ok mixed 39 _ _ _ ?_
        simp -implicitDefEqProofs only [go_sem, Nat.reduceBEq, Nat.reduceAdd, Nat.reduceSub, Nat.reduceMul, Nat.reduceLT, Nat.reduceLeDiff, Int.reduceLE, Int.reduceLT, Int.reduceToNat, Int.reduceBEq, Int.reduceBNe, ↓reduceIte, h742, h745, h747, h748, h749, h752]
        repeat with_reducible refine And.intro (by first | kernel_rfl | decide) ?_
        have hh := bnd'_some h; clear h; obtain ⟨o975, h976, h977⟩ := hh
        refine Wp_cut (fun s => (.inr ()) = o975 ∧ s = ⟨[], [(0, .dead), (1, .ptr 0 0), (2, .dead), (4, .dead), (5, .dead), (14, .dead), (20, .dead), (21, .dead), (22, .dead), (23, .dead), (26, .dead), (39, .dead), (52, .dead)], [(0, .p [(.int .i64 x746), (.lst false n750 c751)])], 1, []⟩) ?_ ?_
        · refine Wp_block ?_
          refine Wp_loopG (fun n s => ∃ x753, m30_L0 N x746 n750 c751 n x753 = some o975 ∧ s = ⟨[], [(0, .dead), (1, .ptr 0 0), (2, .dead), (4, .dead), (5, .dead), (14, .dead), (20, .v (.lst false n750 c751)), (21, .v (.int .i64 ((n750 : Nat) : Int))), (22, .v (.int .i64 x753)), (23, .dead), (26, .dead), (39, .dead), (52, .dead)], [(0, .p [(.int .i64 x746), (.lst false n750 c751)])], 1, []⟩) N _ (Wk_keep (st' := ⟨[], [(0, .dead), (1, .ptr 0 0), (2, .dead), (4, .dead), (5, .dead), (14, .dead), (20, .v (.lst false n750 c751)), (21, .v (.int .i64 ((n750 : Nat) : Int))), (22, .v (.int .i64 0)), (23, .dead), (26, .dead), (39, .dead), (52, .dead)], [(0, .p [(.int .i64 x746), (.lst false n750 c751)])], 1, []⟩) [1, 20, 21, 22] (by kernel_rfl)) ⟨_, h976, rfl⟩ ?_
          clear h976
          rintro n _ ⟨x753, h976, rfl⟩
          cases n with
          | zero => cases h976
          | succ n =>
            rw [m30_L0] at h976
            have hh := brn_some h976; clear h976; rcases hh with ⟨h754, h976⟩ | ⟨h754, h976⟩
            · have hh := grd_some h976; clear h976; obtain ⟨⟨g755, g756⟩, h976⟩ := hh
              have hh := grd_some h976; clear h976; obtain ⟨g757, h976⟩ := hh
              have hh := getA2_some h976; clear h976; obtain ⟨p759, p760, h758, h976⟩ := hh
              injection h758 with h758
              have hh := getI_some h976; clear h976; obtain ⟨x762, h761, h976⟩ := hh
              have hh := bnd'_some h976; clear h976; obtain ⟨p766, h767, h976⟩ := hh
              refine W_sound tab_ok mixed 23 _ _ _ ?_
              simp -implicitDefEqProofs only [go_sem, Nat.reduceBEq, Nat.reduceAdd, Nat.reduceSub, Nat.reduceMul, Nat.reduceLT, Nat.reduceLeDiff, Int.reduceLE, Int.reduceLT, Int.reduceToNat, Int.reduceBEq, Int.reduceBNe, ↓reduceIte, h742, h745, h747, h748, h749, h752, h754, g755, g756, g757, h758, h761]
              repeat with_reducible refine And.intro (by first | kernel_rfl | decide) ?_
              refine Wp_callP (c41 N _ _ _ h767) (by kernel_rfl) rfl rfl rfl rfl (by decide) ?_
              have hh := getB_some h976; clear h976; obtain ⟨b769, h768, h976⟩ := hh
              have hh := brn_some h976; clear h976; rcases hh with ⟨h770, h976⟩ | ⟨h770, h976⟩
              · refine W_sound tab_ok mixed 16 _ _ _ ?_
                simp -implicitDefEqProofs only [go_sem, Nat.reduceBEq, Nat.reduceAdd, Nat.reduceSub, Nat.reduceMul, Nat.reduceLT, Nat.reduceLeDiff, Int.reduceLE, Int.reduceLT, Int.reduceToNat, Int.reduceBEq, Int.reduceBNe, ↓reduceIte, h742, h745, h747, h748, h749, h752, h754, g755, g756, g757, h758, h761, h768, h770]
                repeat with_reducible refine And.intro (by first | kernel_rfl | decide) ?_
                obtain rfl := Option.some.inj h976
                (try dsimp only at h977)
                obtain rfl := Option.some.inj h977
                exact finC [(2, .v (.int .i64 2))] [(2, .v (.int .i64 2))] (by simp [leE, lk_cons]) (.cons _ _ _ _ _ (.v _ _ (.refl _)) .nil) (by rfl) (by simp [leE, lk_cons]) (by decide) (by decide) rfl (by simp only [go_sem, Nat.reduceBEq, Nat.reduceAdd, Nat.reduceSub, Nat.reduceMul, Nat.reduceLT, Nat.reduceLeDiff, Int.reduceLE, Int.reduceLT, Int.reduceToNat, Int.reduceBEq, Int.reduceBNe, ↓reduceIte, resQ_tmp, resQ_cell, resQ_nil, retD_one, retD_two, retD_three, retD_none]; (try simp [R.val, retD_one, retD_two, retD_three, retD_none]); try assumption)
              · have hh := getI_some h976; clear h976; obtain ⟨x772, h771, h976⟩ := hh
                have hh := bnd'_some h976; clear h976; obtain ⟨p773, h774, h976⟩ := hh
                refine W_sound tab_ok mixed 5 _ _ _ ?_
                simp -implicitDefEqProofs only [go_sem, Nat.reduceBEq, Nat.reduceAdd, Nat.reduceSub, Nat.reduceMul, Nat.reduceLT, Nat.reduceLeDiff, Int.reduceLE, Int.reduceLT, Int.reduceToNat, Int.reduceBEq, Int.reduceBNe, ↓reduceIte, h742, h745, h747, h748, h749, h752, h754, g755, g756, g757, h758, h761, h768, h770, h771]
                repeat with_reducible refine And.intro (by first | kernel_rfl | decide) ?_
                refine Wp_callP (c41 N _ _ _ h774) (by kernel_rfl) rfl rfl rfl rfl (by decide) ?_
                have hh := getB_some h976; clear h976; obtain ⟨b776, h775, h976⟩ := hh
                have hh := brn_some h976; clear h976; rcases hh with ⟨h777, h976⟩ | ⟨h777, h976⟩
                · refine W_sound tab_ok mixed 10 _ _ _ ?_
                  simp -implicitDefEqProofs only [go_sem, Nat.reduceBEq, Nat.reduceAdd, Nat.reduceSub, Nat.reduceMul, Nat.reduceLT, Nat.reduceLeDiff, Int.reduceLE, Int.reduceLT, Int.reduceToNat, Int.reduceBEq, Int.reduceBNe, ↓reduceIte, h742, h745, h747, h748, h749, h752, h754, g755, g756, g757, h758, h761, h768, h770, h771, h775, h777]
                  repeat with_reducible refine And.intro (by first | kernel_rfl | decide) ?_
                  obtain rfl := Option.some.inj h976
                  (try dsimp only at h977)
                  obtain rfl := Option.some.inj h977
                  exact finC [(2, .v (.int .i64 2))] [(2, .v (.int .i64 2))] (by simp [leE, lk_cons]) (.cons _ _ _ _ _ (.v _ _ (.refl _)) .nil) (by rfl) (by simp [leE, lk_cons]) (by decide) (by decide) rfl (by simp only [go_sem, Nat.reduceBEq, Nat.reduceAdd, Nat.reduceSub, Nat.reduceMul, Nat.reduceLT, Nat.reduceLeDiff, Int.reduceLE, Int.reduceLT, Int.reduceToNat, Int.reduceBEq, Int.reduceBNe, ↓reduceIte, resQ_tmp, resQ_cell, resQ_nil, retD_one, retD_two, retD_three, retD_none]; (try simp [R.val, retD_one, retD_two, retD_three, retD_none]); try assumption)
                · have hh := brn_some h976; clear h976; rcases hh with ⟨h778, h976⟩ | ⟨h778, h976⟩
                  · refine W_sound tab_ok mixed 20 _ _ _ ?_
                    simp -implicitDefEqProofs only [go_sem, Nat.reduceBEq, Nat.reduceAdd, Nat.reduceSub, Nat.reduceMul, Nat.reduceLT, Nat.reduceLeDiff, Int.reduceLE, Int.reduceLT, Int.reduceToNat, Int.reduceBEq, Int.reduceBNe, ↓reduceIte, h742, h745, h747, h748, h749, h752, h754, g755, g756, g757, h758, h761, h768, h770, h771, h775, h777, h778]
                    repeat with_reducible refine And.intro (by first | kernel_rfl | decide) ?_
                    obtain rfl := Option.some.inj h976
                    (try dsimp only at h977)
                    obtain rfl := Option.some.inj h977
                    exact finC [(2, .v (.int .i64 7))] [(2, .v (.int .i64 7))] (by simp [leE, lk_cons]) (.cons _ _ _ _ _ (.v _ _ (.refl _)) .nil) (by rfl) (by simp [leE, lk_cons]) (by decide) (by decide) rfl (by simp only [go_sem, Nat.reduceBEq, Nat.reduceAdd, Nat.reduceSub, Nat.reduceMul, Nat.reduceLT, Nat.reduceLeDiff, Int.reduceLE, Int.reduceLT, Int.reduceToNat, Int.reduceBEq, Int.reduceBNe, ↓reduceIte, resQ_tmp, resQ_cell, resQ_nil, retD_one, retD_two, retD_three, retD_none]; (try simp [R.val, retD_one, retD_two, retD_three, retD_none]); try assumption)
                  · refine W_sound tab_ok mixed 21 _ _ _ ?_
                    simp -implicitDefEqProofs only [go_sem, Nat.reduceBEq, Nat.reduceAdd, Nat.reduceSub, Nat.reduceMul, Nat.reduceLT, Nat.reduceLeDiff, Int.reduceLE, Int.reduceLT, Int.reduceToNat, Int.reduceBEq, Int.reduceBNe, ↓reduceIte, h742, h745, h747, h748, h749, h752, h754, g755, g756, g757, h758, h761, h768, h770, h771, h775, h777, h778]
                    repeat with_reducible refine And.intro (by first | kernel_rfl | decide) ?_
                    refine cutQ _ ?_ ⟨n, Nat.lt_succ_self n, _, h976, rfl⟩
                    exact Wk_keep [1, 20, 21, 22] (by kernel_rfl)
            · refine W_sound tab_ok mixed 7 _ _ _ ?_
              simp -implicitDefEqProofs only [go_sem, Nat.reduceBEq, Nat.reduceAdd, Nat.reduceSub, Nat.reduceMul, Nat.reduceLT, Nat.reduceLeDiff, Int.reduceLE, Int.reduceLT, Int.reduceToNat, Int.reduceBEq, Int.reduceBNe, ↓reduceIte, h742, h745, h747, h748, h749, h752, h754]
              repeat with_reducible refine And.intro (by first | kernel_rfl | decide) ?_
              obtain rfl := Option.some.inj h976
              refine cutQ _ ?_ ⟨rfl, rfl⟩
              exact Wk_keep [1] (by kernel_rfl)
        · rintro _ ⟨rfl, rfl⟩
          (try dsimp only at h977)
          have hh := bnd'_some h977; clear h977; obtain ⟨p969, h970, h977⟩ := hh
          refine W_sound tab_ok mixed 4 _ _ _ ?_
          simp -implicitDefEqProofs only [go_sem, Nat.reduceBEq, Nat.reduceAdd, Nat.reduceSub, Nat.reduceMul, Nat.reduceLT, Nat.reduceLeDiff, Int.reduceLE, Int.reduceLT, Int.reduceToNat, Int.reduceBEq, Int.reduceBNe, ↓reduceIte, h742, h745, h747, h748, h749, h752]
          repeat with_reducible refine And.intro (by first | kernel_rfl | decide) ?_
          refine Wp_callP (c39 N _ _ _ _ h970) (by kernel_rfl) rfl rfl rfl rfl (by decide) ?_
          have hh := getI_some h977; clear h977; obtain ⟨x972, h971, h977⟩ := hh
          have hh := grd_some h977; clear h977; obtain ⟨g973, h977⟩ := hh
          have hh := brn_some h977; clear h977; rcases hh with ⟨h974, h977⟩ | ⟨h974, h977⟩
          · refine W_sound tab_ok mixed 13 _ _ _ ?_
            simp -implicitDefEqProofs only [go_sem, Nat.reduceBEq, Nat.reduceAdd, Nat.reduceSub, Nat.reduceMul, Nat.reduceLT, Nat.reduceLeDiff, Int.reduceLE, Int.reduceLT, Int.reduceToNat, Int.reduceBEq, Int.reduceBNe, ↓reduceIte, h742, h745, h747, h748, h749, h752, h971, g973, h974]
            repeat with_reducible refine And.intro (by first | kernel_rfl | decide) ?_
            obtain rfl := Option.some.inj h977
            exact finC [(2, .v (.int .i64 5))] [(2, .v (.int .i64 5))] (by simp [leE, lk_cons]) (.cons _ _ _ _ _ (.v _ _ (.refl _)) .nil) (by rfl) (by simp [leE, lk_cons]) (by decide) (by decide) rfl (by simp only [go_sem, Nat.reduceBEq, Nat.reduceAdd, Nat.reduceSub, Nat.reduceMul, Nat.reduceLT, Nat.reduceLeDiff, Int.reduceLE, Int.reduceLT, Int.reduceToNat, Int.reduceBEq, Int.reduceBNe, ↓reduceIte, resQ_tmp, resQ_cell, resQ_nil, retD_one, retD_two, retD_three, retD_none]; (try simp [R.val, retD_one, retD_two, retD_three, retD_none]); try assumption)
          · refine W_sound tab_ok mixed 14 _ _ _ ?_
            simp -implicitDefEqProofs only [go_sem, Nat.reduceBEq, Nat.reduceAdd, Nat.reduceSub, Nat.reduceMul, Nat.reduceLT, Nat.reduceLeDiff, Int.reduceLE, Int.reduceLT, Int.reduceToNat, Int.reduceBEq, Int.reduceBNe, ↓reduceIte, h742, h745, h747, h748, h749, h752, h971, g973, h974]
            repeat with_reducible refine And.intro (by first | kernel_rfl | decide) ?_
            obtain rfl := Option.some.inj h977
            exact finC [(2, .v (.int .i64 0))] [(2, .v (.int .i64 0))] (by simp [leE, lk_cons]) (.cons _ _ _ _ _ (.v _ _ (.refl _)) .nil) (by rfl) (by simp [leE, lk_cons]) (by decide) (by decide) rfl (by simp only [go_sem, Nat.reduceBEq, Nat.reduceAdd, Nat.reduceSub, Nat.reduceMul, Nat.reduceLT, Nat.reduceLeDiff, Int.reduceLE, Int.reduceLT, Int.reduceToNat, Int.reduceBEq, Int.reduceBNe, ↓reduceIte, resQ_tmp, resQ_cell, resQ_nil, retD_one, retD_two, retD_three, retD_none]; (try simp [R.val, retD_one, retD_two, retD_three, retD_none]); try assumption)
def m87 (N : Nat) (x1000 : Int) : Option (PV) :=
  brn (x1000 == 0) (
    some (.int .i64 64)) (
    grd (0 ≤ (Int.fdiv (IntKind.u64.wrap ((bitsI .and .u64 x1000 (IntKind.u64.wrap (0 - x1000))) * 285870213051353865)) (2 ^ (min 58 64))) ∧ (Int.fdiv (IntKind.u64.wrap ((bitsI .and .u64 x1000 (IntKind.u64.wrap (0 - x1000))) * 285870213051353865)) (2 ^ (min 58 64))) < 64) <|
    grd (0 < List.length (List.drop (Int.toNat (Int.fdiv (IntKind.u64.wrap ((bitsI .and .u64 x1000 (IntKind.u64.wrap (0 - x1000))) * 285870213051353865)) (2 ^ (min 58 64)))) gv1)) <|
    getI .u8 (gp gv1 (Int.toNat (Int.fdiv (IntKind.u64.wrap ((bitsI .and .u64 x1000 (IntKind.u64.wrap (0 - x1000))) * 285870213051353865)) (2 ^ (min 58 64))))) fun x1006 =>
    some (.int .i64 (IntKind.i64.wrap x1006)))
theorem c87 (N : Nat) (x1000 : Int) (r : PV)  (h : m87 N x1000 = some r) : FnP Tryd.prog 87 [(.int .u64 x1000)] r := by
  unfold m87 at h
  refine Fn_of (sz := 14) tab_ok [0, 2, 4] [.tmp 2] Tryd.func87 rfl rfl rfl (by simp) ?_
  simp only [initSt, initEnv, List.map_cons, List.map_nil, List.getD_cons_zero, List.getD_cons_succ, List.getD_nil]
  have hh := brn_some h; clear h; rcases hh with ⟨h1001, h⟩ | ⟨h1001, h⟩
  · refine W_sound tab_ok mixed 17 _ _ _ ?_
    simp -implicitDefEqProofs only [go_sem, Nat.reduceBEq, Nat.reduceAdd, Nat.reduceSub, Nat.reduceMul, Nat.reduceLT, Nat.reduceLeDiff, Int.reduceLE, Int.reduceLT, Int.reduceToNat, Int.reduceBEq, Int.reduceBNe, ↓reduceIte, h1001]
    repeat with_reducible refine And.intro (by first | kernel_rfl | decide) ?_
    obtain rfl := Option.some.inj h
    exact finC [(2, .v (.int .i64 64))] [(2, .v (.int .i64 64))] (by simp [leE, lk_cons]) (.cons _ _ _ _ _ (.v _ _ (.refl _)) .nil) (by rfl) (by simp [leE, lk_cons]) (by decide) (by decide) rfl (by simp only [go_sem, Nat.reduceBEq, Nat.reduceAdd, Nat.reduceSub, Nat.reduceMul, Nat.reduceLT, Nat.reduceLeDiff, Int.reduceLE, Int.reduceLT, Int.reduceToNat, Int.reduceBEq, Int.reduceBNe, ↓reduceIte, resQ_tmp, resQ_cell, resQ_nil, retD_one, retD_two, retD_three, retD_none]; (try simp [R.val, retD_one, retD_two, retD_three, retD_none]); try assumption)
  · have hh := grd_some h; clear h; obtain ⟨⟨g1002, g1003⟩, h⟩ := hh
    have hh := grd_some h; clear h; obtain ⟨g1004, h⟩ := hh
    have hh := getI_some h; clear h; obtain ⟨x1006, h1005, h⟩ := hh
    refine W_sound tab_ok mixed 27 _ _ _ ?_
    simp -implicitDefEqProofs only [go_sem, Nat.reduceBEq, Nat.reduceAdd, Nat.reduceSub, Nat.reduceMul, Nat.reduceLT, Nat.reduceLeDiff, Int.reduceLE, Int.reduceLT, Int.reduceToNat, Int.reduceBEq, Int.reduceBNe, ↓reduceIte, h1001, g1002, g1003, g1004, h1005]
    repeat with_reducible refine And.intro (by first | kernel_rfl | decide) ?_
    obtain rfl := Option.some.inj h
    exact finC [(2, .v (.int .i64 (IntKind.i64.wrap x1006)))] [(2, .v (.int .i64 (IntKind.i64.wrap x1006)))] (by simp [leE, lk_cons]) (.cons _ _ _ _ _ (.v _ _ (.refl _)) .nil) (by rfl) (by simp [leE, lk_cons]) (by decide) (by decide) rfl (by simp only [go_sem, Nat.reduceBEq, Nat.reduceAdd, Nat.reduceSub, Nat.reduceMul, Nat.reduceLT, Nat.reduceLeDiff, Int.reduceLE, Int.reduceLT, Int.reduceToNat, Int.reduceBEq, Int.reduceBNe, ↓reduceIte, resQ_tmp, resQ_cell, resQ_nil, retD_one, retD_two, retD_three, retD_none]; (try simp [R.val, retD_one, retD_two, retD_three, retD_none]); try assumption)
def m61 (N : Nat) (x999 : Int) : Option (PV) :=
  bnd' (m87 N x999) fun p1007 =>
  getI .i64 p1007 fun x1010 =>
  some (.int .i64 x1010)
theorem c61 (N : Nat) (x999 : Int) (r : PV)  (h : m61 N x999 = some r) : FnP Tryd.prog 61 [(.int .u64 x999)] r := by
  unfold m61 at h
  refine Fn_of (sz := 8) tab_ok [0, 2] [.tmp 2] Tryd.func61 rfl rfl rfl (by simp) ?_
  simp only [initSt, initEnv, List.map_cons, List.map_nil, List.getD_cons_zero, List.getD_cons_succ, List.getD_nil]
  have hh := bnd'_some h; clear h; obtain ⟨p1007, h1008, h⟩ := hh
  refine W_sound tab_ok mixed 10 _ _ _ ?_
  simp -implicitDefEqProofs only [go_sem, Nat.reduceBEq, Nat.reduceAdd, Nat.reduceSub, Nat.reduceMul, Nat.reduceLT, Nat.reduceLeDiff, Int.reduceLE, Int.reduceLT, Int.reduceToNat, Int.reduceBEq, Int.reduceBNe, ↓reduceIte]
  repeat with_reducible refine And.intro (by first | kernel_rfl | decide) ?_
  refine Wp_callP (c87 N _ _ h1008) (by kernel_rfl) rfl rfl rfl rfl (by decide) ?_
  have hh := getI_some h; clear h; obtain ⟨x1010, h1009, h⟩ := hh
  refine W_sound tab_ok mixed 4 _ _ _ ?_
  simp -implicitDefEqProofs only [go_sem, Nat.reduceBEq, Nat.reduceAdd, Nat.reduceSub, Nat.reduceMul, Nat.reduceLT, Nat.reduceLeDiff, Int.reduceLE, Int.reduceLT, Int.reduceToNat, Int.reduceBEq, Int.reduceBNe, ↓reduceIte, h1009]
  repeat with_reducible refine And.intro (by first | kernel_rfl | decide) ?_
  obtain rfl := Option.some.inj h
  exact finC [(2, .v (.int .i64 x1010))] [(2, .v (.int .i64 x1010))] (by simp [leE, lk_cons]) (.cons _ _ _ _ _ (.v _ _ (.refl _)) .nil) (by rfl) (by simp [leE, lk_cons]) (by decide) (by decide) rfl (by simp only [go_sem, Nat.reduceBEq, Nat.reduceAdd, Nat.reduceSub, Nat.reduceMul, Nat.reduceLT, Nat.reduceLeDiff, Int.reduceLE, Int.reduceLT, Int.reduceToNat, Int.reduceBEq, Int.reduceBNe, ↓reduceIte, resQ_tmp, resQ_cell, resQ_nil, retD_one, retD_two, retD_three, retD_none]; (try simp [R.val, retD_one, retD_two, retD_three, retD_none]); try assumption)
def m31_L0 (N : Nat)  : Nat → Int → Nat → List PV → Option ((Nat × List PV))
  | 0, _, _, _ => none
  | n + 1, x1021, n1022, c1023 =>
    brn (x1021 != 0) (
      bnd' (m61 N x1021) fun p1025 =>
      getI .i64 p1025 fun x1028 =>
      grd ((n1022 + 1) ≤ 1099511627776) <|
      grd (List.length c1023 = n1022) <|
      m31_L0 N  n (bitsI .and .u64 x1021 (IntKind.u64.wrap (x1021 - 1))) (n1022 + 1) (c1023 ++ [(.int .i64 x1028)])) (
      some (n1022, c1023))
def m31 (N : Nat) (x996 : Int) : Option (PV) :=
  bnd' (m31_L0 N  N x996 0 []) fun o =>
  match o with
  | (n1031, c1032) =>
    grd (List.length c1032 = n1031) <|
    some (.lst false n1031 c1032)
theorem c31 (N : Nat) (x996 : Int) (r : PV)  (h : m31 N x996 = some r) : FnP Tryd.prog 31 [(.int .u64 x996)] r := by
  unfold m31 at h
  refine Fn_of (sz := 16) tab_ok [0, 2, 3, 5] [.tmp 2] Tryd.func31 rfl rfl rfl (by simp) ?_
  simp only [initSt, initEnv, List.map_cons, List.map_nil, List.getD_cons_zero, List.getD_cons_succ, List.getD_nil]
  refine W_sound tab_ok mixed 9 _ _ _ ?_
  simp -implicitDefEqProofs only [go_sem, Nat.reduceBEq, Nat.reduceAdd, Nat.reduceSub, Nat.reduceMul, Nat.reduceLT, Nat.reduceLeDiff, Int.reduceLE, Int.reduceLT, Int.reduceToNat, Int.reduceBEq, Int.reduceBNe, ↓reduceIte]
  repeat with_reducible refine And.intro (by first | kernel_rfl | decide) ?_
  refine Wp_weaken (Wk_ownS 3 1 rfl (by decide) (by decide)) ?_
  simp -implicitDefEqProofs only [go_sem, Nat.reduceBEq, Nat.reduceAdd, Nat.reduceSub, Nat.reduceMul, Nat.reduceLT, Nat.reduceLeDiff, Int.reduceLE, Int.reduceLT, Int.reduceToNat, Int.reduceBEq, Int.reduceBNe, ↓reduceIte]
  have hh := bnd'_some h; clear h; obtain ⟨o1034, h1035, h1036⟩ := hh
  refine Wp_cut (fun s => ∃ n1031, ∃ c1032, (n1031, c1032) = o1034 ∧ s = ⟨[], [(0, .dead), (2, .dead), (3, .sl false 0 0 n1031 1), (5, .dead)], [(0, .p c1032)], 1, []⟩) ?_ ?_
  · refine Wp_block ?_
    refine Wp_loopG (fun n s => ∃ x1021, ∃ n1022, ∃ c1023, m31_L0 N  n x1021 n1022 c1023 = some o1034 ∧ s = ⟨[], [(0, .v (.int .u64 x1021)), (2, .dead), (3, .sl false 0 0 n1022 1), (5, .dead)], [(0, .p c1023)], 1, []⟩) N _ (Wk_keep (st' := ⟨[], [(0, .v (.int .u64 x996)), (2, .dead), (3, .sl false 0 0 0 1), (5, .dead)], [(0, .p [])], 1, []⟩) [0, 3] (by kernel_rfl)) ⟨_, _, _, h1035, rfl⟩ ?_
    clear h1035
    rintro n _ ⟨x1021, n1022, c1023, h1035, rfl⟩
    cases n with
    | zero => cases h1035
    | succ n =>
      rw [m31_L0] at h1035
      have hh := brn_some h1035; clear h1035; rcases hh with ⟨h1024, h1035⟩ | ⟨h1024, h1035⟩
      · have hh := bnd'_some h1035; clear h1035; obtain ⟨p1025, h1026, h1035⟩ := hh
        refine W_sound tab_ok mixed 13 _ _ _ ?_
        simp -implicitDefEqProofs only [go_sem, Nat.reduceBEq, Nat.reduceAdd, Nat.reduceSub, Nat.reduceMul, Nat.reduceLT, Nat.reduceLeDiff, Int.reduceLE, Int.reduceLT, Int.reduceToNat, Int.reduceBEq, Int.reduceBNe, ↓reduceIte, h1024]
        repeat with_reducible refine And.intro (by first | kernel_rfl | decide) ?_
        refine Wp_callP (c61 N _ _ h1026) (by kernel_rfl) rfl rfl rfl rfl (by decide) ?_
        have hh := getI_some h1035; clear h1035; obtain ⟨x1028, h1027, h1035⟩ := hh
        have hh := grd_some h1035; clear h1035; obtain ⟨g1029, h1035⟩ := hh
        have hh := grd_some h1035; clear h1035; obtain ⟨g1030, h1035⟩ := hh
        refine W_sound tab_ok mixed 12 _ _ _ ?_
        simp -implicitDefEqProofs only [go_sem, Nat.reduceBEq, Nat.reduceAdd, Nat.reduceSub, Nat.reduceMul, Nat.reduceLT, Nat.reduceLeDiff, Int.reduceLE, Int.reduceLT, Int.reduceToNat, Int.reduceBEq, Int.reduceBNe, ↓reduceIte, h1024, h1027, g1029, g1030]
        repeat with_reducible refine And.intro (by first | kernel_rfl | decide) ?_
        refine cutQ _ ?_ ⟨n, Nat.lt_succ_self n, _, _, _, h1035, rfl⟩
        exact Wk_keep [0, 3] (by kernel_rfl)
      · refine W_sound tab_ok mixed 8 _ _ _ ?_
        simp -implicitDefEqProofs only [go_sem, Nat.reduceBEq, Nat.reduceAdd, Nat.reduceSub, Nat.reduceMul, Nat.reduceLT, Nat.reduceLeDiff, Int.reduceLE, Int.reduceLT, Int.reduceToNat, Int.reduceBEq, Int.reduceBNe, ↓reduceIte, h1024]
        repeat with_reducible refine And.intro (by first | kernel_rfl | decide) ?_
        obtain rfl := Option.some.inj h1035
        refine cutQ _ ?_ ⟨_, _, rfl, rfl⟩
        exact Wk_keep [3] (by kernel_rfl)
  · rintro _ ⟨n1031, c1032, rfl, rfl⟩
    (try dsimp only at h1036)
    refine W_sound tab_ok mixed 7 _ _ _ ?_
    simp -implicitDefEqProofs only [go_sem, Nat.reduceBEq, Nat.reduceAdd, Nat.reduceSub, Nat.reduceMul, Nat.reduceLT, Nat.reduceLeDiff, Int.reduceLE, Int.reduceLT, Int.reduceToNat, Int.reduceBEq, Int.reduceBNe, ↓reduceIte]
    repeat with_reducible refine And.intro (by first | kernel_rfl | decide) ?_
    have hh := grd_some h1036; clear h1036; obtain ⟨g1033, h1036⟩ := hh
    refine FinQ_wk (Wk_freeze 0 c1032 (by rfl) (by decide) (by decide)) ?_
    simp -implicitDefEqProofs only [go_sem, Nat.reduceBEq, Nat.reduceAdd, Nat.reduceSub, Nat.reduceMul, Nat.reduceLT, Nat.reduceLeDiff, Int.reduceLE, Int.reduceLT, Int.reduceToNat, Int.reduceBEq, Int.reduceBNe, ↓reduceIte, g1033]
    obtain rfl := Option.some.inj h1036
    exact finC [(2, .v (.lst false n1031 c1032))] [(2, .v (.lst false n1031 c1032))] (by simp [leE, lk_cons]) (.cons _ _ _ _ _ (.v _ _ (.refl _)) .nil) (by rfl) (by simp [leE, lk_cons]) (by decide) (by decide) rfl (by simp only [go_sem, Nat.reduceBEq, Nat.reduceAdd, Nat.reduceSub, Nat.reduceMul, Nat.reduceLT, Nat.reduceLeDiff, Int.reduceLE, Int.reduceLT, Int.reduceToNat, Int.reduceBEq, Int.reduceBNe, ↓reduceIte, resQ_tmp, resQ_cell, resQ_nil, retD_one, retD_two, retD_three, retD_none]; (try simp [R.val, retD_one, retD_two, retD_three, retD_none]); try assumption)
def m62_L0 (N : Nat) (p994 : PV) (n1040 : Nat) (c1041 : List PV) : Nat → Int → Int → PV → Option (Int)
  | 0, _, _, _ => none
  | n + 1, x1063, x1064, p1065 =>
    brn (decide (x1064 < ((n1040 : Nat) : Int))) (
      grd (0 ≤ x1064 ∧ x1064 < ((n1040 : Nat) : Int)) <|
      grd (0 < List.length (List.drop (Int.toNat x1064) c1041)) <|
      getI .i64 (gp c1041 (Int.toNat x1064)) fun x1071 =>
      getL p1065 fun n1073 c1074 =>
      grd (0 ≤ x1071 ∧ x1071 < ((n1073 : Nat) : Int)) <|
      grd (2 ≤ List.length (List.drop ((Int.toNat x1071) * 2) c1074)) <|
      getA2 (.agg (List.take 2 (List.drop ((Int.toNat x1071) * 2) c1074))) fun p1079 p1080 =>
      bnd' (m40 N (.agg [p1079, p1080])) fun p1081 =>
      getI .u64 p1081 fun x1084 =>
      m62_L0 N p994 n1040 c1041 n (bitsI .xor .u64 x1063 x1084) (IntKind.i64.wrap (x1064 + 1)) (.lst false n1073 c1074)) (
      some x1063)
def m62 (N : Nat) (p991 : PV) (x992 : Int) : Option (PV) :=
  getA2 p991 fun p994 p995 =>
  bnd' (m31 N x992) fun p1037 =>
  getL p1037 fun n1040 c1041 =>
  bnd' (m62_L0 N p994 n1040 c1041 N 0 0 p995) fun x1085 =>
  some (.int .u64 x1085)
theorem c62 (N : Nat) (p991 : PV) (x992 : Int) (r : PV)  (h : m62 N p991 x992 = some r) : FnP Tryd.prog 62 [p991, (.int .u64 x992)] r := by
  unfold m62 at h
  refine Fn_of (sz := 25) tab_ok [0, 1, 2, 4, 5, 7, 9, 10, 11, 12] [.tmp 4] Tryd.func62 rfl rfl rfl (by simp) ?_
  simp only [initSt, initEnv, List.map_cons, List.map_nil, List.getD_cons_zero, List.getD_cons_succ, List.getD_nil]
  have hh := getA2_some h; clear h; obtain ⟨p994, p995, h993, h⟩ := hh
  have hh := bnd'_some h; clear h; obtain ⟨p1037, h1038, h⟩ := hh
  refine W_sound tab_ok mixed 13 _ _ _ ?_
  simp -implicitDefEqProofs only [go_sem, Nat.reduceBEq, Nat.reduceAdd, Nat.reduceSub, Nat.reduceMul, Nat.reduceLT, Nat.reduceLeDiff, Int.reduceLE, Int.reduceLT, Int.reduceToNat, Int.reduceBEq, Int.reduceBNe, ↓reduceIte, h993]
  repeat with_reducible refine And.intro (by first | kernel_rfl | decide) ?_
  refine Wp_callP (c31 N _ _ h1038) (by kernel_rfl) rfl rfl rfl rfl (by decide) ?_
  have hh := getL_some h; clear h; obtain ⟨n1040, c1041, h1039, h⟩ := hh
  refine W_sound tab_ok mixed 3 _ _ _ ?_
  simp -implicitDefEqProofs only [go_sem, Nat.reduceBEq, Nat.reduceAdd, Nat.reduceSub, Nat.reduceMul, Nat.reduceLT, Nat.reduceLeDiff, Int.reduceLE, Int.reduceLT, Int.reduceToNat, Int.reduceBEq, Int.reduceBNe, ↓reduceIte, h993, h1039]
  repeat with_reducible refine And.intro (by first | kernel_rfl | decide) ?_
  have hh := bnd'_some h; clear h; obtain ⟨o1086, h1087, h1088⟩ := hh
  refine Wp_cut (fun s => ∃ x1085, x1085 = o1086 ∧ s = ⟨[], [(0, .dead), (1, .dead), (2, .dead), (4, .dead), (5, .v (.int .u64 x1085)), (7, .dead), (9, .dead), (10, .dead), (11, .dead), (12, .dead)], [], 0, []⟩) ?_ ?_
  · refine Wp_block ?_
    refine Wp_loopG (fun n s => ∃ x1063, ∃ x1064, ∃ p1065, m62_L0 N p994 n1040 c1041 n x1063 x1064 p1065 = some o1086 ∧ s = ⟨[], [(0, .dead), (1, .dead), (2, .ptr 0 0), (4, .dead), (5, .v (.int .u64 x1063)), (7, .dead), (9, .v (.lst false n1040 c1041)), (10, .v (.int .i64 ((n1040 : Nat) : Int))), (11, .v (.int .i64 x1064)), (12, .dead)], [(0, .p [p994, p1065])], 1, []⟩) N _ (Wk_keep (st' := ⟨[], [(0, .dead), (1, .dead), (2, .ptr 0 0), (4, .dead), (5, .v (.int .u64 0)), (7, .dead), (9, .v (.lst false n1040 c1041)), (10, .v (.int .i64 ((n1040 : Nat) : Int))), (11, .v (.int .i64 0)), (12, .dead)], [(0, .p [p994, p995])], 1, []⟩) [2, 5, 9, 10, 11] (by kernel_rfl)) ⟨_, _, _, h1087, rfl⟩ ?_
    clear h1087
    rintro n _ ⟨x1063, x1064, p1065, h1087, rfl⟩
    cases n with
    | zero => cases h1087
    | succ n =>
      rw [m62_L0] at h1087
      have hh := brn_some h1087; clear h1087; rcases hh with ⟨h1066, h1087⟩ | ⟨h1066, h1087⟩
      · have hh := grd_some h1087; clear h1087; obtain ⟨⟨g1067, g1068⟩, h1087⟩ := hh
        have hh := grd_some h1087; clear h1087; obtain ⟨g1069, h1087⟩ := hh
        have hh := getI_some h1087; clear h1087; obtain ⟨x1071, h1070, h1087⟩ := hh
        have hh := getL_some h1087; clear h1087; obtain ⟨n1073, c1074, h1072, h1087⟩ := hh
        have hh := grd_some h1087; clear h1087; obtain ⟨⟨g1075, g1076⟩, h1087⟩ := hh
        have hh := grd_some h1087; clear h1087; obtain ⟨g1077, h1087⟩ := hh
        have hh := getA2_some h1087; clear h1087; obtain ⟨p1079, p1080, h1078, h1087⟩ := hh
        injection h1078 with h1078
        have hh := bnd'_some h1087; clear h1087; obtain ⟨p1081, h1082, h1087⟩ := hh
        refine W_sound tab_ok mixed 22 _ _ _ ?_
        simp -implicitDefEqProofs only [go_sem, Nat.reduceBEq, Nat.reduceAdd, Nat.reduceSub, Nat.reduceMul, Nat.reduceLT, Nat.reduceLeDiff, Int.reduceLE, Int.reduceLT, Int.reduceToNat, Int.reduceBEq, Int.reduceBNe, ↓reduceIte, h993, h1039, h1066, g1067, g1068, g1069, h1070, h1072, g1075, g1076, g1077, h1078]
        repeat with_reducible refine And.intro (by first | kernel_rfl | decide) ?_
        refine Wp_callP (c40 N _ _ h1082) (by kernel_rfl) rfl rfl rfl rfl (by decide) ?_
        have hh := getI_some h1087; clear h1087; obtain ⟨x1084, h1083, h1087⟩ := hh
        refine W_sound tab_ok mixed 8 _ _ _ ?_
        simp -implicitDefEqProofs only [go_sem, Nat.reduceBEq, Nat.reduceAdd, Nat.reduceSub, Nat.reduceMul, Nat.reduceLT, Nat.reduceLeDiff, Int.reduceLE, Int.reduceLT, Int.reduceToNat, Int.reduceBEq, Int.reduceBNe, ↓reduceIte, h993, h1039, h1066, g1067, g1068, g1069, h1070, h1072, g1075, g1076, g1077, h1078, h1083]
        repeat with_reducible refine And.intro (by first | kernel_rfl | decide) ?_
        refine cutQ _ ?_ ⟨n, Nat.lt_succ_self n, _, _, _, h1087, rfl⟩
        exact Wk_keep [2, 5, 9, 10, 11] (by kernel_rfl)
      · refine W_sound tab_ok mixed 7 _ _ _ ?_
        simp -implicitDefEqProofs only [go_sem, Nat.reduceBEq, Nat.reduceAdd, Nat.reduceSub, Nat.reduceMul, Nat.reduceLT, Nat.reduceLeDiff, Int.reduceLE, Int.reduceLT, Int.reduceToNat, Int.reduceBEq, Int.reduceBNe, ↓reduceIte, h993, h1039, h1066]
        repeat with_reducible refine And.intro (by first | kernel_rfl | decide) ?_
        obtain rfl := Option.some.inj h1087
        refine cutQ _ ?_ ⟨_, rfl, rfl⟩
        exact Wk_keep [5] (by kernel_rfl)
  · rintro _ ⟨x1085, rfl, rfl⟩
    refine W_sound tab_ok mixed 7 _ _ _ ?_
    simp -implicitDefEqProofs only [go_sem, Nat.reduceBEq, Nat.reduceAdd, Nat.reduceSub, Nat.reduceMul, Nat.reduceLT, Nat.reduceLeDiff, Int.reduceLE, Int.reduceLT, Int.reduceToNat, Int.reduceBEq, Int.reduceBNe, ↓reduceIte, h993, h1039]
    repeat with_reducible refine And.intro (by first | kernel_rfl | decide) ?_
    obtain rfl := Option.some.inj h1088
    exact finC [(4, .v (.int .u64 x1085))] [(4, .v (.int .u64 x1085))] (by simp [leE, lk_cons]) (.cons _ _ _ _ _ (.v _ _ (.refl _)) .nil) (by rfl) (by simp [leE, lk_cons]) (by decide) (by decide) rfl (by simp only [go_sem, Nat.reduceBEq, Nat.reduceAdd, Nat.reduceSub, Nat.reduceMul, Nat.reduceLT, Nat.reduceLeDiff, Int.reduceLE, Int.reduceLT, Int.reduceToNat, Int.reduceBEq, Int.reduceBNe, ↓reduceIte, resQ_tmp, resQ_cell, resQ_nil, retD_one, retD_two, retD_three, retD_none]; (try simp [R.val, retD_one, retD_two, retD_three, retD_none]); try assumption)
def m32 (N : Nat) (p983 : PV) : Option (PV) :=
  getA2 p983 fun p985 p986 =>
  getL p986 fun n988 c989 =>
  grd (0 ≤ ((n988 : Nat) : Int)) <|
  bnd' (m62 N (.agg [p985, (.lst false n988 c989)]) (IntKind.u64.wrap ((IntKind.u64.wrap (1 * 2 ^ (min n988 64))) - 1))) fun p1089 =>
  getI .u64 p1089 fun x1092 =>
  some (.int .u64 x1092)
theorem c32 (N : Nat) (p983 : PV) (r : PV)  (h : m32 N p983 = some r) : FnP Tryd.prog 32 [p983] r := by
  unfold m32 at h
  refine Fn_of (sz := 10) tab_ok [0, 1, 2] [.tmp 2] Tryd.func32 rfl rfl rfl (by simp) ?_
  simp only [initSt, initEnv, List.map_cons, List.map_nil, List.getD_cons_zero, List.getD_cons_succ, List.getD_nil]
  have hh := getA2_some h; clear h; obtain ⟨p985, p986, h984, h⟩ := hh
  have hh := getL_some h; clear h; obtain ⟨n988, c989, h987, h⟩ := hh
  have hh := grd_some h; clear h; obtain ⟨g990, h⟩ := hh
  have hh := bnd'_some h; clear h; obtain ⟨p1089, h1090, h⟩ := hh
  refine W_sound tab_ok mixed 13 _ _ _ ?_
  simp -implicitDefEqProofs only [go_sem, Nat.reduceBEq, Nat.reduceAdd, Nat.reduceSub, Nat.reduceMul, Nat.reduceLT, Nat.reduceLeDiff, Int.reduceLE, Int.reduceLT, Int.reduceToNat, Int.reduceBEq, Int.reduceBNe, ↓reduceIte, h984, h987, g990]
  repeat with_reducible refine And.intro (by first | kernel_rfl | decide) ?_
  refine Wp_callP (c62 N _ _ _ h1090) (by kernel_rfl) rfl rfl rfl rfl (by decide) ?_
  have hh := getI_some h; clear h; obtain ⟨x1092, h1091, h⟩ := hh
  refine W_sound tab_ok mixed 4 _ _ _ ?_
  simp -implicitDefEqProofs only [go_sem, Nat.reduceBEq, Nat.reduceAdd, Nat.reduceSub, Nat.reduceMul, Nat.reduceLT, Nat.reduceLeDiff, Int.reduceLE, Int.reduceLT, Int.reduceToNat, Int.reduceBEq, Int.reduceBNe, ↓reduceIte, h984, h987, g990, h1091]
  repeat with_reducible refine And.intro (by first | kernel_rfl | decide) ?_
  obtain rfl := Option.some.inj h
  exact finC [(2, .v (.int .u64 x1092))] [(2, .v (.int .u64 x1092))] (by simp [leE, lk_cons]) (.cons _ _ _ _ _ (.v _ _ (.refl _)) .nil) (by rfl) (by simp [leE, lk_cons]) (by decide) (by decide) rfl (by simp only [go_sem, Nat.reduceBEq, Nat.reduceAdd, Nat.reduceSub, Nat.reduceMul, Nat.reduceLT, Nat.reduceLeDiff, Int.reduceLE, Int.reduceLT, Int.reduceToNat, Int.reduceBEq, Int.reduceBNe, ↓reduceIte, resQ_tmp, resQ_cell, resQ_nil, retD_one, retD_two, retD_three, retD_none]; (try simp [R.val, retD_one, retD_two, retD_three, retD_none]); try assumption)
def m9 (N : Nat) (p737 : PV) : Option (PV) :=
  getA2 p737 fun p739 p740 =>
  bnd' (m30 N (.agg [p739, p740])) fun p978 =>
  getI .i64 p978 fun x981 =>
  brn (x981 != 0) (
    some (.tup [(.lst false 0 []), (.int .i64 x981)])) (
    bnd' (m32 N (.agg [p739, p740])) fun p1093 =>
    getI .u64 p1093 fun x1096 =>
    bnd' (m31 N x1096) fun p1097 =>
    getL p1097 fun n1100 c1101 =>
    some (.tup [(.lst false n1100 c1101), (.int .i64 0)]))
theorem c9 (N : Nat) (p737 : PV) (r : PV)  (h : m9 N p737 = some r) : FnP Tryd.prog 9 [p737] r := by
  unfold m9 at h
  refine Fn_of (sz := 13) tab_ok [0, 1, 2, 3, 4, 8] [.tmp 2, .tmp 3] Tryd.func9 rfl rfl rfl (by simp) ?_
  simp only [initSt, initEnv, List.map_cons, List.map_nil, List.getD_cons_zero, List.getD_cons_succ, List.getD_nil]
  have hh := getA2_some h; clear h; obtain ⟨p739, p740, h738, h⟩ := hh
  have hh := bnd'_some h; clear h; obtain ⟨p978, h979, h⟩ := hh
  refine W_sound tab_ok mixed 10 _ _ _ ?_
  simp -implicitDefEqProofs only [go_sem, Nat.reduceBEq, Nat.reduceAdd, Nat.reduceSub, Nat.reduceMul, Nat.reduceLT, Nat.reduceLeDiff, Int.reduceLE, Int.reduceLT, Int.reduceToNat, Int.reduceBEq, Int.reduceBNe, ↓reduceIte, h738]
  repeat with_reducible refine And.intro (by first | kernel_rfl | decide) ?_
  refine Wp_callP (c30 N _ _ h979) (by kernel_rfl) rfl rfl rfl rfl (by decide) ?_
  have hh := getI_some h; clear h; obtain ⟨x981, h980, h⟩ := hh
  have hh := brn_some h; clear h; rcases hh with ⟨h982, h⟩ | ⟨h982, h⟩
  · refine W_sound tab_ok mixed 16 _ _ _ ?_
    simp -implicitDefEqProofs only [go_sem, Nat.reduceBEq, Nat.reduceAdd, Nat.reduceSub, Nat.reduceMul, Nat.reduceLT, Nat.reduceLeDiff, Int.reduceLE, Int.reduceLT, Int.reduceToNat, Int.reduceBEq, Int.reduceBNe, ↓reduceIte, h738, h980, h982]
    repeat with_reducible refine And.intro (by first | kernel_rfl | decide) ?_
    obtain rfl := Option.some.inj h
    exact finC [(2, .v .nl), (3, .v (.int .i64 x981))] [(2, .v (.lst false 0 [])), (3, .v (.int .i64 x981))] (by simp [leE, lk_cons]) (.cons _ _ _ _ _ (.v _ _ (.nl false)) (.cons _ _ _ _ _ (.v _ _ (.refl _)) .nil)) (by rfl) (by simp [leE, lk_cons]) (by decide) (by decide) rfl (by simp only [go_sem, Nat.reduceBEq, Nat.reduceAdd, Nat.reduceSub, Nat.reduceMul, Nat.reduceLT, Nat.reduceLeDiff, Int.reduceLE, Int.reduceLT, Int.reduceToNat, Int.reduceBEq, Int.reduceBNe, ↓reduceIte, resQ_tmp, resQ_cell, resQ_nil, retD_one, retD_two, retD_three, retD_none]; (try simp [R.val, retD_one, retD_two, retD_three, retD_none]); try assumption)
  · have hh := bnd'_some h; clear h; obtain ⟨p1093, h1094, h⟩ := hh
    refine W_sound tab_ok mixed 12 _ _ _ ?_
    simp -implicitDefEqProofs only [go_sem, Nat.reduceBEq, Nat.reduceAdd, Nat.reduceSub, Nat.reduceMul, Nat.reduceLT, Nat.reduceLeDiff, Int.reduceLE, Int.reduceLT, Int.reduceToNat, Int.reduceBEq, Int.reduceBNe, ↓reduceIte, h738, h980, h982]
    repeat with_reducible refine And.intro (by first | kernel_rfl | decide) ?_
    refine Wp_callP (c32 N _ _ h1094) (by kernel_rfl) rfl rfl rfl rfl (by decide) ?_
    have hh := getI_some h; clear h; obtain ⟨x1096, h1095, h⟩ := hh
    have hh := bnd'_some h; clear h; obtain ⟨p1097, h1098, h⟩ := hh
    (try simp -implicitDefEqProofs only [go_sem, Nat.reduceBEq, Nat.reduceAdd, Nat.reduceSub, Nat.reduceMul, Nat.reduceLT, Nat.reduceLeDiff, Int.reduceLE, Int.reduceLT, Int.reduceToNat, Int.reduceBEq, Int.reduceBNe, ↓reduceIte, h738, h980, h982, h1095])
    refine Wp_callP (c31 N _ _ h1098) (by kernel_rfl) rfl rfl rfl rfl (by decide) ?_
    have hh := getL_some h; clear h; obtain ⟨n1100, c1101, h1099, h⟩ := hh
    refine W_sound tab_ok mixed 5 _ _ _ ?_
    simp -implicitDefEqProofs only [go_sem, Nat.reduceBEq, Nat.reduceAdd, Nat.reduceSub, Nat.reduceMul, Nat.reduceLT, Nat.reduceLeDiff, Int.reduceLE, Int.reduceLT, Int.reduceToNat, Int.reduceBEq, Int.reduceBNe, ↓reduceIte, h738, h980, h982, h1095, h1099]
    repeat with_reducible refine And.intro (by first | kernel_rfl | decide) ?_
    obtain rfl := Option.some.inj h
    exact finC [(2, .v (.lst false n1100 c1101)), (3, .v (.int .i64 0))] [(2, .v (.lst false n1100 c1101)), (3, .v (.int .i64 0))] (by simp [leE, lk_cons]) (.cons _ _ _ _ _ (.v _ _ (.refl _)) (.cons _ _ _ _ _ (.v _ _ (.refl _)) .nil)) (by rfl) (by simp [leE, lk_cons]) (by decide) (by decide) rfl (by simp only [go_sem, Nat.reduceBEq, Nat.reduceAdd, Nat.reduceSub, Nat.reduceMul, Nat.reduceLT, Nat.reduceLeDiff, Int.reduceLE, Int.reduceLT, Int.reduceToNat, Int.reduceBEq, Int.reduceBNe, ↓reduceIte, resQ_tmp, resQ_cell, resQ_nil, retD_one, retD_two, retD_three, retD_none]; (try simp [R.val, retD_one, retD_two, retD_three, retD_none]); try assumption)
def m10_L0 (N : Nat) (n1168 : Nat) (c1169 : List PV) (n1171 : Nat) (c1172 : List PV) : Nat → Int → Option ((PV ⊕ Unit))
  | 0, _ => none
  | n + 1, x1174 =>
    brn (decide (x1174 < ((n1168 : Nat) : Int))) (
      grd (0 ≤ x1174 ∧ x1174 < ((n1168 : Nat) : Int)) <|
      grd (0 < List.length (List.drop (Int.toNat x1174) c1169)) <|
      getI .i64 (gp c1169 (Int.toNat x1174)) fun x1180 =>
      grd (x1174 < ((n1171 : Nat) : Int)) <|
      grd (0 < List.length (List.drop (Int.toNat x1174) c1172)) <|
      getI .i64 (gp c1172 (Int.toNat x1174)) fun x1184 =>
      brn (x1180 != x1184) (
        some (.inl (.bool false))) (
        m10_L0 N n1168 c1169 n1171 c1172 n (IntKind.i64.wrap (x1174 + 1)))) (
      some (.inr ()))
def m10 (N : Nat) (p1165 : PV) (p1166 : PV) : Option (PV) :=
  getL p1165 fun n1168 c1169 =>
  getL p1166 fun n1171 c1172 =>
  brn (((n1168 : Nat) : Int) != ((n1171 : Nat) : Int)) (
    some (.bool false)) (
    bnd' (m10_L0 N n1168 c1169 n1171 c1172 N 0) fun o =>
    match o with
    | .inl p1186 =>
      some p1186
    | .inr () =>
      some (.bool true))
theorem c10 (N : Nat) (p1165 : PV) (p1166 : PV) (r : PV)  (h : m10 N p1165 p1166 = some r) : FnP Tryd.prog 10 [p1165, p1166] r := by
  unfold m10 at h
  refine Fn_of (sz := 26) tab_ok [0, 1, 4, 5, 10, 12, 13, 14, 24] [.tmp 4] Tryd.func10 rfl rfl rfl (by simp) ?_
  simp only [initSt, initEnv, List.map_cons, List.map_nil, List.getD_cons_zero, List.getD_cons_succ, List.getD_nil]
  have hh := getL_some h; clear h; obtain ⟨n1168, c1169, h1167, h⟩ := hh
  have hh := getL_some h; clear h; obtain ⟨n1171, c1172, h1170, h⟩ := hh
  have hh := brn_some h; clear h; rcases hh with ⟨h1173, h⟩ | ⟨h1173, h⟩
  · refine W_sound tab_ok mixed 20 _ _ _ ?_
    simp -implicitDefEqProofs only [go_sem, Nat.reduceBEq, Nat.reduceAdd, Nat.reduceSub, Nat.reduceMul, Nat.reduceLT, Nat.reduceLeDiff, Int.reduceLE, Int.reduceLT, Int.reduceToNat, Int.reduceBEq, Int.reduceBNe, ↓reduceIte, h1167, h1170, h1173]
    repeat with_reducible refine And.intro (by first | kernel_rfl | decide) ?_
    obtain rfl := Option.some.inj h
    exact finC [(4, .v (.bool false))] [(4, .v (.bool false))] (by simp [leE, lk_cons]) (.cons _ _ _ _ _ (.v _ _ (.refl _)) .nil) (by rfl) (by simp [leE, lk_cons]) (by decide) (by decide) rfl (by simp only [go_sem, Nat.reduceBEq, Nat.reduceAdd, Nat.reduceSub, Nat.reduceMul, Nat.reduceLT, Nat.reduceLeDiff, Int.reduceLE, Int.reduceLT, Int.reduceToNat, Int.reduceBEq, Int.reduceBNe, ↓reduceIte, resQ_tmp, resQ_cell, resQ_nil, retD_one, retD_two, retD_three, retD_none]; (try simp [R.val, retD_one, retD_two, retD_three, retD_none]); try assumption)
  · refine W_sound tab_ok mixed 22 _ _ _ ?_
    simp -implicitDefEqProofs only [go_sem, Nat.reduceBEq, Nat.reduceAdd, Nat.reduceSub, Nat.reduceMul, Nat.reduceLT, Nat.reduceLeDiff, Int.reduceLE, Int.reduceLT, Int.reduceToNat, Int.reduceBEq, Int.reduceBNe, ↓reduceIte, h1167, h1170, h1173]
    repeat with_reducible refine And.intro (by first | kernel_rfl | decide) ?_
    have hh := bnd'_some h; clear h; obtain ⟨o1187, h1188, h1189⟩ := hh
    refine Wp_cut (fun s => (.inr ()) = o1187 ∧ s = ⟨[], [(0, .dead), (1, .dead), (4, .dead), (5, .dead), (10, .dead), (12, .dead), (13, .dead), (14, .dead), (24, .dead)], [], 0, []⟩) ?_ ?_
    · refine Wp_block ?_
      refine Wp_loopG (fun n s => ∃ x1174, m10_L0 N n1168 c1169 n1171 c1172 n x1174 = some o1187 ∧ s = ⟨[], [(0, .v (.lst false n1168 c1169)), (1, .v (.lst false n1171 c1172)), (4, .dead), (5, .dead), (10, .dead), (12, .v (.int .i64 ((n1168 : Nat) : Int))), (13, .v (.int .i64 x1174)), (14, .dead), (24, .dead)], [], 0, []⟩) N _ (Wk_keep (st' := ⟨[], [(0, .v (.lst false n1168 c1169)), (1, .v (.lst false n1171 c1172)), (4, .dead), (5, .dead), (10, .dead), (12, .v (.int .i64 ((n1168 : Nat) : Int))), (13, .v (.int .i64 0)), (14, .dead), (24, .dead)], [], 0, []⟩) [0, 1, 12, 13] (by kernel_rfl)) ⟨_, h1188, rfl⟩ ?_
      clear h1188
      rintro n _ ⟨x1174, h1188, rfl⟩
      cases n with
      | zero => cases h1188
      | succ n =>
        rw [m10_L0] at h1188
        have hh := brn_some h1188; clear h1188; rcases hh with ⟨h1175, h1188⟩ | ⟨h1175, h1188⟩
        · have hh := grd_some h1188; clear h1188; obtain ⟨⟨g1176, g1177⟩, h1188⟩ := hh
          have hh := grd_some h1188; clear h1188; obtain ⟨g1178, h1188⟩ := hh
          have hh := getI_some h1188; clear h1188; obtain ⟨x1180, h1179, h1188⟩ := hh
          have hh := grd_some h1188; clear h1188; obtain ⟨g1181, h1188⟩ := hh
          have hh := grd_some h1188; clear h1188; obtain ⟨g1182, h1188⟩ := hh
          have hh := getI_some h1188; clear h1188; obtain ⟨x1184, h1183, h1188⟩ := hh
          have hh := brn_some h1188; clear h1188; rcases hh with ⟨h1185, h1188⟩ | ⟨h1185, h1188⟩
          · refine W_sound tab_ok mixed 33 _ _ _ ?_
            simp -implicitDefEqProofs only [go_sem, Nat.reduceBEq, Nat.reduceAdd, Nat.reduceSub, Nat.reduceMul, Nat.reduceLT, Nat.reduceLeDiff, Int.reduceLE, Int.reduceLT, Int.reduceToNat, Int.reduceBEq, Int.reduceBNe, ↓reduceIte, h1167, h1170, h1173, h1175, g1176, g1177, g1178, h1179, g1181, g1182, h1183, h1185]
            repeat with_reducible refine And.intro (by first | kernel_rfl | decide) ?_
            obtain rfl := Option.some.inj h1188
            (try dsimp only at h1189)
            obtain rfl := Option.some.inj h1189
            exact finC [(4, .v (.bool false))] [(4, .v (.bool false))] (by simp [leE, lk_cons]) (.cons _ _ _ _ _ (.v _ _ (.refl _)) .nil) (by rfl) (by simp [leE, lk_cons]) (by decide) (by decide) rfl (by simp only [go_sem, Nat.reduceBEq, Nat.reduceAdd, Nat.reduceSub, Nat.reduceMul, Nat.reduceLT, Nat.reduceLeDiff, Int.reduceLE, Int.reduceLT, Int.reduceToNat, Int.reduceBEq, Int.reduceBNe, ↓reduceIte, resQ_tmp, resQ_cell, resQ_nil, retD_one, retD_two, retD_three, retD_none]; (try simp [R.val, retD_one, retD_two, retD_three, retD_none]); try assumption)
          · refine W_sound tab_ok mixed 33 _ _ _ ?_
            simp -implicitDefEqProofs only [go_sem, Nat.reduceBEq, Nat.reduceAdd, Nat.reduceSub, Nat.reduceMul, Nat.reduceLT, Nat.reduceLeDiff, Int.reduceLE, Int.reduceLT, Int.reduceToNat, Int.reduceBEq, Int.reduceBNe, ↓reduceIte, h1167, h1170, h1173, h1175, g1176, g1177, g1178, h1179, g1181, g1182, h1183, h1185]
            repeat with_reducible refine And.intro (by first | kernel_rfl | decide) ?_
            refine cutQ _ ?_ ⟨n, Nat.lt_succ_self n, _, h1188, rfl⟩
            exact Wk_keep [0, 1, 12, 13] (by kernel_rfl)
        · refine W_sound tab_ok mixed 7 _ _ _ ?_
          simp -implicitDefEqProofs only [go_sem, Nat.reduceBEq, Nat.reduceAdd, Nat.reduceSub, Nat.reduceMul, Nat.reduceLT, Nat.reduceLeDiff, Int.reduceLE, Int.reduceLT, Int.reduceToNat, Int.reduceBEq, Int.reduceBNe, ↓reduceIte, h1167, h1170, h1173, h1175]
          repeat with_reducible refine And.intro (by first | kernel_rfl | decide) ?_
          obtain rfl := Option.some.inj h1188
          refine cutQ _ ?_ ⟨rfl, rfl⟩
          exact Wk_keep [] (by kernel_rfl)
    · rintro _ ⟨rfl, rfl⟩
      (try dsimp only at h1189)
      refine W_sound tab_ok mixed 6 _ _ _ ?_
      simp -implicitDefEqProofs only [go_sem, Nat.reduceBEq, Nat.reduceAdd, Nat.reduceSub, Nat.reduceMul, Nat.reduceLT, Nat.reduceLeDiff, Int.reduceLE, Int.reduceLT, Int.reduceToNat, Int.reduceBEq, Int.reduceBNe, ↓reduceIte, h1167, h1170, h1173]
      repeat with_reducible refine And.intro (by first | kernel_rfl | decide) ?_
      obtain rfl := Option.some.inj h1189
      exact finC [(4, .v (.bool true))] [(4, .v (.bool true))] (by simp [leE, lk_cons]) (.cons _ _ _ _ _ (.v _ _ (.refl _)) .nil) (by rfl) (by simp [leE, lk_cons]) (by decide) (by decide) rfl (by simp only [go_sem, Nat.reduceBEq, Nat.reduceAdd, Nat.reduceSub, Nat.reduceMul, Nat.reduceLT, Nat.reduceLeDiff, Int.reduceLE, Int.reduceLT, Int.reduceToNat, Int.reduceBEq, Int.reduceBNe, ↓reduceIte, resQ_tmp, resQ_cell, resQ_nil, retD_one, retD_two, retD_three, retD_none]; (try simp [R.val, retD_one, retD_two, retD_three, retD_none]); try assumption)
def m11 (N : Nat) : Option PV := some (.bool true)
theorem c11 (N : Nat) (r : PV) (h : m11 N = some r) : FnP Tryd.prog 11 [] r := by
  obtain rfl := Option.some.inj h
  exact k0
def m3_L0 (N : Nat) (x119 : Int) (n124 : Nat) (c125 : List PV) : Nat → Int → List PV → Option (List PV)
  | 0, _, _ => none
  | n + 1, x150, c151 =>
    brn (decide (x150 < ((n124 : Nat) : Int))) (
      grd (0 ≤ x150 ∧ x150 < ((n124 : Nat) : Int)) <|
      grd (2 ≤ List.length (List.drop ((Int.toNat x150) * 2) c125)) <|
      getA2 (.agg (List.take 2 (List.drop ((Int.toNat x150) * 2) c125))) fun p157 p158 =>
      getI .i64 p157 fun x160 =>
      grd (0 ≤ x160 ∧ x160 < (((Int.toNat x119) : Nat) : Int)) <|
      grd ((Int.toNat x160) < List.length c151) <|
      getI .i64 (gp c151 (Int.toNat x160)) fun x165 =>
      grd (((Int.toNat x160) + 1) ≤ List.length c151) <|
      getI .i64 p158 fun x168 =>
      grd (0 ≤ x168 ∧ x168 < (((Int.toNat x119) : Nat) : Int)) <|
      grd ((Int.toNat x168) < List.length c151) <|
      getI .i64 (gp (List.set c151 (Int.toNat x160) (.int .i64 (IntKind.i64.wrap (x165 + 1)))) (Int.toNat x168)) fun x173 =>
      grd (((Int.toNat x168) + 1) ≤ List.length c151) <|
      m3_L0 N x119 n124 c125 n (IntKind.i64.wrap (x150 + 1)) (List.set (List.set c151 (Int.toNat x160) (.int .i64 (IntKind.i64.wrap (x165 + 1)))) (Int.toNat x168) (.int .i64 (IntKind.i64.wrap (x173 + 1))))) (
      some c151)
def m3_L1 (N : Nat) (x119 : Int) (c175 : List PV) (n733 : Nat) (c734 : List PV) (n1108 : Nat) (c1109 : List PV) : Nat → Nat → Int → List PV → Option ((PV ⊕ (Nat × List PV)))
  | 0, _, _, _ => none
  | n + 1, n1143, x1144, c1145 =>
    brn (decide (x1144 < (((Int.toNat x119) : Nat) : Int))) (
      grd (0 ≤ x1144 ∧ x1144 < (((Int.toNat x119) : Nat) : Int)) <|
      grd (0 < List.length (List.drop (Int.toNat x1144) c175)) <|
      getI .i64 (gp c175 (Int.toNat x1144)) fun x1151 =>
      grd (x1144 < ((n733 : Nat) : Int)) <|
      grd (0 < List.length (List.drop (Int.toNat x1144) c734)) <|
      getI .i64 (gp c734 (Int.toNat x1144)) fun x1155 =>
      brn (x1155 != (IntKind.i64.wrap (60 * x1151))) (
        some (.inl (.bool false))) (
        grd (2 ≠ 0) <|
        brn ((Int.tmod x1151 2) == 1) (
          grd ((n1143 + 1) ≤ 1099511627776) <|
          grd (List.length c1145 = n1143) <|
          m3_L1 N x119 c175 n733 c734 n1108 c1109 n (n1143 + 1) (IntKind.i64.wrap (x1144 + 1)) (c1145 ++ [(.int .i64 x1144)])) (
          m3_L1 N x119 c175 n733 c734 n1108 c1109 n n1143 (IntKind.i64.wrap (x1144 + 1)) c1145))) (
      some (.inr (n1143, c1145)))
def m3 (N : Nat) (x1 : Int) (x2 : Int) (p3 : PV) (p4 : PV) : Option (PV) :=
  getA8 p3 fun p6 p7 p8 p9 p10 p11 p12 p13 =>
  getA p4 fun c15 =>
  grd (4 ≠ 0) <|
  grd (16 ≤ List.length c15) <|
  bnd' (m7 N (IntKind.i64.wrap (2 + (Int.tmod (IntKind.i64.wrap x1) 4))) (IntKind.i64.wrap x2) 9 (.agg [p6, p7, p8, p9, p10, p11, p12, p13]) (.agg (List.take 16 c15))) fun p113 =>
  getA2 p113 fun p116 p117 =>
  getI .i64 p116 fun x119 =>
  grd (0 ≤ x119 ∧ x119 ≤ x119 ∧ x119 ≤ 1099511627776) <|
  getL p117 fun n124 c125 =>
  bnd' (m3_L0 N x119 n124 c125 N 0 (List.replicate (Int.toNat x119) (.int .i64 0))) fun c175 =>
  grd (List.length c175 = (Int.toNat x119)) <|
  bnd' (m8 N ((n124 : Nat) : Int) (.lst false (Int.toNat x119) c175)) fun p727 =>
  getT2 p727 fun p730 p731 =>
  getL p730 fun n733 c734 =>
  getI .i64 p731 fun x736 =>
  bnd' (m9 N (.agg [(.int .i64 x119), (.lst false n124 c125)])) fun p1102 =>
  getT2 p1102 fun p1105 p1106 =>
  getL p1105 fun n1108 c1109 =>
  getI .i64 p1106 fun x1111 =>
  brn (x736 != 0) (
    some (.bool false)) (
    brn (x1111 != 0) (
      some (.bool false)) (
      brn (((n733 : Nat) : Int) != x119) (
        some (.bool false)) (
        bnd' (m3_L1 N x119 c175 n733 c734 n1108 c1109 N 0 0 []) fun o =>
        match o with
        | .inl p1161 =>
          some p1161
        | .inr (n1162, c1163) =>
          grd (List.length c1163 = n1162) <|
          bnd' (m10 N (.lst false n1108 c1109) (.lst false n1162 c1163)) fun p1190 =>
          getB p1190 fun b1193 =>
          brn b1193 (
            bnd' (m11 N ) fun p1195 =>
            getB p1195 fun b1198 =>
            some (.bool b1198)) (
            some (.bool false)))))
theorem c3 (N : Nat) (x1 : Int) (x2 : Int) (p3 : PV) (p4 : PV) (r : PV)  (h : m3 N x1 x2 p3 p4 = some r) : FnP Tryd.prog 3 [(.int .u8 x1), (.int .u8 x2), p3, p4] r := by
  unfold m3 at h
  refine Fn_of (sz := 108) tab_ok [0, 1, 2, 3, 6, 7, 8, 9, 10, 12, 13, 14, 15, 16, 17, 18, 19, 33, 34, 35, 36, 79, 80, 81, 82, 83, 93, 96] [.tmp 8] Tryd.func3 rfl rfl rfl (by simp) ?_
  simp only [initSt, initEnv, List.map_cons, List.map_nil, List.getD_cons_zero, List.getD_cons_succ, List.getD_nil]
  have hh := getA8_some h; clear h; obtain ⟨p6, p7, p8, p9, p10, p11, p12, p13, h5, h⟩ := hh
  have hh := getA_some h; clear h; obtain ⟨c15, h14, h⟩ := hh
  have hh := grd_some h; clear h; obtain ⟨g16, h⟩ := hh
  have hh := grd_some h; clear h; obtain ⟨g17, h⟩ := hh
  have hh := bnd'_some h; clear h; obtain ⟨p113, h114, h⟩ := hh
  refine W_sound tab_ok mixed 16 _ _ _ ?_
  simp -implicitDefEqProofs only [go_sem, Nat.reduceBEq, Nat.reduceAdd, Nat.reduceSub, Nat.reduceMul, Nat.reduceLT, Nat.reduceLeDiff, Int.reduceLE, Int.reduceLT, Int.reduceToNat, Int.reduceBEq, Int.reduceBNe, ↓reduceIte, h5, h14, g16, g17]
  repeat with_reducible refine And.intro (by first | kernel_rfl | decide) ?_
  refine Wp_callP (c7 N _ _ _ _ _ _ h114) (by kernel_rfl) rfl rfl rfl rfl (by decide) ?_
  have hh := getA2_some h; clear h; obtain ⟨p116, p117, h115, h⟩ := hh
  have hh := getI_some h; clear h; obtain ⟨x119, h118, h⟩ := hh
  have hh := grd_some h; clear h; obtain ⟨⟨g120, g121, g122⟩, h⟩ := hh
  have hh := getL_some h; clear h; obtain ⟨n124, c125, h123, h⟩ := hh
  refine W_sound tab_ok mixed 18 _ _ _ ?_
  simp -implicitDefEqProofs only [go_sem, Nat.reduceBEq, Nat.reduceAdd, Nat.reduceSub, Nat.reduceMul, Nat.reduceLT, Nat.reduceLeDiff, Int.reduceLE, Int.reduceLT, Int.reduceToNat, Int.reduceBEq, Int.reduceBNe, ↓reduceIte, h5, h14, g16, g17, h115, h118, g120, g121, g122, h123]
  repeat with_reducible refine And.intro (by first | kernel_rfl | decide) ?_
  have hh := bnd'_some h; clear h; obtain ⟨o1199, h1200, h1201⟩ := hh
  refine Wp_cut (fun s => ∃ c175, c175 = o1199 ∧ s = ⟨[], [(0, .dead), (1, .dead), (2, .dead), (3, .dead), (6, .dead), (7, .dead), (8, .dead), (9, .ptr 0 0), (10, .sl false 1 0 (Int.toNat x119) 1), (12, .dead), (13, .dead), (14, .dead), (15, .dead), (16, .dead), (17, .dead), (18, .dead), (19, .dead), (33, .dead), (34, .dead), (35, .dead), (36, .dead), (79, .dead), (80, .dead), (81, .dead), (82, .dead), (83, .dead), (93, .dead), (96, .dead)], [(0, .p [(.int .i64 x119), (.lst false n124 c125)]), (1, .p c175)], 2, []⟩) ?_ ?_
  · refine Wp_block ?_
    refine Wp_loopG (fun n s => ∃ x150, ∃ c151, m3_L0 N x119 n124 c125 n x150 c151 = some o1199 ∧ s = ⟨[], [(0, .dead), (1, .dead), (2, .dead), (3, .dead), (6, .dead), (7, .dead), (8, .dead), (9, .ptr 0 0), (10, .sl false 1 0 (Int.toNat x119) 1), (12, .dead), (13, .dead), (14, .dead), (15, .dead), (16, .dead), (17, .dead), (18, .dead), (19, .dead), (33, .v (.lst false n124 c125)), (34, .v (.int .i64 ((n124 : Nat) : Int))), (35, .v (.int .i64 x150)), (36, .dead), (79, .dead), (80, .dead), (81, .dead), (82, .dead), (83, .dead), (93, .dead), (96, .dead)], [(0, .p [(.int .i64 x119), (.lst false n124 c125)]), (1, .p c151)], 2, []⟩) N _ (Wk_keep (st' := ⟨[], [(0, .dead), (1, .dead), (2, .dead), (3, .dead), (6, .dead), (7, .dead), (8, .dead), (9, .ptr 0 0), (10, .sl false 1 0 (Int.toNat x119) 1), (12, .dead), (13, .dead), (14, .dead), (15, .dead), (16, .dead), (17, .dead), (18, .dead), (19, .dead), (33, .v (.lst false n124 c125)), (34, .v (.int .i64 ((n124 : Nat) : Int))), (35, .v (.int .i64 0)), (36, .dead), (79, .dead), (80, .dead), (81, .dead), (82, .dead), (83, .dead), (93, .dead), (96, .dead)], [(0, .p [(.int .i64 x119), (.lst false n124 c125)]), (1, .p (List.replicate (Int.toNat x119) (.int .i64 0)))], 2, []⟩) [9, 10, 33, 34, 35] (by kernel_rfl)) ⟨_, _, h1200, rfl⟩ ?_
    clear h1200
    rintro n _ ⟨x150, c151, h1200, rfl⟩
    cases n with
    | zero => cases h1200
    | succ n =>
      rw [m3_L0] at h1200
      have hh := brn_some h1200; clear h1200; rcases hh with ⟨h152, h1200⟩ | ⟨h152, h1200⟩
      · have hh := grd_some h1200; clear h1200; obtain ⟨⟨g153, g154⟩, h1200⟩ := hh
        have hh := grd_some h1200; clear h1200; obtain ⟨g155, h1200⟩ := hh
        have hh := getA2_some h1200; clear h1200; obtain ⟨p157, p158, h156, h1200⟩ := hh
        injection h156 with h156
        have hh := getI_some h1200; clear h1200; obtain ⟨x160, h159, h1200⟩ := hh
        have hh := grd_some h1200; clear h1200; obtain ⟨⟨g161, g162⟩, h1200⟩ := hh
        have hh := grd_some h1200; clear h1200; obtain ⟨g163, h1200⟩ := hh
        have hh := getI_some h1200; clear h1200; obtain ⟨x165, h164, h1200⟩ := hh
        have hh := grd_some h1200; clear h1200; obtain ⟨g166, h1200⟩ := hh
        have hh := getI_some h1200; clear h1200; obtain ⟨x168, h167, h1200⟩ := hh
        have hh := grd_some h1200; clear h1200; obtain ⟨⟨g169, g170⟩, h1200⟩ := hh
        have hh := grd_some h1200; clear h1200; obtain ⟨g171, h1200⟩ := hh
        have hh := getI_some h1200; clear h1200; obtain ⟨x173, h172, h1200⟩ := hh
        have hh := grd_some h1200; clear h1200; obtain ⟨g174, h1200⟩ := hh
        refine W_sound tab_ok mixed 42 _ _ _ ?_
        simp -implicitDefEqProofs only [go_sem, Nat.reduceBEq, Nat.reduceAdd, Nat.reduceSub, Nat.reduceMul, Nat.reduceLT, Nat.reduceLeDiff, Int.reduceLE, Int.reduceLT, Int.reduceToNat, Int.reduceBEq, Int.reduceBNe, ↓reduceIte, h5, h14, g16, g17, h115, h118, g120, g121, g122, h123, h152, g153, g154, g155, h156, h159, g161, g162, g163, h164, g166, h167, g169, g170, g171, h172, g174]
        repeat with_reducible refine And.intro (by first | kernel_rfl | decide) ?_
        refine cutQ _ ?_ ⟨n, Nat.lt_succ_self n, _, _, h1200, rfl⟩
        exact Wk_keep [9, 10, 33, 34, 35] (by kernel_rfl)
      · refine W_sound tab_ok mixed 7 _ _ _ ?_
        simp -implicitDefEqProofs only [go_sem, Nat.reduceBEq, Nat.reduceAdd, Nat.reduceSub, Nat.reduceMul, Nat.reduceLT, Nat.reduceLeDiff, Int.reduceLE, Int.reduceLT, Int.reduceToNat, Int.reduceBEq, Int.reduceBNe, ↓reduceIte, h5, h14, g16, g17, h115, h118, g120, g121, g122, h123, h152]
        repeat with_reducible refine And.intro (by first | kernel_rfl | decide) ?_
        obtain rfl := Option.some.inj h1200
        refine cutQ _ ?_ ⟨_, rfl, rfl⟩
        exact Wk_keep [9, 10] (by kernel_rfl)
  · rintro _ ⟨c175, rfl, rfl⟩
    refine W_sound tab_ok mixed 1 _ _ _ ?_
    simp -implicitDefEqProofs only [go_sem, Nat.reduceBEq, Nat.reduceAdd, Nat.reduceSub, Nat.reduceMul, Nat.reduceLT, Nat.reduceLeDiff, Int.reduceLE, Int.reduceLT, Int.reduceToNat, Int.reduceBEq, Int.reduceBNe, ↓reduceIte, h5, h14, g16, g17, h115, h118, g120, g121, g122, h123]
    repeat with_reducible refine And.intro (by first | kernel_rfl | decide) ?_
    have hh := grd_some h1201; clear h1201; obtain ⟨g176, h1201⟩ := hh
    refine Wp_wkK (Wk_freeze 1 c175 (by rfl) (by decide) (by decide)) rfl ?_
    simp -implicitDefEqProofs only [go_sem, Nat.reduceBEq, Nat.reduceAdd, Nat.reduceSub, Nat.reduceMul, Nat.reduceLT, Nat.reduceLeDiff, Int.reduceLE, Int.reduceLT, Int.reduceToNat, Int.reduceBEq, Int.reduceBNe, ↓reduceIte, h5, h14, g16, g17, h115, h118, g120, g121, g122, h123, g176]
    have hh := bnd'_some h1201; clear h1201; obtain ⟨p727, h728, h1201⟩ := hh
    refine W_sound tab_ok mixed 5 _ _ _ ?_
    simp -implicitDefEqProofs only [go_sem, Nat.reduceBEq, Nat.reduceAdd, Nat.reduceSub, Nat.reduceMul, Nat.reduceLT, Nat.reduceLeDiff, Int.reduceLE, Int.reduceLT, Int.reduceToNat, Int.reduceBEq, Int.reduceBNe, ↓reduceIte, h5, h14, g16, g17, h115, h118, g120, g121, g122, h123, g176]
    repeat with_reducible refine And.intro (by first | kernel_rfl | decide) ?_
    refine Wp_callP (c8 N _ _ _ h728) (by kernel_rfl) rfl rfl rfl rfl (by decide) ?_
    have hh := getT2_some h1201; clear h1201; obtain ⟨p730, p731, h729, h1201⟩ := hh
    have hh := getL_some h1201; clear h1201; obtain ⟨n733, c734, h732, h1201⟩ := hh
    have hh := getI_some h1201; clear h1201; obtain ⟨x736, h735, h1201⟩ := hh
    have hh := bnd'_some h1201; clear h1201; obtain ⟨p1102, h1103, h1201⟩ := hh
    refine W_sound tab_ok mixed 9 _ _ _ ?_
    simp -implicitDefEqProofs only [go_sem, Nat.reduceBEq, Nat.reduceAdd, Nat.reduceSub, Nat.reduceMul, Nat.reduceLT, Nat.reduceLeDiff, Int.reduceLE, Int.reduceLT, Int.reduceToNat, Int.reduceBEq, Int.reduceBNe, ↓reduceIte, h5, h14, g16, g17, h115, h118, g120, g121, g122, h123, g176, h729, h732, h735]
    repeat with_reducible refine And.intro (by first | kernel_rfl | decide) ?_
    refine Wp_callP (c9 N _ _ h1103) (by kernel_rfl) rfl rfl rfl rfl (by decide) ?_
    have hh := getT2_some h1201; clear h1201; obtain ⟨p1105, p1106, h1104, h1201⟩ := hh
    have hh := getL_some h1201; clear h1201; obtain ⟨n1108, c1109, h1107, h1201⟩ := hh
    have hh := getI_some h1201; clear h1201; obtain ⟨x1111, h1110, h1201⟩ := hh
    have hh := brn_some h1201; clear h1201; rcases hh with ⟨h1112, h1201⟩ | ⟨h1112, h1201⟩
    · refine W_sound tab_ok mixed 30 _ _ _ ?_
      simp -implicitDefEqProofs only [go_sem, Nat.reduceBEq, Nat.reduceAdd, Nat.reduceSub, Nat.reduceMul, Nat.reduceLT, Nat.reduceLeDiff, Int.reduceLE, Int.reduceLT, Int.reduceToNat, Int.reduceBEq, Int.reduceBNe, ↓reduceIte, h5, h14, g16, g17, h115, h118, g120, g121, g122, h123, g176, h729, h732, h735, h1104, h1107, h1110, h1112]
      repeat with_reducible refine And.intro (by first | kernel_rfl | decide) ?_
      obtain rfl := Option.some.inj h1201
      exact finC [(8, .v (.bool false))] [(8, .v (.bool false))] (by simp [leE, lk_cons]) (.cons _ _ _ _ _ (.v _ _ (.refl _)) .nil) (by rfl) (by simp [leE, lk_cons]) (by decide) (by decide) rfl (by simp only [go_sem, Nat.reduceBEq, Nat.reduceAdd, Nat.reduceSub, Nat.reduceMul, Nat.reduceLT, Nat.reduceLeDiff, Int.reduceLE, Int.reduceLT, Int.reduceToNat, Int.reduceBEq, Int.reduceBNe, ↓reduceIte, resQ_tmp, resQ_cell, resQ_nil, retD_one, retD_two, retD_three, retD_none]; (try simp [R.val, retD_one, retD_two, retD_three, retD_none]); try assumption)
    · have hh := brn_some h1201; clear h1201; rcases hh with ⟨h1113, h1201⟩ | ⟨h1113, h1201⟩
      · refine W_sound tab_ok mixed 30 _ _ _ ?_
        simp -implicitDefEqProofs only [go_sem, Nat.reduceBEq, Nat.reduceAdd, Nat.reduceSub, Nat.reduceMul, Nat.reduceLT, Nat.reduceLeDiff, Int.reduceLE, Int.reduceLT, Int.reduceToNat, Int.reduceBEq, Int.reduceBNe, ↓reduceIte, h5, h14, g16, g17, h115, h118, g120, g121, g122, h123, g176, h729, h732, h735, h1104, h1107, h1110, h1112, h1113]
        repeat with_reducible refine And.intro (by first | kernel_rfl | decide) ?_
        obtain rfl := Option.some.inj h1201
        exact finC [(8, .v (.bool false))] [(8, .v (.bool false))] (by simp [leE, lk_cons]) (.cons _ _ _ _ _ (.v _ _ (.refl _)) .nil) (by rfl) (by simp [leE, lk_cons]) (by decide) (by decide) rfl (by simp only [go_sem, Nat.reduceBEq, Nat.reduceAdd, Nat.reduceSub, Nat.reduceMul, Nat.reduceLT, Nat.reduceLeDiff, Int.reduceLE, Int.reduceLT, Int.reduceToNat, Int.reduceBEq, Int.reduceBNe, ↓reduceIte, resQ_tmp, resQ_cell, resQ_nil, retD_one, retD_two, retD_three, retD_none]; (try simp [R.val, retD_one, retD_two, retD_three, retD_none]); try assumption)
      · have hh := brn_some h1201; clear h1201; rcases hh with ⟨h1114, h1201⟩ | ⟨h1114, h1201⟩
        · refine W_sound tab_ok mixed 30 _ _ _ ?_
          simp -implicitDefEqProofs only [go_sem, Nat.reduceBEq, Nat.reduceAdd, Nat.reduceSub, Nat.reduceMul, Nat.reduceLT, Nat.reduceLeDiff, Int.reduceLE, Int.reduceLT, Int.reduceToNat, Int.reduceBEq, Int.reduceBNe, ↓reduceIte, h5, h14, g16, g17, h115, h118, g120, g121, g122, h123, g176, h729, h732, h735, h1104, h1107, h1110, h1112, h1113, h1114]
          repeat with_reducible refine And.intro (by first | kernel_rfl | decide) ?_
          obtain rfl := Option.some.inj h1201
          exact finC [(8, .v (.bool false))] [(8, .v (.bool false))] (by simp [leE, lk_cons]) (.cons _ _ _ _ _ (.v _ _ (.refl _)) .nil) (by rfl) (by simp [leE, lk_cons]) (by decide) (by decide) rfl (by simp only [go_sem, Nat.reduceBEq, Nat.reduceAdd, Nat.reduceSub, Nat.reduceMul, Nat.reduceLT, Nat.reduceLeDiff, Int.reduceLE, Int.reduceLT, Int.reduceToNat, Int.reduceBEq, Int.reduceBNe, ↓reduceIte, resQ_tmp, resQ_cell, resQ_nil, retD_one, retD_two, retD_three, retD_none]; (try simp [R.val, retD_one, retD_two, retD_three, retD_none]); try assumption)
        · refine W_sound tab_ok mixed 36 _ _ _ ?_
          simp -implicitDefEqProofs only [go_sem, Nat.reduceBEq, Nat.reduceAdd, Nat.reduceSub, Nat.reduceMul, Nat.reduceLT, Nat.reduceLeDiff, Int.reduceLE, Int.reduceLT, Int.reduceToNat, Int.reduceBEq, Int.reduceBNe, ↓reduceIte, h5, h14, g16, g17, h115, h118, g120, g121, g122, h123, g176, h729, h732, h735, h1104, h1107, h1110, h1112, h1113, h1114]
          repeat with_reducible refine And.intro (by first | kernel_rfl | decide) ?_
          refine Wp_weaken (Wk_ownS 17 1 rfl (by decide) (by decide)) ?_
          simp -implicitDefEqProofs only [go_sem, Nat.reduceBEq, Nat.reduceAdd, Nat.reduceSub, Nat.reduceMul, Nat.reduceLT, Nat.reduceLeDiff, Int.reduceLE, Int.reduceLT, Int.reduceToNat, Int.reduceBEq, Int.reduceBNe, ↓reduceIte, h5, h14, g16, g17, h115, h118, g120, g121, g122, h123, g176, h729, h732, h735, h1104, h1107, h1110, h1112, h1113, h1114]
          have hh := bnd'_some h1201; clear h1201; obtain ⟨o1202, h1203, h1204⟩ := hh
          refine Wp_cut (fun s => ∃ n1162, ∃ c1163, (.inr (n1162, c1163)) = o1202 ∧ s = ⟨[], [(0, .dead), (1, .dead), (2, .dead), (3, .dead), (6, .dead), (7, .dead), (8, .dead), (9, .dead), (10, .dead), (12, .dead), (13, .dead), (14, .dead), (15, .v (.lst false n1108 c1109)), (16, .dead), (17, .sl false 0 0 n1162 1), (18, .dead), (19, .dead), (33, .dead), (34, .dead), (35, .dead), (36, .dead), (79, .dead), (80, .dead), (81, .dead), (82, .dead), (83, .dead), (93, .dead), (96, .dead)], [(0, .p c1163)], 1, []⟩) ?_ ?_
          · refine Wp_block ?_
            refine Wp_loopG (fun n s => ∃ n1143, ∃ x1144, ∃ c1145, m3_L1 N x119 c175 n733 c734 n1108 c1109 n n1143 x1144 c1145 = some o1202 ∧ s = ⟨[], [(0, .dead), (1, .dead), (2, .dead), (3, .dead), (6, .dead), (7, .dead), (8, .dead), (9, .dead), (10, .dead), (12, .dead), (13, .v (.lst false n733 c734)), (14, .dead), (15, .v (.lst false n1108 c1109)), (16, .dead), (17, .sl false 0 0 n1143 1), (18, .dead), (19, .dead), (33, .dead), (34, .dead), (35, .dead), (36, .dead), (79, .dead), (80, .v (.lst false (Int.toNat x119) c175)), (81, .v (.int .i64 (((Int.toNat x119) : Nat) : Int))), (82, .v (.int .i64 x1144)), (83, .dead), (93, .dead), (96, .dead)], [(0, .p c1145)], 1, []⟩) N _ (Wk_keep (st' := ⟨[], [(0, .dead), (1, .dead), (2, .dead), (3, .dead), (6, .dead), (7, .dead), (8, .dead), (9, .dead), (10, .dead), (12, .dead), (13, .v (.lst false n733 c734)), (14, .dead), (15, .v (.lst false n1108 c1109)), (16, .dead), (17, .sl false 0 0 0 1), (18, .dead), (19, .dead), (33, .dead), (34, .dead), (35, .dead), (36, .dead), (79, .dead), (80, .v (.lst false (Int.toNat x119) c175)), (81, .v (.int .i64 (((Int.toNat x119) : Nat) : Int))), (82, .v (.int .i64 0)), (83, .dead), (93, .dead), (96, .dead)], [(0, .p [])], 1, []⟩) [13, 15, 17, 80, 81, 82] (by kernel_rfl)) ⟨_, _, _, h1203, rfl⟩ ?_
            clear h1203
            rintro n _ ⟨n1143, x1144, c1145, h1203, rfl⟩
            cases n with
            | zero => cases h1203
            | succ n =>
              rw [m3_L1] at h1203
              have hh := brn_some h1203; clear h1203; rcases hh with ⟨h1146, h1203⟩ | ⟨h1146, h1203⟩
              · have hh := grd_some h1203; clear h1203; obtain ⟨⟨g1147, g1148⟩, h1203⟩ := hh
                have hh := grd_some h1203; clear h1203; obtain ⟨g1149, h1203⟩ := hh
                have hh := getI_some h1203; clear h1203; obtain ⟨x1151, h1150, h1203⟩ := hh
                have hh := grd_some h1203; clear h1203; obtain ⟨g1152, h1203⟩ := hh
                have hh := grd_some h1203; clear h1203; obtain ⟨g1153, h1203⟩ := hh
                have hh := getI_some h1203; clear h1203; obtain ⟨x1155, h1154, h1203⟩ := hh
                have hh := brn_some h1203; clear h1203; rcases hh with ⟨h1156, h1203⟩ | ⟨h1156, h1203⟩
                · refine W_sound tab_ok mixed 35 _ _ _ ?_
                  simp -implicitDefEqProofs only [go_sem, Nat.reduceBEq, Nat.reduceAdd, Nat.reduceSub, Nat.reduceMul, Nat.reduceLT, Nat.reduceLeDiff, Int.reduceLE, Int.reduceLT, Int.reduceToNat, Int.reduceBEq, Int.reduceBNe, ↓reduceIte, h5, h14, g16, g17, h115, h118, g120, g121, g122, h123, g176, h729, h732, h735, h1104, h1107, h1110, h1112, h1113, h1114, h1146, g1147, g1148, g1149, h1150, g1152, g1153, h1154, h1156]
                  repeat with_reducible refine And.intro (by first | kernel_rfl | decide) ?_
                  obtain rfl := Option.some.inj h1203
                  (try dsimp only at h1204)
                  obtain rfl := Option.some.inj h1204
                  exact finC [(8, .v (.bool false))] [(8, .v (.bool false))] (by simp [leE, lk_cons]) (.cons _ _ _ _ _ (.v _ _ (.refl _)) .nil) (by rfl) (by simp [leE, lk_cons]) (by decide) (by decide) rfl (by simp only [go_sem, Nat.reduceBEq, Nat.reduceAdd, Nat.reduceSub, Nat.reduceMul, Nat.reduceLT, Nat.reduceLeDiff, Int.reduceLE, Int.reduceLT, Int.reduceToNat, Int.reduceBEq, Int.reduceBNe, ↓reduceIte, resQ_tmp, resQ_cell, resQ_nil, retD_one, retD_two, retD_three, retD_none]; (try simp [R.val, retD_one, retD_two, retD_three, retD_none]); try assumption)
                · have hh := grd_some h1203; clear h1203; obtain ⟨g1157, h1203⟩ := hh
                  have hh := brn_some h1203; clear h1203; rcases hh with ⟨h1158, h1203⟩ | ⟨h1158, h1203⟩
                  · have hh := grd_some h1203; clear h1203; obtain ⟨g1159, h1203⟩ := hh
                    have hh := grd_some h1203; clear h1203; obtain ⟨g1160, h1203⟩ := hh
                    refine W_sound tab_ok mixed 49 _ _ _ ?_
                    simp -implicitDefEqProofs only [go_sem, Nat.reduceBEq, Nat.reduceAdd, Nat.reduceSub, Nat.reduceMul, Nat.reduceLT, Nat.reduceLeDiff, Int.reduceLE, Int.reduceLT, Int.reduceToNat, Int.reduceBEq, Int.reduceBNe, ↓reduceIte, h5, h14, g16, g17, h115, h118, g120, g121, g122, h123, g176, h729, h732, h735, h1104, h1107, h1110, h1112, h1113, h1114, h1146, g1147, g1148, g1149, h1150, g1152, g1153, h1154, h1156, g1157, h1158, g1159, g1160]
                    repeat with_reducible refine And.intro (by first | kernel_rfl | decide) ?_
                    refine cutQ _ ?_ ⟨n, Nat.lt_succ_self n, _, _, _, h1203, rfl⟩
                    exact Wk_keep [13, 15, 17, 80, 81, 82] (by kernel_rfl)
                  · refine W_sound tab_ok mixed 43 _ _ _ ?_
                    simp -implicitDefEqProofs only [go_sem, Nat.reduceBEq, Nat.reduceAdd, Nat.reduceSub, Nat.reduceMul, Nat.reduceLT, Nat.reduceLeDiff, Int.reduceLE, Int.reduceLT, Int.reduceToNat, Int.reduceBEq, Int.reduceBNe, ↓reduceIte, h5, h14, g16, g17, h115, h118, g120, g121, g122, h123, g176, h729, h732, h735, h1104, h1107, h1110, h1112, h1113, h1114, h1146, g1147, g1148, g1149, h1150, g1152, g1153, h1154, h1156, g1157, h1158]
                    repeat with_reducible refine And.intro (by first | kernel_rfl | decide) ?_
                    refine cutQ _ ?_ ⟨n, Nat.lt_succ_self n, _, _, _, h1203, rfl⟩
                    exact Wk_keep [13, 15, 17, 80, 81, 82] (by kernel_rfl)
              · refine W_sound tab_ok mixed 7 _ _ _ ?_
                simp -implicitDefEqProofs only [go_sem, Nat.reduceBEq, Nat.reduceAdd, Nat.reduceSub, Nat.reduceMul, Nat.reduceLT, Nat.reduceLeDiff, Int.reduceLE, Int.reduceLT, Int.reduceToNat, Int.reduceBEq, Int.reduceBNe, ↓reduceIte, h5, h14, g16, g17, h115, h118, g120, g121, g122, h123, g176, h729, h732, h735, h1104, h1107, h1110, h1112, h1113, h1114, h1146]
                repeat with_reducible refine And.intro (by first | kernel_rfl | decide) ?_
                obtain rfl := Option.some.inj h1203
                refine cutQ _ ?_ ⟨_, _, rfl, rfl⟩
                exact Wk_keep [15, 17] (by kernel_rfl)
          · rintro _ ⟨n1162, c1163, rfl, rfl⟩
            (try dsimp only at h1204)
            refine W_sound tab_ok mixed 1 _ _ _ ?_
            simp -implicitDefEqProofs only [go_sem, Nat.reduceBEq, Nat.reduceAdd, Nat.reduceSub, Nat.reduceMul, Nat.reduceLT, Nat.reduceLeDiff, Int.reduceLE, Int.reduceLT, Int.reduceToNat, Int.reduceBEq, Int.reduceBNe, ↓reduceIte, h5, h14, g16, g17, h115, h118, g120, g121, g122, h123, g176, h729, h732, h735, h1104, h1107, h1110, h1112, h1113, h1114]
            repeat with_reducible refine And.intro (by first | kernel_rfl | decide) ?_
            have hh := grd_some h1204; clear h1204; obtain ⟨g1164, h1204⟩ := hh
            refine Wp_wkK (Wk_freeze 0 c1163 (by rfl) (by decide) (by decide)) rfl ?_
            simp -implicitDefEqProofs only [go_sem, Nat.reduceBEq, Nat.reduceAdd, Nat.reduceSub, Nat.reduceMul, Nat.reduceLT, Nat.reduceLeDiff, Int.reduceLE, Int.reduceLT, Int.reduceToNat, Int.reduceBEq, Int.reduceBNe, ↓reduceIte, h5, h14, g16, g17, h115, h118, g120, g121, g122, h123, g176, h729, h732, h735, h1104, h1107, h1110, h1112, h1113, h1114, g1164]
            have hh := bnd'_some h1204; clear h1204; obtain ⟨p1190, h1191, h1204⟩ := hh
            refine W_sound tab_ok mixed 3 _ _ _ ?_
            simp -implicitDefEqProofs only [go_sem, Nat.reduceBEq, Nat.reduceAdd, Nat.reduceSub, Nat.reduceMul, Nat.reduceLT, Nat.reduceLeDiff, Int.reduceLE, Int.reduceLT, Int.reduceToNat, Int.reduceBEq, Int.reduceBNe, ↓reduceIte, h5, h14, g16, g17, h115, h118, g120, g121, g122, h123, g176, h729, h732, h735, h1104, h1107, h1110, h1112, h1113, h1114, g1164]
            repeat with_reducible refine And.intro (by first | kernel_rfl | decide) ?_
            refine Wp_callP (c10 N _ _ _ h1191) (by kernel_rfl) rfl rfl rfl rfl (by decide) ?_
            have hh := getB_some h1204; clear h1204; obtain ⟨b1193, h1192, h1204⟩ := hh
            have hh := brn_some h1204; clear h1204; rcases hh with ⟨h1194, h1204⟩ | ⟨h1194, h1204⟩
            · have hh := bnd'_some h1204; clear h1204; obtain ⟨p1195, h1196, h1204⟩ := hh
              refine W_sound tab_ok mixed 1 _ _ _ ?_
              simp -implicitDefEqProofs only [go_sem, Nat.reduceBEq, Nat.reduceAdd, Nat.reduceSub, Nat.reduceMul, Nat.reduceLT, Nat.reduceLeDiff, Int.reduceLE, Int.reduceLT, Int.reduceToNat, Int.reduceBEq, Int.reduceBNe, ↓reduceIte, h5, h14, g16, g17, h115, h118, g120, g121, g122, h123, g176, h729, h732, h735, h1104, h1107, h1110, h1112, h1113, h1114, g1164, h1192, h1194]
              repeat with_reducible refine And.intro (by first | kernel_rfl | decide) ?_
              refine Wp_callP (c11 N  _ h1196) (by kernel_rfl) rfl rfl rfl rfl (by decide) ?_
              have hh := getB_some h1204; clear h1204; obtain ⟨b1198, h1197, h1204⟩ := hh
              refine W_sound tab_ok mixed 5 _ _ _ ?_
              simp -implicitDefEqProofs only [go_sem, Nat.reduceBEq, Nat.reduceAdd, Nat.reduceSub, Nat.reduceMul, Nat.reduceLT, Nat.reduceLeDiff, Int.reduceLE, Int.reduceLT, Int.reduceToNat, Int.reduceBEq, Int.reduceBNe, ↓reduceIte, h5, h14, g16, g17, h115, h118, g120, g121, g122, h123, g176, h729, h732, h735, h1104, h1107, h1110, h1112, h1113, h1114, g1164, h1192, h1194, h1197]
              repeat with_reducible refine And.intro (by first | kernel_rfl | decide) ?_
              obtain rfl := Option.some.inj h1204
              exact finC [(8, .v (.bool b1198))] [(8, .v (.bool b1198))] (by simp [leE, lk_cons]) (.cons _ _ _ _ _ (.v _ _ (.refl _)) .nil) (by rfl) (by simp [leE, lk_cons]) (by decide) (by decide) rfl (by simp only [go_sem, Nat.reduceBEq, Nat.reduceAdd, Nat.reduceSub, Nat.reduceMul, Nat.reduceLT, Nat.reduceLeDiff, Int.reduceLE, Int.reduceLT, Int.reduceToNat, Int.reduceBEq, Int.reduceBNe, ↓reduceIte, resQ_tmp, resQ_cell, resQ_nil, retD_one, retD_two, retD_three, retD_none]; (try simp [R.val, retD_one, retD_two, retD_three, retD_none]); try assumption)
            · refine W_sound tab_ok mixed 7 _ _ _ ?_
              simp -implicitDefEqProofs only [go_sem, Nat.reduceBEq, Nat.reduceAdd, Nat.reduceSub, Nat.reduceMul, Nat.reduceLT, Nat.reduceLeDiff, Int.reduceLE, Int.reduceLT, Int.reduceToNat, Int.reduceBEq, Int.reduceBNe, ↓reduceIte, h5, h14, g16, g17, h115, h118, g120, g121, g122, h123, g176, h729, h732, h735, h1104, h1107, h1110, h1112, h1113, h1114, g1164, h1192, h1194]
              repeat with_reducible refine And.intro (by first | kernel_rfl | decide) ?_
              obtain rfl := Option.some.inj h1204
              exact finC [(8, .v (.bool false))] [(8, .v (.bool false))] (by simp [leE, lk_cons]) (.cons _ _ _ _ _ (.v _ _ (.refl _)) .nil) (by rfl) (by simp [leE, lk_cons]) (by decide) (by decide) rfl (by simp only [go_sem, Nat.reduceBEq, Nat.reduceAdd, Nat.reduceSub, Nat.reduceMul, Nat.reduceLT, Nat.reduceLeDiff, Int.reduceLE, Int.reduceLT, Int.reduceToNat, Int.reduceBEq, Int.reduceBNe, ↓reduceIte, resQ_tmp, resQ_cell, resQ_nil, retD_one, retD_two, retD_three, retD_none]; (try simp [R.val, retD_one, retD_two, retD_three, retD_none]); try assumption)
end Go.Proofs.YtdnfffmppppoeaaDoor
namespace Go.Proofs.YtdnfffmppppoeaaDoor
open Go.V
theorem brn_t {α : Type} {b : Bool} {x y : Option α} (h : b = true) : brn b x y = x := by subst h; rfl
theorem brn_f {α : Type} {b : Bool} {x y : Option α} (h : b = false) : brn b x y = y := by subst h; rfl
theorem brn_dt {α : Type} {p : Prop} [Decidable p] {x y : Option α} (h : p) : brn (decide p) x y = x := brn_t (decide_eq_true h)
theorem brn_df {α : Type} {p : Prop} [Decidable p] {x y : Option α} (h : ¬ p) : brn (decide p) x y = y := brn_f (decide_eq_false h)
theorem brn_et {α : Type} {a b : Int} {x y : Option α} (h : a = b) : brn (a == b) x y = x := brn_t (by simpa using h)
theorem brn_ef {α : Type} {a b : Int} {x y : Option α} (h : a ≠ b) : brn (a == b) x y = y := brn_f (by simpa using h)
theorem brn_nt {α : Type} {a b : Int} {x y : Option α} (h : a ≠ b) : brn (a != b) x y = x := brn_t (by simpa using h)
theorem brn_nf {α : Type} {a b : Int} {x y : Option α} (h : a = b) : brn (a != b) x y = y := brn_f (by simpa using h)
theorem grd_t {α : Type} {p : Prop} [Decidable p] {k : Option α} (h : p) : grd p k = k := by simp [grd, h]
theorem bnd_t {α β : Type} {x : α} {f : α → Option β} : bnd' (some x) f = f x := rfl
theorem getI_t {α : Type} {k : IntKind} {x : Int} {f : Int → Option α} : getI k (.int k x) f = f x := by simp [getI]
theorem getB_t {α : Type} {b : Bool} {f : Bool → Option α} : getB (.bool b) f = f b := rfl
theorem getL_t {α : Type} {n : Nat} {c : List PV} {f : Nat → List PV → Option α} : getL (.lst false n c) f = f n c := rfl
theorem getA_t {α : Type} {c : List PV} {f : List PV → Option α} : getA (.agg c) f = f c := rfl
theorem getA2_t {α : Type} {a b : PV} {f : PV → PV → Option α} : getA2 (.agg [a, b]) f = f a b := rfl
theorem getA8_t {α : Type} {a0 a1 a2 a3 a4 a5 a6 a7 : PV} {f : PV → PV → PV → PV → PV → PV → PV → PV → Option α} : getA8 (.agg [a0, a1, a2, a3, a4, a5, a6, a7]) f = f a0 a1 a2 a3 a4 a5 a6 a7 := rfl
theorem getT2_t {α : Type} {a b : PV} {f : PV → PV → Option α} : getT2 (.tup [a, b]) f = f a b := rfl
theorem wrapI {n : Nat} (h : n ≤ 100000) : IntKind.i64.wrap (n : Int) = (n : Int) := wrap64 (by omega) (by omega)
theorem wrapN {n : Nat} (h : n ≤ 100000) : IntKind.i64.wrap ((n : Int) + 1) = ((n + 1 : Nat) : Int) := by
  rw [wrap64 (by omega) (by omega)]; omega
theorem toNatN (n : Nat) : Int.toNat (n : Int) = n := by omega
theorem tmodN (m n : Nat) : Int.tmod (m : Int) (n : Int) = ((m % n : Nat) : Int) := rfl
theorem minI_n (a b : Nat) : minI (a : Int) (b : Int) = ((min a b : Nat) : Int) := by
  unfold minI; split <;> omega
theorem maxI_n (a b : Nat) : maxI (a : Int) (b : Int) = ((max a b : Nat) : Int) := by
  unfold maxI; split <;> omega
def nn (X : List Nat) (i : Nat) : Nat := X.getD i 0
def nL (X : List Nat) : List PV := X.map fun (n : Nat) => PV.int .i64 (n : Int)
theorem nL_len (X : List Nat) : (nL X).length = X.length := by simp [nL]
theorem nL_gp {X : List Nat} {i : Nat} (h : i < X.length) : gp (nL X) i = .int .i64 (nn X i : Int) := by
  simp [nL, gp, nn, List.getD, h]
theorem gN_n {α : Type} {X : List Nat} {i : Nat} {f : Int → Option α} (h : i < X.length) : getI .i64 (gp (nL X) (Int.toNat (i : Int))) f = f (nn X i : Int) := by
  rw [toNatN, nL_gp h, getI_t]
theorem nL_app (X : List Nat) (x : Nat) : nL X ++ [.int .i64 (x : Int)] = nL (X ++ [x]) := by simp [nL]
theorem nL_set (X : List Nat) (i x : Nat) : List.set (nL X) i (.int .i64 (x : Int)) = nL (X.set i x) := by simp [nL, List.map_set]
def uL (X : List Nat) : List PV := X.map fun (n : Nat) => PV.int .u8 (n : Int)
theorem uL_len (X : List Nat) : (uL X).length = X.length := by simp [uL]
theorem uL_gp {X : List Nat} {i : Nat} (h : i < X.length) : gp (uL X) i = .int .u8 (nn X i : Int) := by
  simp [uL, gp, nn, List.getD, h]
theorem uL_two {X : List Nat} {i : Nat} (h : i + 1 < X.length) : List.take 2 (List.drop i (uL X)) = [.int .u8 (nn X i : Int), .int .u8 (nn X (i + 1) : Int)] := by
  have e : X.drop i = nn X i :: nn X (i + 1) :: X.drop (i + 2) := by
    rw [List.drop_eq_getElem_cons (by omega), List.drop_eq_getElem_cons (by omega)]
    simp [nn, List.getD, h, show i < X.length by omega]
  unfold uL
  rw [← List.map_drop, e]
  rfl
def tF (d : Nat → Nat) (k : Nat) : List Nat := (List.range k).map d
theorem tF_len (d : Nat → Nat) (k : Nat) : (tF d k).length = k := by simp [tF]
theorem nn_tF {d : Nat → Nat} {k c : Nat} (h : c < k) : nn (tF d k) c = d c := by simp [nn, tF, List.getD, h]
theorem tF_set (d : Nat → Nat) (k a x : Nat) : (tF d k).set a x = tF (fun c => if c = a then x else d c) k := by
  apply List.ext_getElem
  · simp [tF]
  · intro n h1 h2
    simp only [tF, List.getElem_set, List.getElem_map, List.getElem_range]
    by_cases h : a = n
    · rw [if_pos h, if_pos h.symm]
    · rw [if_neg h, if_neg (fun q => h q.symm)]
theorem tF_congr {d e : Nat → Nat} {k : Nat} (h : ∀ c, c < k → d c = e c) : tF d k = tF e k :=
  List.map_congr_left fun c hc => h c (List.mem_range.1 hc)
def fl : List (Nat × Nat) → List PV
  | [] => []
  | s :: S => .int .i64 (s.1 : Int) :: .int .i64 (s.2 : Int) :: fl S
theorem fl_len : ∀ S : List (Nat × Nat), (fl S).length = S.length * 2
  | [] => rfl
  | s :: S => by simp only [fl, List.length_cons, fl_len S]; omega
theorem fl_drop : ∀ (S : List (Nat × Nat)) (i : Nat), List.drop (i * 2) (fl S) = fl (S.drop i)
  | S, 0 => by simp
  | [], i + 1 => by simp [fl]
  | s :: S, i + 1 => by
    rw [List.drop_succ_cons, ← fl_drop S i, show (i + 1) * 2 = i * 2 + 2 by omega]
    rfl
theorem fl_two {S T : List (Nat × Nat)} {i : Nat} {s : Nat × Nat} (h : S.drop i = s :: T) : List.take 2 (List.drop (Int.toNat (i : Int) * 2) (fl S)) = [.int .i64 (s.1 : Int), .int .i64 (s.2 : Int)] := by
  rw [toNatN, fl_drop, h]; rfl
theorem fl_app (S : List (Nat × Nat)) (a b : Nat) : fl S ++ [.int .i64 (a : Int), .int .i64 (b : Int)] = fl (S ++ [(a, b)]) := by
  induction S with
  | nil => rfl
  | cons s S ih => simp only [fl, List.cons_append, ih]
theorem drop_lt {α : Type} {S T : List α} {k : Nat} {s : α} (h : S.drop k = s :: T) : k < S.length := by
  have : (S.drop k).length ≠ 0 := by rw [h]; simp
  rw [List.length_drop] at this; omega
theorem drop_next {α : Type} {S T : List α} {k : Nat} {s : α} (h : S.drop k = s :: T) : S.drop (k + 1) = T := by
  rw [← List.drop_drop, h]; rfl
theorem drop_end {α : Type} {S : List α} {k : Nat} (h : S.drop k = []) : S.length ≤ k := List.drop_eq_nil_iff.1 h
theorem drop_mem {α : Type} {S T : List α} {k : Nat} {s : α} (h : S.drop k = s :: T) : s ∈ S := List.mem_of_mem_drop (i := k) (by rw [h]; exact .head _)
structure Gm (k : Nat) (S : List (Nat × Nat)) : Prop where
  len : S.length ≤ 9
  tree : ∀ c, 1 ≤ c → c < k → ∃ p, p < c ∧ S[c - 1]? = some (p, c)
  ok : ∀ s ∈ S, s.1 < s.2 ∧ s.2 < k
def trF (F : List Nat) : Nat → Nat → List (Nat × Nat)
  | 0, _ => []
  | r + 1, c => (nn F c % c, c) :: trF F r (c + 1)
theorem trF_len (F : List Nat) : ∀ r c, (trF F r c).length = r
  | 0, _ => rfl
  | r + 1, c => by rw [trF, List.length_cons, trF_len F r (c + 1)]
theorem trF_get (F : List Nat) : ∀ r c i, i < r → (trF F r c)[i]? = some (nn F (c + i) % (c + i), c + i)
  | 0, _, _, h => by omega
  | r + 1, c, 0, _ => rfl
  | r + 1, c, i + 1, h => by
    rw [trF, List.getElem?_cons_succ, trF_get F r (c + 1) i (by omega), show c + 1 + i = c + (i + 1) by omega]
theorem trF_ok (F : List Nat) : ∀ r c, 1 ≤ c → ∀ s ∈ trF F r c, s.1 < s.2 ∧ s.2 < c + r
  | 0, _, _, s, h => by simp [trF] at h
  | r + 1, c, hc, s, h => by
    rw [trF] at h
    rcases List.mem_cons.1 h with rfl | h
    · exact ⟨Nat.mod_lt _ (by omega), by show c < _; omega⟩
    · have := trF_ok F r (c + 1) (by omega) s h
      omega
section
variable (N : Nat) (k : Nat) (f0 f1 f2 f3 f4 f5 f6 f7 : Nat) (G : List Nat)
theorem m7L0 (hk : k ≤ 5) (hF : ∀ i, nn [f0, f1, f2, f3, f4, f5, f6, f7] i < 256) (x : Int) : ∀ (r c fuel : Nat) (S : List (Nat × Nat)), k - c = r → c ≤ k → 1 ≤ c → r < fuel → S.length + r ≤ 10 →
    m7_L0 N k x 9 (.int .u8 (f0 : Int)) (.int .u8 (f1 : Int)) (.int .u8 (f2 : Int)) (.int .u8 (f3 : Int)) (.int .u8 (f4 : Int)) (.int .u8 (f5 : Int)) (.int .u8 (f6 : Int)) (.int .u8 (f7 : Int)) (uL G) fuel (c : Int) S.length (fl S) = some (S.length + r, fl (S ++ trF [f0, f1, f2, f3, f4, f5, f6, f7] r c))
  | r, c, 0, _, _, _, _, h, _ => by omega
  | r, c, fu + 1, S, hr, h1, h2, hf, hS => by
    rw [m7_L0]
    by_cases h : c < k
    · cases r with
      | zero => omega
      | succ r =>
      have b := hF c
      have lf := fl_len S
      rw [brn_dt (by omega), grd_t ⟨by omega, by omega⟩, grd_t (by omega), show [PV.int .u8 (f0 : Int), .int .u8 (f1 : Int), .int .u8 (f2 : Int), .int .u8 (f3 : Int), .int .u8 (f4 : Int), .int .u8 (f5 : Int), .int .u8 (f6 : Int), .int .u8 (f7 : Int)] = uL [f0, f1, f2, f3, f4, f5, f6, f7] from rfl, toNatN, uL_gp (by simp; omega), getI_t, grd_t (by omega), grd_t (by omega), grd_t lf, wrapI (by omega), wrapN (by omega), tmodN, fl_app]
      have e := m7L0 hk hF x r (c + 1) fu (S ++ [(nn [f0, f1, f2, f3, f4, f5, f6, f7] c % c, c)]) (by omega) (by omega) (by omega) (by omega) (by
        rw [List.length_append]
        show S.length + 1 + r ≤ 10
        omega)
      rw [List.length_append] at e
      rw [show S.length + 1 = S.length + [(nn [f0, f1, f2, f3, f4, f5, f6, f7] c % c, c)].length from rfl, e, trF, List.append_assoc]
      congr 2
      simp; omega
    · rw [brn_df (by omega), show r = 0 by omega]
      simp [trF]
theorem m7L1 (hk : k ≤ 5) (hk2 : 2 ≤ k) (hG : G.length = 16) (hGb : ∀ i, nn G i < 256) (st : Nat) : ∀ (r j fuel : Nat) (S : List (Nat × Nat)), st % 9 - j = r → j ≤ st % 9 → r < fuel → S.length ≤ 9 →
    ∃ E, m7_L1 N k (st : Int) 9 (uL G) fuel (j : Int) S.length (fl S) = some ((S ++ E).length, fl (S ++ E)) ∧ (S ++ E).length ≤ 9 ∧ ∀ s ∈ E, s.1 < s.2 ∧ s.2 < k
  | r, j, 0, _, _, _, h, _ => by omega
  | r, j, fu + 1, S, hr, h1, hf, hS => by
    have q : Int.toNat (Int.tmod (st : Int) 9) = st % 9 := rfl
    rw [m7_L1, q]
    have m9 : st % 9 < 9 := Nat.mod_lt _ (by omega)
    by_cases h : j < st % 9
    · have b1 := hGb (j * 2)
      have b2 := hGb (j * 2 + 1)
      have lf := fl_len S
      have lu := uL_len G
      have n1 : nn G (j * 2) % k < k := Nat.mod_lt _ (by omega)
      have n2 : nn G (j * 2 + 1) % k < k := Nat.mod_lt _ (by omega)
      rw [brn_dt (by omega), grd_t ⟨by omega, by omega⟩, grd_t (by omega), toNatN, uL_two (by omega), getA2_t, getI_t, grd_t (by omega), getI_t, wrapI (by omega), wrapI (by omega), tmodN, tmodN, wrapN (by omega), minI_n, maxI_n]
      by_cases g : nn G (j * 2) % k = nn G (j * 2 + 1) % k
      · obtain ⟨E, e1, e2, e3⟩ := m7L1 hk hk2 hG hGb st (r - 1) (j + 1) fu S (by omega) (by omega) (by omega) hS
        rw [brn_nf (by omega)]
        exact ⟨E, e1, e2, e3⟩
      · rw [brn_nt (by omega)]
        by_cases g2 : S.length < 9
        · obtain ⟨E, e1, e2, e3⟩ := m7L1 hk hk2 hG hGb st (r - 1) (j + 1) fu (S ++ [(min (nn G (j * 2) % k) (nn G (j * 2 + 1) % k), max (nn G (j * 2) % k) (nn G (j * 2 + 1) % k))]) (by omega) (by omega) (by omega) (by simp; omega)
          rw [brn_dt (by omega), grd_t (by omega), grd_t lf, fl_app]
          rw [List.length_append] at e1
          have ea : S ++ (min (nn G (j * 2) % k) (nn G (j * 2 + 1) % k), max (nn G (j * 2) % k) (nn G (j * 2 + 1) % k)) :: E = S ++ [(min (nn G (j * 2) % k) (nn G (j * 2 + 1) % k), max (nn G (j * 2) % k) (nn G (j * 2 + 1) % k))] ++ E := List.append_cons _ _ _
          refine ⟨(min (nn G (j * 2) % k) (nn G (j * 2 + 1) % k), max (nn G (j * 2) % k) (nn G (j * 2 + 1) % k)) :: E, ?_, ?_, ?_⟩
          · rw [ea]
            exact e1
          · rw [ea]
            exact e2
          · intro s hs
            rcases List.mem_cons.1 hs with rfl | hs
            · show min _ _ < max _ _ ∧ max _ _ < k
              omega
            · exact e3 s hs
        · obtain ⟨E, e1, e2, e3⟩ := m7L1 hk hk2 hG hGb st (r - 1) (j + 1) fu S (by omega) (by omega) (by omega) hS
          rw [brn_df (by omega)]
          exact ⟨E, e1, e2, e3⟩
    · rw [brn_df (by omega)]
      exact ⟨[], by simp, by simpa using hS, by simp⟩
theorem mapped_ok (hN : 2000 ≤ N) (hk : k ≤ 5) (hk2 : 2 ≤ k) (hF : ∀ i, nn [f0, f1, f2, f3, f4, f5, f6, f7] i < 256) (hG : G.length = 16) (hGb : ∀ i, nn G i < 256) (st : Nat) :
    ∃ S, m7 N k (st : Int) 9 (.agg [.int .u8 (f0 : Int), .int .u8 (f1 : Int), .int .u8 (f2 : Int), .int .u8 (f3 : Int), .int .u8 (f4 : Int), .int .u8 (f5 : Int), .int .u8 (f6 : Int), .int .u8 (f7 : Int)]) (.agg (uL G)) = some (.agg [.int .i64 (k : Int), .lst false S.length (fl S)]) ∧ Gm k S := by
  have m9 : st % 9 < 9 := Nat.mod_lt _ (by omega)
  have q : Int.tmod (st : Int) 9 = ((st % 9 : Nat) : Int) := rfl
  have lu := uL_len G
  have e0 := m7L0 N k f0 f1 f2 f3 f4 f5 f6 f7 G hk hF (st : Int) (k - 1) 1 N [] rfl (by omega) (by omega) (by omega) (by simp; omega)
  have lt := trF_len [f0, f1, f2, f3, f4, f5, f6, f7] (k - 1) 1
  obtain ⟨E, e1, e2, e3⟩ := m7L1 N k G hk hk2 hG hGb st (st % 9) 0 N (trF [f0, f1, f2, f3, f4, f5, f6, f7] (k - 1) 1) (by omega) (by omega) (by omega) (by omega)
  rw [lt] at e1
  refine ⟨_, ?_, e2, ?_, ?_⟩
  · rw [m7, getA8_t, getA_t]
    rw [show m7_L0 N k (st : Int) 9 _ _ _ _ _ _ _ _ (uL G) N 1 0 [] = _ from e0, bnd_t]
    show grd _ (grd _ (bnd' (m7_L1 N k (st : Int) 9 (uL G) N 0 (0 + (k - 1)) (fl (trF [f0, f1, f2, f3, f4, f5, f6, f7] (k - 1) 1))) _)) = _
    rw [grd_t (by omega), grd_t ⟨by omega, by omega, by omega⟩, Nat.zero_add, show m7_L1 N k (st : Int) 9 (uL G) N 0 (k - 1) _ = _ from e1, bnd_t]
    show grd _ _ = _
    rw [grd_t (fl_len _)]
  · intro c h1 h2
    refine ⟨nn [f0, f1, f2, f3, f4, f5, f6, f7] c % c, Nat.mod_lt _ (by omega), ?_⟩
    rw [List.getElem?_append_left (by omega), trF_get _ _ _ _ (by omega), show 1 + (c - 1) = c by omega]
  · intro s hs
    rcases List.mem_append.1 hs with h | h
    · have := trF_ok [f0, f1, f2, f3, f4, f5, f6, f7] (k - 1) 1 (by omega) s h
      omega
    · exact e3 s h
end
def dg : List (Nat × Nat) → Nat → Nat
  | [], _ => 0
  | s :: S, c => (if c = s.1 ∨ c = s.2 then 1 else 0) + dg S c
theorem dg_le : ∀ (S : List (Nat × Nat)) (c : Nat), dg S c ≤ S.length
  | [], _ => Nat.le_refl _
  | s :: S, c => by
    have := dg_le S c
    rw [dg, List.length_cons]; split <;> omega
theorem dg_pos : ∀ {S : List (Nat × Nat)} {c : Nat} {s : Nat × Nat}, s ∈ S → c = s.1 ∨ c = s.2 → 1 ≤ dg S c
  | [], _, _, h, _ => by cases h
  | s' :: S, c, s, h, hc => by
    rw [dg]
    rcases List.mem_cons.1 h with rfl | h
    · rw [if_pos hc]; omega
    · have := dg_pos h hc; omega
theorem m3L0 (N k : Nat) (S : List (Nat × Nat)) (hS : ∀ s ∈ S, s.1 < s.2 ∧ s.2 < k) : ∀ (T : List (Nat × Nat)) (i fuel : Nat) (d : Nat → Nat), S.drop i = T → T.length < fuel → i + T.length ≤ 100 → T.length ≤ 9 → (∀ c, d c + T.length ≤ 100) →
    m3_L0 N k S.length (fl S) fuel (i : Int) (nL (tF d k)) = some (nL (tF (fun c => d c + dg T c) k))
  | [], i, fu + 1, d, h, _, _, _, _ => by
    have := drop_end h
    rw [m3_L0, brn_df (by omega)]
    rfl
  | [], i, 0, d, h, hf, _, _, _ => by simp at hf
  | s :: T, i, 0, d, h, hf, _, _, _ => by simp at hf
  | s :: T, i, fu + 1, d, h, hf, hi, hT, hd => by
    have hl := drop_lt h
    have lf := fl_len S
    have hi' := hi
    simp only [List.length_cons] at hi'
    obtain ⟨h1, h2⟩ := hS s (drop_mem h)
    have lt : ∀ d, (nL (tF d k)).length = k := fun d => by rw [nL_len, tF_len]
    have d1 := hd s.1
    have d2 := hd s.2
    rw [m3_L0, brn_dt (by omega), grd_t ⟨by omega, by omega⟩, grd_t (by rw [List.length_drop, lf, toNatN]; omega), fl_two h, getA2_t, getI_t, toNatN k, grd_t ⟨by omega, by omega⟩, grd_t (by rw [lt, toNatN]; omega), gN_n (by rw [tF_len]; omega), grd_t (by rw [lt, toNatN]; omega), getI_t, grd_t ⟨by omega, by omega⟩, grd_t (by rw [lt, toNatN]; omega), nn_tF (by omega), wrapN (by omega), toNatN s.1, nL_set, tF_set, gN_n (by rw [tF_len]; omega), grd_t (by rw [lt, toNatN]; omega), nn_tF (by omega), if_neg (by omega), wrapN (by omega), wrapN (by omega), toNatN, nL_set, tF_set]
    simp only [List.length_cons] at hf hT hi
    rw [m3L0 N k S hS T (i + 1) fu _ (drop_next h) (by omega) (by omega) (by omega) (fun c => by
      have := hd c
      simp only [List.length_cons] at this
      by_cases e1 : c = s.2
      · simp only [if_pos e1]
        have := hd s.2
        simp only [List.length_cons] at this
        omega
      · simp only [if_neg e1]
        by_cases e2 : c = s.1
        · simp only [if_pos e2]
          have := hd s.1
          simp only [List.length_cons] at this
          omega
        · simp only [if_neg e2]; omega)]
    congr 2
    refine tF_congr fun c _ => ?_
    rw [dg]
    by_cases e1 : c = s.2
    · subst e1; simp; omega
    · by_cases e2 : c = s.1
      · subst e2
        rw [if_neg e1, if_pos rfl, if_pos (Or.inl rfl)]; omega
      · rw [if_neg e1, if_neg e2, if_neg (fun q => q.elim e2 e1)]; omega
end Go.Proofs.YtdnfffmppppoeaaDoor
