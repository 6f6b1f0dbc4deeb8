/-
  Models and laws.
-/
import Derived.Test.YtcaecfofgdogbaaDoorR2WrB
import Derived.Test.YtcaecfofgdogbaaDoorR2WyA
import Derived.Test.YtcaecfofgdogbaaDoorR2V41
set_option linter.unusedSimpArgs false
set_option linter.unusedVariables false
namespace Go.Proofs.YtcaecfofgdogbaaDoor
open Go.V
set_option maxRecDepth 100000
set_option maxHeartbeats 4000000
set_option linter.unusedSimpArgs false
set_option linter.unusedVariables false
attribute [local go_sem] tl1 tl2 tl3 tl4 tl5 tl9 tl17 tl21 tl22 tl23 tl24 tl25 tl27 tl28 tl30 tl31 tl32 tl33 tl35 tl36 tl37 tl38 tl39 tl40 tl42 tl43 tl44 tl45 tl46 tl47 tl48 tl49 tl50 tl51 tl52 tl53 tl54 tl55 tl56 tl57 tl58 tl59 tl61 tl62 tl63 tl64 tl65 tl66 tl67 tl68 tl69 tl70 tl71 tl72 tl73 tl74 tl75 tl76 tl77 tl78 tl79 tl80 tl81 tl82 tl83 tl84 tl85 tl87 tl89 tl90 tl91 tl92 tl93 tl94 tl96 tl97 tl98 tl99 tl100 tl101 tl102 tl103 tl104 tl105 tl106 tl107 tl108 tl109 tl115 tl119 ne_eq not_false_eq_true Int.le_refl Nat.le_refl Int.cast_ofNat_Int
def m56p (N : Nat) (p3123 : PV) : Option (Nat × List PV) :=
 getL p3123 fun n3125 c3126 =>
 grd (0 < n3125) <|
 grd (List.length c3126 = n3125) <|
 grd (n3125 ≤ 1099511627776) <|
 some (n3125, c3126)
theorem c56p (N : Nat) (p3123 : PV) (rn : Nat) (rc : List PV) (h : m56p N p3123 = some (rn, rc)) : V.Fn Tryd.prog 56 0 [.v p3123] [] (fun d ob' => d = .sl false 0 0 rn 1 ∧ ob' = [(0, .p rc)]) := by
 unfold m56p at h
 refine Fn_of (sz := 8) tab_ok [0, 2, 4] [.tmp 2] Tryd.func56 rfl rfl rfl (by simp) ?_
 simp only [initSt, initEnv, List.getD_cons_zero, List.getD_cons_succ, List.getD_nil]
 replace h := getL_some h; obtain ⟨n3125, c3126, h3124, h⟩ := h
 replace h := grd_some h; obtain ⟨g3127, h⟩ := h
 replace h := grd_some h; obtain ⟨g3128, h⟩ := h
 replace h := grd_some h; obtain ⟨g3129, h⟩ := h
 refine W_sound tab_ok mixed 21 _ _ _ ?_
 simp -implicitDefEqProofs only [go_sem, Nat.reduceBEq, Nat.reduceAdd, Nat.reduceLT, Nat.reduceLeDiff, h3124, g3127, g3128, g3129]
 repeat with_reducible refine And.intro (by first | kernel_rfl | decide) ?_
 simp only [Option.some.injEq, Prod.mk.injEq] at h; obtain ⟨rfl, rfl⟩ := h
 exact finD (e2 := [(0, .dead), (2, .sl false 7 0 n3125 1), (4, .dead)]) (ob2 := [(5, .p []), (7, .p c3126)]) (st' := ⟨[], [(0, .dead), (2, .sl false 0 0 n3125 1), (4, .dead)], [(0, .p c3126)], 1, []⟩) (.cons _ _ _ _ _ (.dead _) (.cons _ _ _ _ _ (.refl _) (.cons _ _ _ _ _ (.dead _) .nil))) (.cons _ _ _ _ _ (DLes.refl _) (.cons _ _ _ _ _ (DLes.refl _) .nil)) (by kernel_rfl) (by simp only [go_sem, Nat.reduceBEq, resQ_tmp, resQ_nil, retD_one]; first | done | exact ⟨rfl, rfl⟩ | (try simp [R.val, retD_one]))
theorem Fn_nil {P : Program} {f bs : Nat} {ob : Obs} {Q : D → Obs → Prop} {g : Bool} (h1 : V.Fn P f bs [.v .nl] ob Q) (h2 : V.Fn P f bs [.v nnP] ob Q) : V.Fn P f bs [.v (.lst g 0 [])] ob Q := by
 intro fr hfr vals w ρ a1 a2 a3
 have key : RDs w (Own ρ (ovl (obL ob) fr)) ρ vals.toList [.v .nl] ∨ RDs w (Own ρ (ovl (obL ob) fr)) ρ vals.toList [.v nnP] := by
  generalize vals.toList = vs at a2
  cases a2 with
  | cons v d vs l hv hvs =>
   cases hv with | v _ _ hv =>
   rcases RP_lst_nn hv with h | h
   ·exact .inl (.cons _ _ _ _ (.v _ _ h) hvs)
   ·exact .inr (.cons _ _ _ _ (.v _ _ h) hvs)
 rcases key with h | h
 ·exact h1 fr hfr vals w ρ a1 h a3
 ·exact h2 fr hfr vals w ρ a1 h a3
theorem c56n : V.Fn Tryd.prog 56 0 [.v .nl] [] (fun d ob' => d = .sl false 0 0 0 1 ∧ ob' = [(0, .p [])]) := by
 refine Fn_of (sz := 8) tab_ok [0, 2, 4] [.tmp 2] Tryd.func56 rfl rfl rfl (by simp) ?_
 simp only [initSt, initEnv, List.getD_cons_zero, List.getD_cons_succ, List.getD_nil]
 refine W_sound tab_ok mixed 15 _ _ _ ?_
 simp -implicitDefEqProofs only [go_sem, Nat.reduceBEq, Nat.reduceLT]
 repeat with_reducible refine And.intro (by first | kernel_rfl | decide) ?_
 refine Wp_weaken (Wk_ownS 2 1 rfl (by decide) (by decide)) ?_
 simp -implicitDefEqProofs only [go_sem, Nat.reduceBEq]
 refine W_sound tab_ok mixed 3 _ _ _ ?_
 simp -implicitDefEqProofs only [go_sem]
 exact finD (e2 := [(0, .dead), (2, .sl false 0 0 0 1), (4, .dead)]) (ob2 := [(0, .p [])]) (st' := ⟨[], [(0, .dead), (2, .sl false 0 0 0 1), (4, .dead)], [(0, .p [])], 1, []⟩) (.cons _ _ _ _ _ (.dead _) (.cons _ _ _ _ _ (.refl _) (.cons _ _ _ _ _ (.dead _) .nil))) (.cons _ _ _ _ _ (DLes.refl _) .nil) (by kernel_rfl) (by simp only [go_sem, resQ_tmp, resQ_nil, retD_one]; first | done | exact ⟨rfl, rfl⟩ | (try simp [R.val]))
theorem c56e : V.Fn Tryd.prog 56 0 [.v nnP] [] (fun d ob' => d = .sl false 0 0 0 1 ∧ ob' = [(0, .p [])]) := by
 refine Fn_of (sz := 8) tab_ok [0, 2, 4] [.tmp 2] Tryd.func56 rfl rfl rfl (by simp) ?_
 simp only [initSt, initEnv, List.getD_cons_zero, List.getD_cons_succ, List.getD_nil]
 refine W_sound tab_ok mixed 21 _ _ _ ?_
 simp -implicitDefEqProofs only [go_sem, Nat.reduceBEq, Nat.reduceAdd, Nat.reduceLT, Nat.reduceLeDiff, decide_true]
 repeat with_reducible refine And.intro (by first | kernel_rfl | decide) ?_
 exact finD (e2 := [(0, .dead), (2, .sl false 5 0 0 1), (4, .dead)]) (ob2 := [(5, .p [])]) (st' := ⟨[], [(0, .dead), (2, .sl false 0 0 0 1), (4, .dead)], [(0, .p [])], 1, []⟩) (.cons _ _ _ _ _ (.dead _) (.cons _ _ _ _ _ (.sl _ _ _ _ _) (.cons _ _ _ _ _ (.dead _) .nil))) (.cons _ _ _ _ _ (DLes.refl _) .nil) (by kernel_rfl) (by simp only [go_sem, resQ_tmp, resQ_nil, retD_one]; first | done | exact ⟨rfl, rfl⟩ | (try simp [R.val]))
def m56_2 (N : Nat) (p : PV) : Option (Nat × List PV) :=
 getL p fun n c =>
 grd (List.length c = n) <|
 grd (n ≤ 1099511627776) <|
 some (n, c)
theorem c56_2 (N : Nat) (p : PV) (rn : Nat) (rc : List PV) (h : m56_2 N p = some (rn, rc)) : V.Fn Tryd.prog 56 0 [.v p] [] (fun d ob' => d = .sl false 0 0 rn 1 ∧ ob' = [(0, .p rc)]) := by
 unfold m56_2 at h
 obtain ⟨n, c, rfl, h⟩ := getL_some h
 obtain ⟨g1, h⟩ := grd_some h
 obtain ⟨g2, h⟩ := grd_some h
 simp only [Option.some.injEq, Prod.mk.injEq] at h; obtain ⟨rfl, rfl⟩ := h
 by_cases e : 0 < n
 ·exact c56p N _ _ _ (by unfold m56p; simp [getL, grd, e, g1, g2])
 ·obtain rfl : n = 0 := by omega
  obtain rfl : c = [] := List.eq_nil_of_length_eq_zero g1
  exact Fn_nil c56n c56e
def m49 (N : Nat) (x3361 : Int) (p3362 : PV) : Option (PV) :=
 getL p3362 fun n3364 c3365 =>
 bnd' (m83 N x3361 (.lst false n3364 c3365)) fun o =>
 match o with
 | .inl (x3367, x3368) =>
  some (.int .i64 x3368)
 | .inr (x3369, x3370, c3371) =>
  some (.int .i64 x3370)
theorem c49 (N : Nat) (x3361 : Int) (p3362 : PV) (r : PV)  (h : m49 N x3361 p3362 = some r) : FnP Tryd.prog 49 [(.int .i64 x3361), p3362] r := by
 unfold m49 at h
 refine Fn_of (sz := 16) tab_ok [0, 1, 4, 7] [.tmp 4] Tryd.func49 rfl rfl rfl (by simp) ?_
 simp only [initSt, initEnv, List.map_cons, List.map_nil, List.getD_cons_zero, List.getD_cons_succ, List.getD_nil]
 replace h := getL_some h; obtain ⟨n3364, c3365, h3363, h⟩ := h
 replace h := bnd'_some h; obtain ⟨oo, h3366, h⟩ := h
 rcases oo with ⟨x3367, x3368⟩ | ⟨x3369, x3370, c3371⟩
 ·(try dsimp only at h)
  refine W_sound tab_ok mixed 8 _ _ _ ?_
  simp -implicitDefEqProofs only [go_sem, Nat.reduceBEq, Nat.reduceLT, h3363]
  repeat with_reducible refine And.intro (by first | kernel_rfl | decide) ?_
  refine Wp_callD [] (c83_a N _ _ _ _ h3366) rfl rfl rfl (by first | rfl | (simp only [go_sem, Nat.reduceBEq, Nat.reduceAdd, Nat.reduceSub, Nat.reduceMul, Nat.reduceLT, Nat.reduceLeDiff, Int.reduceLE, Int.reduceLT, Int.reduceToNat, Int.reduceBEq, Int.reduceBNe, ↓reduceIte, h3363] <;> rfl)) rfl (by kernel_rfl) ?_
  refine W_sound tab_ok mixed 15 _ _ _ ?_
  simp -implicitDefEqProofs only [go_sem, Nat.reduceBEq, Nat.reduceLT]
  repeat with_reducible refine And.intro (by first | kernel_rfl | decide) ?_
  obtain rfl := Option.some.inj h
  exact finC [(4, .v (.int .i64 x3368))] [(4, .v (.int .i64 x3368))] (by simp [leE, lk_cons]) (.cons _ _ _ _ _ (.v _ _ (.refl _)) .nil) (by rfl) (by simp [leE, lk_cons]) (by decide) (by decide) rfl (by simp only [go_sem, Nat.reduceBEq, resQ_tmp, resQ_nil, retD_one]; try simp [R.val, retD_one, retD_two, retD_three, retD_none])
 ·(try dsimp only at h)
  refine W_sound tab_ok mixed 8 _ _ _ ?_
  simp -implicitDefEqProofs only [go_sem, Nat.reduceBEq, Nat.reduceLT, h3363]
  repeat with_reducible refine And.intro (by first | kernel_rfl | decide) ?_
  refine Wp_callD [] (c83_b N _ _ _ _ _ h3366) rfl rfl rfl (by first | rfl | (simp only [go_sem, Nat.reduceBEq, Nat.reduceAdd, Nat.reduceSub, Nat.reduceMul, Nat.reduceLT, Nat.reduceLeDiff, Int.reduceLE, Int.reduceLT, Int.reduceToNat, Int.reduceBEq, Int.reduceBNe, ↓reduceIte, h3363] <;> rfl)) rfl (by kernel_rfl) ?_
  refine W_sound tab_ok mixed 15 _ _ _ ?_
  simp -implicitDefEqProofs only [go_sem, Nat.reduceBEq, Nat.reduceAdd, Nat.reduceSub, Nat.reduceMul, Nat.reduceLT, Nat.reduceLeDiff]
  repeat with_reducible refine And.intro (by first | kernel_rfl | decide) ?_
  obtain rfl := Option.some.inj h
  exact finC [(4, .v (.int .i64 x3370))] [(4, .v (.int .i64 x3370))] (by simp [leE, lk_cons]) (.cons _ _ _ _ _ (.v _ _ (.refl _)) .nil) (by rfl) (by simp [leE, lk_cons]) (by decide) (by decide) rfl (by simp only [go_sem, Nat.reduceBEq, resQ_tmp, resQ_nil, retD_one]; try simp [R.val, retD_one, retD_two, retD_three, retD_none])
def m16 (N : Nat) : Option PV := some (.bool true)
theorem c16 (N : Nat) (r : PV) (h : m16 N = some r) : FnP Tryd.prog 16 [] r := by
 obtain rfl := Option.some.inj h
 exact k92
def m51 (N : Nat) (x3491 : Int) (p3492 : PV) (x3493 : Int) : Option (PV) :=
 getL p3492 fun n3495 c3496 =>
 bnd' (m81 N x3491 (.lst false n3495 c3496)) fun p3497 =>
 getT2 p3497 fun p3500 p3501 =>
 getL p3500 fun n3503 c3504 =>
 getI .i64 p3501 fun x3506 =>
 brn (x3506 != 0) (
  some (.int .i64 x3506)) (
  brn (decide (x3493 < 0)) (
   some (.int .i64 2)) (
   brn (decide (x3493 ≥ x3491)) (
    some (.int .i64 2)) (
    bnd' (m57 N (.lst false n3503 c3504) x3493) fun p3510 =>
    getB p3510 fun b3513 =>
    brn b3513 (
     some (.int .i64 0)) (
     some (.int .i64 14)))))
theorem c51 (N : Nat) (x3491 : Int) (p3492 : PV) (x3493 : Int) (r : PV)  (h : m51 N x3491 p3492 x3493 = some r) : FnP Tryd.prog 51 [(.int .i64 x3491), p3492, (.int .i64 x3493)] r := by
 unfold m51 at h
 refine Fn_of (sz := 32) tab_ok [0, 1, 2, 6, 7, 8, 15, 19, 27] [.tmp 6] Tryd.func51 rfl rfl rfl (by simp) ?_
 simp only [initSt, initEnv, List.map_cons, List.map_nil, List.getD_cons_zero, List.getD_cons_succ, List.getD_nil]
 replace h := getL_some h; obtain ⟨n3495, c3496, h3494, h⟩ := h
 replace h := bnd'_some h; obtain ⟨p3497, h3498, h⟩ := h
 refine W_sound tab_ok mixed 8 _ _ _ ?_
 simp -implicitDefEqProofs only [go_sem, Nat.reduceBEq, Nat.reduceLT, h3494]
 repeat with_reducible refine And.intro (by first | kernel_rfl | decide) ?_
 refine Wp_callP (c81 N _ _ _ h3498) (by kernel_rfl) rfl rfl rfl rfl (by decide) ?_
 replace h := getT2_some h; obtain ⟨p3500, p3501, h3499, h⟩ := h
 replace h := getL_some h; obtain ⟨n3503, c3504, h3502, h⟩ := h
 replace h := getI_some h; obtain ⟨x3506, h3505, h⟩ := h
 replace h := brn_some h; rcases h with ⟨h3507, h⟩ | ⟨h3507, h⟩
 ·refine W_sound tab_ok mixed 22 _ _ _ ?_
  simp -implicitDefEqProofs only [go_sem, Nat.reduceBEq, Nat.reduceLT, ↓reduceIte, h3499, h3502, h3505, h3507]
  repeat with_reducible refine And.intro (by first | kernel_rfl | decide) ?_
  obtain rfl := Option.some.inj h
  exact finC [(6, .v (.int .i64 x3506))] [(6, .v (.int .i64 x3506))] (by simp [leE, lk_cons]) (.cons _ _ _ _ _ (.v _ _ (.refl _)) .nil) (by rfl) (by simp [leE, lk_cons]) (by decide) (by decide) rfl (by simp only [go_sem, Nat.reduceBEq, resQ_tmp, resQ_nil, retD_one]; try simp [R.val, retD_one, retD_two, retD_three, retD_none])
 ·replace h := brn_some h; rcases h with ⟨h3508, h⟩ | ⟨h3508, h⟩
  ·refine W_sound tab_ok mixed 33 _ _ _ ?_
   simp -implicitDefEqProofs only [go_sem, Nat.reduceBEq, Nat.reduceLT, ↓reduceIte, h3499, h3502, h3505, h3507, h3508]
   repeat with_reducible refine And.intro (by first | kernel_rfl | decide) ?_
   obtain rfl := Option.some.inj h
   exact finC [(6, .v (.int .i64 2))] [(6, .v (.int .i64 2))] (by simp [leE, lk_cons]) (.cons _ _ _ _ _ (.v _ _ (.refl _)) .nil) (by rfl) (by simp [leE, lk_cons]) (by decide) (by decide) rfl (by simp only [go_sem, Nat.reduceBEq, resQ_tmp, resQ_nil, retD_one]; try simp [R.val, retD_one, retD_two, retD_three, retD_none])
  ·replace h := brn_some h; rcases h with ⟨h3509, h⟩ | ⟨h3509, h⟩
   ·refine W_sound tab_ok mixed 33 _ _ _ ?_
    simp -implicitDefEqProofs only [go_sem, Nat.reduceBEq, Nat.reduceLT, ↓reduceIte, h3499, h3502, h3505, h3507, h3508, h3509]
    repeat with_reducible refine And.intro (by first | kernel_rfl | decide) ?_
    obtain rfl := Option.some.inj h
    exact finC [(6, .v (.int .i64 2))] [(6, .v (.int .i64 2))] (by simp [leE, lk_cons]) (.cons _ _ _ _ _ (.v _ _ (.refl _)) .nil) (by rfl) (by simp [leE, lk_cons]) (by decide) (by decide) rfl (by simp only [go_sem, Nat.reduceBEq, resQ_tmp, resQ_nil, retD_one]; try simp [R.val, retD_one, retD_two, retD_three, retD_none])
   ·replace h := bnd'_some h; obtain ⟨p3510, h3511, h⟩ := h
    refine W_sound tab_ok mixed 31 _ _ _ ?_
    simp -implicitDefEqProofs only [go_sem, Nat.reduceBEq, Nat.reduceLT, ↓reduceIte, h3499, h3502, h3505, h3507, h3508, h3509]
    repeat with_reducible refine And.intro (by first | kernel_rfl | decide) ?_
    refine Wp_callP (c57 N _ _ _ h3511) (by kernel_rfl) rfl rfl rfl rfl (by decide) ?_
    replace h := getB_some h; obtain ⟨b3513, h3512, h⟩ := h
    replace h := brn_some h; rcases h with ⟨h3514, h⟩ | ⟨h3514, h⟩
    ·refine W_sound tab_ok mixed 12 _ _ _ ?_
     simp -implicitDefEqProofs only [go_sem, Nat.reduceBEq, Nat.reduceLT, h3512, h3514]
     repeat with_reducible refine And.intro (by first | kernel_rfl | decide) ?_
     obtain rfl := Option.some.inj h
     exact finC [(6, .v (.int .i64 0))] [(6, .v (.int .i64 0))] (by simp [leE, lk_cons]) (.cons _ _ _ _ _ (.v _ _ (.refl _)) .nil) (by rfl) (by simp [leE, lk_cons]) (by decide) (by decide) rfl (by simp only [go_sem, Nat.reduceBEq, resQ_tmp, resQ_nil, retD_one]; try simp [R.val, retD_one, retD_two, retD_three, retD_none])
    ·refine W_sound tab_ok mixed 10 _ _ _ ?_
     simp -implicitDefEqProofs only [go_sem, Nat.reduceBEq, Nat.reduceLT, h3512, h3514]
     repeat with_reducible refine And.intro (by first | kernel_rfl | decide) ?_
     obtain rfl := Option.some.inj h
     exact finC [(6, .v (.int .i64 14))] [(6, .v (.int .i64 14))] (by simp [leE, lk_cons]) (.cons _ _ _ _ _ (.v _ _ (.refl _)) .nil) (by rfl) (by simp [leE, lk_cons]) (by decide) (by decide) rfl (by simp only [go_sem, Nat.reduceBEq, resQ_tmp, resQ_nil, retD_one]; try simp [R.val, retD_one, retD_two, retD_three, retD_none])
def m59_L0 (N : Nat) (n3566 : Nat) (c3567 : List PV) (n3569 : Nat) (c3570 : List PV) : Nat → Int → Option ((PV ⊕ Unit))
 | 0, _ => none
 | n + 1, x3572 =>
  brn (decide (x3572 < ((n3566 : Nat) : Int))) (
   grd (0 ≤ x3572 ∧ x3572 < ((n3566 : Nat) : Int)) <|
   grd (0 < List.length (List.drop (Int.toNat x3572) c3567)) <|
   getI .i64 (gp c3567 (Int.toNat x3572)) fun x3578 =>
   grd (x3572 < ((n3569 : Nat) : Int)) <|
   grd (0 < List.length (List.drop (Int.toNat x3572) c3570)) <|
   getI .i64 (gp c3570 (Int.toNat x3572)) fun x3582 =>
   brn (x3578 != x3582) (
    some (.inl (.bool false))) (
    m59_L0 N n3566 c3567 n3569 c3570 n (IntKind.i64.wrap (x3572 + 1)))) (
   some (.inr ()))
def m59 (N : Nat) (p3563 : PV) (p3564 : PV) : Option (PV) :=
 getL p3563 fun n3566 c3567 =>
 getL p3564 fun n3569 c3570 =>
 brn (((n3566 : Nat) : Int) != ((n3569 : Nat) : Int)) (
  some (.bool false)) (
  bnd' (m59_L0 N n3566 c3567 n3569 c3570 N 0) fun o =>
  match o with
  | .inl p3584 =>
   some p3584
  | .inr () =>
   some (.bool true))
theorem c59 (N : Nat) (p3563 : PV) (p3564 : PV) (r : PV)  (h : m59 N p3563 p3564 = some r) : FnP Tryd.prog 59 [p3563, p3564] r := by
 unfold m59 at h
 refine Fn_of (sz := 26) tab_ok [0, 1, 4, 5, 10, 12, 13, 14, 24] [.tmp 4] Tryd.func59 rfl rfl rfl (by simp) ?_
 simp only [initSt, initEnv, List.map_cons, List.map_nil, List.getD_cons_zero, List.getD_cons_succ, List.getD_nil]
 replace h := getL_some h; obtain ⟨n3566, c3567, h3565, h⟩ := h
 replace h := getL_some h; obtain ⟨n3569, c3570, h3568, h⟩ := h
 replace h := brn_some h; rcases h with ⟨h3571, h⟩ | ⟨h3571, h⟩
 ·refine W_sound tab_ok mixed 20 _ _ _ ?_
  simp -implicitDefEqProofs only [go_sem, Nat.reduceBEq, Nat.reduceLT, ↓reduceIte, h3565, h3568, h3571]
  repeat with_reducible refine And.intro (by first | kernel_rfl | decide) ?_
  obtain rfl := Option.some.inj h
  exact finC [(4, .v (.bool false))] [(4, .v (.bool false))] (by simp [leE, lk_cons]) (.cons _ _ _ _ _ (.v _ _ (.refl _)) .nil) (by rfl) (by simp [leE, lk_cons]) (by decide) (by decide) rfl (by simp only [go_sem, Nat.reduceBEq, resQ_tmp, resQ_nil, retD_one]; try simp [R.val, retD_one, retD_two, retD_three, retD_none])
 ·refine W_sound tab_ok mixed 22 _ _ _ ?_
  simp -implicitDefEqProofs only [go_sem, Nat.reduceBEq, Nat.reduceLT, ↓reduceIte, h3565, h3568, h3571]
  repeat with_reducible refine And.intro (by first | kernel_rfl | decide) ?_
  replace h := bnd'_some h; obtain ⟨o3585, h3586, h3587⟩ := h
  refine Wp_cut (fun s => (.inr ()) = o3585 ∧ s = ⟨[], [(0, .dead), (1, .dead), (4, .dead), (5, .dead), (10, .dead), (12, .dead), (13, .dead), (14, .dead), (24, .dead)], [], 0, []⟩) ?_ ?_
  ·refine Wp_block ?_
   refine Wp_loopG (fun n s => ∃ x3572, m59_L0 N n3566 c3567 n3569 c3570 n x3572 = some o3585 ∧ s = ⟨[], [(0, .v (.lst false n3566 c3567)), (1, .v (.lst false n3569 c3570)), (4, .dead), (5, .dead), (10, .dead), (12, .v (.int .i64 ((n3566 : Nat) : Int))), (13, .v (.int .i64 x3572)), (14, .dead), (24, .dead)], [], 0, []⟩) N _ ?_ ⟨_, h3586, rfl⟩ ?_
   ·exact Wk_keep [0, 1, 12, 13] (by kernel_rfl)
   clear h3586
   rintro n _ ⟨x3572, h3586, rfl⟩
   cases n with
   | zero => cases h3586
   | succ n =>
    rw [m59_L0] at h3586
    replace h3586 := brn_some h3586; rcases h3586 with ⟨h3573, h3586⟩ | ⟨h3573, h3586⟩
    ·replace h3586 := grd_some h3586; obtain ⟨⟨g3574, g3575⟩, h3586⟩ := h3586
     replace h3586 := grd_some h3586; obtain ⟨g3576, h3586⟩ := h3586
     replace h3586 := getI_some h3586; obtain ⟨x3578, h3577, h3586⟩ := h3586
     replace h3586 := grd_some h3586; obtain ⟨g3579, h3586⟩ := h3586
     replace h3586 := grd_some h3586; obtain ⟨g3580, h3586⟩ := h3586
     replace h3586 := getI_some h3586; obtain ⟨x3582, h3581, h3586⟩ := h3586
     replace h3586 := brn_some h3586; rcases h3586 with ⟨h3583, h3586⟩ | ⟨h3583, h3586⟩
     ·refine W_sound tab_ok mixed 33 _ _ _ ?_
      simp -implicitDefEqProofs only [go_sem, Nat.reduceBEq, Nat.reduceLT, ↓reduceIte, g3574, g3575, g3576, h3577, g3579, g3580, h3581, h3583]
      repeat with_reducible refine And.intro (by first | kernel_rfl | decide) ?_
      obtain rfl := Option.some.inj h3586
      (try dsimp only at h3587)
      obtain rfl := Option.some.inj h3587
      exact finC [(4, .v (.bool false))] [(4, .v (.bool false))] (by simp [leE, lk_cons]) (.cons _ _ _ _ _ (.v _ _ (.refl _)) .nil) (by rfl) (by simp [leE, lk_cons]) (by decide) (by decide) rfl (by simp only [go_sem, Nat.reduceBEq, resQ_tmp, resQ_nil, retD_one]; try simp [R.val, retD_one, retD_two, retD_three, retD_none])
     ·refine W_sound tab_ok mixed 33 _ _ _ ?_
      simp -implicitDefEqProofs only [go_sem, Nat.reduceBEq, Nat.reduceLT, Int.reduceLE, Int.reduceToNat, ↓reduceIte, g3574, g3575, g3576, h3577, g3579, g3580, h3581, h3583]
      repeat with_reducible refine And.intro (by first | kernel_rfl | decide) ?_
      refine cutQ _ ?_ ⟨n, Nat.lt_succ_self n, _, h3586, rfl⟩
      exact Wk_keep [0, 1, 12, 13] (by kernel_rfl)
    ·refine W_sound tab_ok mixed 7 _ _ _ ?_
     simp -implicitDefEqProofs only [go_sem, Nat.reduceBEq, Nat.reduceLT, ↓reduceIte, h3573]
     repeat with_reducible refine And.intro (by first | kernel_rfl | decide) ?_
     obtain rfl := Option.some.inj h3586
     refine cutQ _ ?_ ⟨rfl, rfl⟩
     exact Wk_keep [] (by kernel_rfl)
  ·rintro _ ⟨rfl, rfl⟩
   (try dsimp only at h3587)
   refine W_sound tab_ok mixed 6 _ _ _ ?_
   simp -implicitDefEqProofs only [go_sem, Nat.reduceBEq, Nat.reduceLT]
   repeat with_reducible refine And.intro (by first | kernel_rfl | decide) ?_
   obtain rfl := Option.some.inj h3587
   exact finC [(4, .v (.bool true))] [(4, .v (.bool true))] (by simp [leE, lk_cons]) (.cons _ _ _ _ _ (.v _ _ (.refl _)) .nil) (by rfl) (by simp [leE, lk_cons]) (by decide) (by decide) rfl (by simp only [go_sem, Nat.reduceBEq, resQ_tmp, resQ_nil, retD_one]; try simp [R.val, retD_one, retD_two, retD_three, retD_none])
def m58_3_L2 (N : Nat) (rec : PV → PV → Int → Int → PV → PV → Int → Int → Option ((PV × PV))) (x3910 : Int) (p3912 : PV) (x3913 : Int) (x3914 : Int) (n3917 : Nat) (c3918 : List PV) (n3920 : Nat) (c3921 : List PV) (n3926 : Nat) (c3927 : List PV) (x3986 : Int) (p3987 : PV) (n3993 : Nat) (c3994 : List PV) (x4012 : Int) (n4018 : Nat) (c4019 : List PV) : Nat → Bool → Int → Option (Bool)
 | 0, _, _ => none
 | n + 1, b4020, x4021 =>
  brn (decide (x4021 < ((n4018 : Nat) : Int))) (
   grd (0 ≤ x4021 ∧ x4021 < ((n4018 : Nat) : Int)) <|
   grd (0 < List.length (List.drop (Int.toNat x4021) c4019)) <|
   getI .i64 (gp c4019 (Int.toNat x4021)) fun x4027 =>
   brn b4020 (
    grd (x4021 < ((n3993 : Nat) : Int)) <|
    grd (0 < List.length (List.drop (Int.toNat x4021) c3994)) <|
    getI .i64 (gp c3994 (Int.toNat x4021)) fun x4032 =>
    m58_3_L2 N rec x3910 p3912 x3913 x3914 n3917 c3918 n3920 c3921 n3926 c3927 x3986 p3987 n3993 c3994 x4012 n4018 c4019 n (x4032 != x4027) (IntKind.i64.wrap (x4021 + 1))) (
    m58_3_L2 N rec x3910 p3912 x3913 x3914 n3917 c3918 n3920 c3921 n3926 c3927 x3986 p3987 n3993 c3994 x4012 n4018 c4019 n false (IntKind.i64.wrap (x4021 + 1)))) (
   some b4020)
def m58_3_L1 (N : Nat) (rec : PV → PV → Int → Int → PV → PV → Int → Int → Option ((PV × PV))) (x3910 : Int) (p3912 : PV) (x3913 : Int) (x3914 : Int) (n3917 : Nat) (c3918 : List PV) (n3920 : Nat) (c3921 : List PV) (n3926 : Nat) (c3927 : List PV) (x3986 : Int) (p3987 : PV) (n3993 : Nat) (c3994 : List PV) : Nat → Bool → Int → Option (Bool)
 | 0, _, _ => none
 | n + 1, b4011, x4012 =>
  brn (decide (x4012 < (((Int.toNat (((n3920 : Nat) : Int) - (IntKind.i64.wrap (((n3917 : Nat) : Int) + 1)))) : Nat) : Int))) (
   grd (0 ≤ x4012 ∧ x4012 < (((Int.toNat (((n3920 : Nat) : Int) - (IntKind.i64.wrap (((n3917 : Nat) : Int) + 1)))) : Nat) : Int)) <|
   grd (0 < List.length (List.drop (Int.toNat x4012) (List.drop (Int.toNat (IntKind.i64.wrap (((n3917 : Nat) : Int) + 1))) c3921))) <|
   getL (gp c3921 ((Int.toNat (IntKind.i64.wrap (((n3917 : Nat) : Int) + 1))) + (Int.toNat x4012))) fun n4018 c4019 =>
   bnd' (m58_3_L2 N rec x3910 p3912 x3913 x3914 n3917 c3918 n3920 c3921 n3926 c3927 x3986 p3987 n3993 c3994 x4012 n4018 c4019 N b4011 0) fun b4033 =>
   m58_3_L1 N rec x3910 p3912 x3913 x3914 n3917 c3918 n3920 c3921 n3926 c3927 x3986 p3987 n3993 c3994 n b4033 (IntKind.i64.wrap (x4012 + 1))) (
   some b4011)
def m58_3_L0 (N : Nat) (rec : PV → PV → Int → Int → PV → PV → Int → Int → Option ((PV × PV))) (x3910 : Int) (p3912 : PV) (x3913 : Int) (x3914 : Int) (n3917 : Nat) (c3918 : List PV) (n3920 : Nat) (c3921 : List PV) (n3926 : Nat) (c3927 : List PV) : Nat → Int → PV → Option (((PV × PV) ⊕ PV))
 | 0, _, _ => none
 | n + 1, x3986, p3987 =>
  brn (decide (x3986 < ((n3926 : Nat) : Int))) (
   grd (0 ≤ x3986 ∧ x3986 < ((n3926 : Nat) : Int)) <|
   grd (0 < List.length (List.drop (Int.toNat x3986) c3927)) <|
   getL (gp c3927 (Int.toNat x3986)) fun n3993 c3994 =>
   grd (0 ≤ x3910 ∧ x3910 ≤ ((n3993 : Nat) : Int)) <|
   grd (List.length c3994 = n3993) <|
   grd (0 ≤ ((n3917 : Nat) : Int) ∧ ((n3917 : Nat) : Int) < ((n3920 : Nat) : Int)) <|
   grd (0 < List.length (List.drop n3917 c3921)) <|
   getL (gp c3921 n3917) fun n4002 c4003 =>
   bnd' (m59 N (.lst false (Int.toNat x3910) (List.take (Int.toNat x3910) c3994)) (.lst false n4002 c4003)) fun p4004 =>
   getB p4004 fun b4007 =>
   grd (0 ≤ (IntKind.i64.wrap (((n3917 : Nat) : Int) + 1)) ∧ (IntKind.i64.wrap (((n3917 : Nat) : Int) + 1)) ≤ ((n3920 : Nat) : Int)) <|
   grd (List.length c3921 = n3920) <|
   bnd' (m58_3_L1 N rec x3910 p3912 x3913 x3914 n3917 c3918 n3920 c3921 n3926 c3927 x3986 p3987 n3993 c3994 N b4007 0) fun b4034 =>
   brn b4034 (
    grd (((n3917 : Nat) : Int) ≤ ((n3917 : Nat) : Int)) <|
    grd (List.length c3918 = n3917) <|
    grd ((n3917 + 1) ≤ 1099511627776) <|
    bnd' (rec (.lst false (n3917 + 1) (c3918 ++ [(.lst false n3993 c3994)])) p3912 x3913 x3914 p3987 p3912 x3913 x3914) fun (p4039, p4041) =>
    getB p4039 fun b4043 =>
    brn b4043 (
     some (.inl ((.bool true), p4041))) (
     m58_3_L0 N rec x3910 p3912 x3913 x3914 n3917 c3918 n3920 c3921 n3926 c3927 n (IntKind.i64.wrap (x3986 + 1)) p4041)) (
    m58_3_L0 N rec x3910 p3912 x3913 x3914 n3917 c3918 n3920 c3921 n3926 c3927 n (IntKind.i64.wrap (x3986 + 1)) p3987)) (
   some (.inr p3987))
def m58_3 (N : Nat) : Nat → PV → PV → Int → Int → PV → PV → Int → Int → Option ((PV × PV))
 | 0, _, _, _, _, _, _, _, _ => none
 | fu + 1, p3907, p3908, x3909, x3910, p3911, p3912, x3913, x3914 =>
  getL p3907 fun n3917 c3918 =>
  getL p3908 fun n3920 c3921 =>
  brn (((n3917 : Nat) : Int) == ((n3920 : Nat) : Int)) (
   some ((.bool true), (.lst false n3917 c3918))) (
   bnd' (m38 N x3909 (.lst false n3917 c3918)) fun p3923 =>
   getL p3923 fun n3926 c3927 =>
   bnd' (m58_3_L0 N (m58_3 N fu) x3910 p3912 x3913 x3914 n3917 c3918 n3920 c3921 n3926 c3927 N 0 p3911) fun o =>
   match o with
   | .inl p4045 =>
    some p4045
   | .inr p4046 =>
    some ((.bool false), p4046))
theorem c58_3 (N : Nat) : ∀ (fu : Nat) (p3907 : PV) (p3908 : PV) (x3909 : Int) (x3910 : Int) (p3911 : PV) (p3912 : PV) (x3913 : Int) (x3914 : Int) (r : PV) (p4048 : PV) (h : m58_3 N fu p3907 p3908 x3909 x3910 p3911 p3912 x3913 x3914 = some (r, p4048)), V.Fn Tryd.prog 58 2 [.v p3907, .v (.ipt [p3908]), .ptr 0 0, .v (.ipt [(.int .i64 x3909)]), .v (.ipt [(.int .i64 x3910)]), .ptr 1 0] [(0, .p [p3911]), (1, .r [.fn 58 [.v (.ipt [p3912]), .ptr 0 0, .v (.ipt [(.int .i64 x3913)]), .v (.ipt [(.int .i64 x3914)]), .ptr 1 0]])] (fun d ob' => d = .v r ∧ ob' = [(0, .p [p4048]), (1, .r [.fn 58 [.v (.ipt [p3912]), .ptr 0 0, .v (.ipt [(.int .i64 x3913)]), .v (.ipt [(.int .i64 x3914)]), .ptr 1 0]])]) := by
 intro fu
 induction fu with
 | zero => intro p3907 p3908 x3909 x3910 p3911 p3912 x3913 x3914 r p4048 h; cases h
 | succ fu ih =>
  intro p3907 p3908 x3909 x3910 p3911 p3912 x3913 x3914 r p4048 h
  rw [m58_3] at h
  refine Fn_of (sz := 81) tab_ok [0, 1, 2, 3, 4, 5, 7, 9, 10, 12, 13, 14, 19, 23, 24, 25, 26, 42, 43, 44, 45, 48, 49, 50, 51, 79] [.tmp 7] Tryd.func58 rfl rfl rfl (by simp) ?_
  simp only [initSt, initEnv, List.getD_cons_zero, List.getD_cons_succ, List.getD_nil]
  replace h := getL_some h; obtain ⟨n3917, c3918, h3916, h⟩ := h
  replace h := getL_some h; obtain ⟨n3920, c3921, h3919, h⟩ := h
  replace h := brn_some h; rcases h with ⟨h3922, h⟩ | ⟨h3922, h⟩
  ·refine W_sound tab_ok mixed 25 _ _ _ ?_
   simp -implicitDefEqProofs only [go_sem, Nat.reduceBEq, Nat.reduceLT, ↓reduceIte, h3916, h3919, h3922]
   repeat with_reducible refine And.intro (by first | kernel_rfl | decide) ?_
   simp only [Option.some.injEq, Prod.mk.injEq] at h; obtain ⟨rfl, rfl⟩ := h
   exact finD (st' := ⟨[], [(0, .dead), (1, .dead), (2, .dead), (3, .dead), (4, .dead), (5, .dead), (7, .v (.bool true)), (9, .dead), (10, .dead), (12, .dead), (13, .dead), (14, .dead), (19, .dead), (23, .dead), (24, .dead), (25, .dead), (26, .dead), (42, .dead), (43, .dead), (44, .dead), (45, .dead), (48, .dead), (49, .dead), (50, .dead), (51, .dead), (79, .dead)], [(0, .p [(.lst false n3917 c3918)]), (1, .r [.fn 58 [.v (.ipt [p3912]), .ptr 0 0, .v (.ipt [(.int .i64 x3913)]), .v (.ipt [(.int .i64 x3914)]), .ptr 1 0]])], 2, []⟩) (keepE_le [7] _) (OLe.refl _) (by kernel_rfl) (by simp only [go_sem, Nat.reduceBEq, resQ_tmp, resQ_nil, retD_one]; try simp [R.val, retD_one, retD_two, retD_three, retD_none])
  ·replace h := bnd'_some h; obtain ⟨p3923, h3924, h⟩ := h
   refine W_sound tab_ok mixed 20 _ _ _ ?_
   simp -implicitDefEqProofs only [go_sem, Nat.reduceBEq, Nat.reduceLT, ↓reduceIte, h3916, h3919, h3922]
   repeat with_reducible refine And.intro (by first | kernel_rfl | decide) ?_
   refine Wp_callP (c38 N _ _ _ h3924) (by kernel_rfl) rfl rfl rfl rfl (by decide) ?_
   replace h := getL_some h; obtain ⟨n3926, c3927, h3925, h⟩ := h
   refine W_sound tab_ok mixed 3 _ _ _ ?_
   simp -implicitDefEqProofs only [go_sem, Nat.reduceBEq, Nat.reduceLT, h3925]
   repeat with_reducible refine And.intro (by first | kernel_rfl | decide) ?_
   replace h := bnd'_some h; obtain ⟨o4049, h4050, h4051⟩ := h
   refine Wp_cut (fun s => ∃ p4046, (.inr p4046) = o4049 ∧ s = ⟨[], [(0, .dead), (1, .dead), (2, .dead), (3, .dead), (4, .dead), (5, .dead), (7, .dead), (9, .dead), (10, .dead), (12, .dead), (13, .dead), (14, .dead), (19, .dead), (23, .dead), (24, .dead), (25, .dead), (26, .dead), (42, .dead), (43, .dead), (44, .dead), (45, .dead), (48, .dead), (49, .dead), (50, .dead), (51, .dead), (79, .dead)], [(0, .p [p4046]), (1, .r [.fn 58 [.v (.ipt [p3912]), .ptr 0 0, .v (.ipt [(.int .i64 x3913)]), .v (.ipt [(.int .i64 x3914)]), .ptr 1 0]])], 2, []⟩) ?_ ?_
   ·refine Wp_block ?_
    refine Wp_loopG (fun n s => ∃ x3986, ∃ p3987, m58_3_L0 N (m58_3 N fu) x3910 p3912 x3913 x3914 n3917 c3918 n3920 c3921 n3926 c3927 n x3986 p3987 = some o4049 ∧ s = ⟨[], [(0, .v (.lst false n3917 c3918)), (1, .v (.ipt [(.lst false n3920 c3921)])), (2, .dead), (3, .dead), (4, .v (.ipt [(.int .i64 x3910)])), (5, .ptr 1 0), (7, .dead), (9, .dead), (10, .dead), (12, .dead), (13, .dead), (14, .dead), (19, .dead), (23, .v (.lst false n3926 c3927)), (24, .v (.int .i64 ((n3926 : Nat) : Int))), (25, .v (.int .i64 x3986)), (26, .dead), (42, .dead), (43, .dead), (44, .dead), (45, .dead), (48, .dead), (49, .dead), (50, .dead), (51, .dead), (79, .dead)], [(0, .p [p3987]), (1, .r [.fn 58 [.v (.ipt [p3912]), .ptr 0 0, .v (.ipt [(.int .i64 x3913)]), .v (.ipt [(.int .i64 x3914)]), .ptr 1 0]])], 2, []⟩) N _ ?_ ⟨_, _, h4050, rfl⟩ ?_
    ·exact Wk_keep [0, 1, 4, 5, 23, 24, 25] (by kernel_rfl)
    clear h4050
    rintro n _ ⟨x3986, p3987, h4050, rfl⟩
    cases n with
    | zero => cases h4050
    | succ n =>
     rw [m58_3_L0] at h4050
     replace h4050 := brn_some h4050; rcases h4050 with ⟨h3988, h4050⟩ | ⟨h3988, h4050⟩
     ·replace h4050 := grd_some h4050; obtain ⟨⟨g3989, g3990⟩, h4050⟩ := h4050
      replace h4050 := grd_some h4050; obtain ⟨g3991, h4050⟩ := h4050
      replace h4050 := getL_some h4050; obtain ⟨n3993, c3994, h3992, h4050⟩ := h4050
      replace h4050 := grd_some h4050; obtain ⟨⟨g3995, g3996⟩, h4050⟩ := h4050
      replace h4050 := grd_some h4050; obtain ⟨g3997, h4050⟩ := h4050
      replace h4050 := grd_some h4050; obtain ⟨⟨g3998, g3999⟩, h4050⟩ := h4050
      replace h4050 := grd_some h4050; obtain ⟨g4000, h4050⟩ := h4050
      replace h4050 := getL_some h4050; obtain ⟨n4002, c4003, h4001, h4050⟩ := h4050
      replace h4050 := bnd'_some h4050; obtain ⟨p4004, h4005, h4050⟩ := h4050
      refine W_sound tab_ok mixed 25 _ _ _ ?_
      simp -implicitDefEqProofs only [go_sem, Nat.reduceBEq, Nat.reduceLT, ↓reduceIte, g3989, g3990, g3991, h3992, g3995, g3996, g3997, g3998, g3999, g4000, h4001]
      repeat with_reducible refine And.intro (by first | kernel_rfl | decide) ?_
      refine Wp_callP (c59 N _ _ _ h4005) (by kernel_rfl) rfl rfl rfl rfl (by decide) ?_
      replace h4050 := getB_some h4050; obtain ⟨b4007, h4006, h4050⟩ := h4050
      replace h4050 := grd_some h4050; obtain ⟨⟨g4008, g4009⟩, h4050⟩ := h4050
      replace h4050 := grd_some h4050; obtain ⟨g4010, h4050⟩ := h4050
      refine W_sound tab_ok mixed 13 _ _ _ ?_
      simp -implicitDefEqProofs only [go_sem, Nat.reduceBEq, Nat.reduceLT, Int.reduceLE, Int.reduceToNat, ↓reduceIte, h4006, g4008, g4009, g4010]
      repeat with_reducible refine And.intro (by first | kernel_rfl | decide) ?_
      replace h4050 := bnd'_some h4050; obtain ⟨o4052, h4053, h4054⟩ := h4050
      refine Wp_cut (fun s => ∃ b4034, b4034 = o4052 ∧ s = ⟨[], [(0, .v (.lst false n3917 c3918)), (1, .v (.ipt [(.lst false n3920 c3921)])), (2, .dead), (3, .dead), (4, .v (.ipt [(.int .i64 x3910)])), (5, .ptr 1 0), (7, .dead), (9, .v (.lst false n3993 c3994)), (10, .v (.bool b4034)), (12, .dead), (13, .dead), (14, .dead), (19, .dead), (23, .v (.lst false n3926 c3927)), (24, .v (.int .i64 ((n3926 : Nat) : Int))), (25, .v (.int .i64 x3986)), (26, .dead), (42, .dead), (43, .dead), (44, .dead), (45, .dead), (48, .dead), (49, .dead), (50, .dead), (51, .dead), (79, .dead)], [(0, .p [p3987]), (1, .r [.fn 58 [.v (.ipt [p3912]), .ptr 0 0, .v (.ipt [(.int .i64 x3913)]), .v (.ipt [(.int .i64 x3914)]), .ptr 1 0]])], 2, []⟩) ?_ ?_
      ·refine Wp_block ?_
       refine Wp_loopG (fun n s => ∃ b4011, ∃ x4012, m58_3_L1 N (m58_3 N fu) x3910 p3912 x3913 x3914 n3917 c3918 n3920 c3921 n3926 c3927 x3986 p3987 n3993 c3994 n b4011 x4012 = some o4052 ∧ s = ⟨[], [(0, .v (.lst false n3917 c3918)), (1, .v (.ipt [(.lst false n3920 c3921)])), (2, .dead), (3, .dead), (4, .v (.ipt [(.int .i64 x3910)])), (5, .ptr 1 0), (7, .dead), (9, .v (.lst false n3993 c3994)), (10, .v (.bool b4011)), (12, .dead), (13, .dead), (14, .dead), (19, .dead), (23, .v (.lst false n3926 c3927)), (24, .v (.int .i64 ((n3926 : Nat) : Int))), (25, .v (.int .i64 x3986)), (26, .dead), (42, .v (.lst false (Int.toNat (((n3920 : Nat) : Int) - (IntKind.i64.wrap (((n3917 : Nat) : Int) + 1)))) (List.drop (Int.toNat (IntKind.i64.wrap (((n3917 : Nat) : Int) + 1))) c3921))), (43, .v (.int .i64 (((Int.toNat (((n3920 : Nat) : Int) - (IntKind.i64.wrap (((n3917 : Nat) : Int) + 1)))) : Nat) : Int))), (44, .v (.int .i64 x4012)), (45, .dead), (48, .dead), (49, .dead), (50, .dead), (51, .dead), (79, .dead)], [(0, .p [p3987]), (1, .r [.fn 58 [.v (.ipt [p3912]), .ptr 0 0, .v (.ipt [(.int .i64 x3913)]), .v (.ipt [(.int .i64 x3914)]), .ptr 1 0]])], 2, []⟩) N _ ?_ ⟨_, _, h4053, rfl⟩ ?_
       ·exact Wk_keep [0, 1, 4, 5, 9, 10, 23, 24, 25, 42, 43, 44] (by kernel_rfl)
       clear h4053
       rintro n _ ⟨b4011, x4012, h4053, rfl⟩
       cases n with
       | zero => cases h4053
       | succ n =>
        rw [m58_3_L1] at h4053
        replace h4053 := brn_some h4053; rcases h4053 with ⟨h4013, h4053⟩ | ⟨h4013, h4053⟩
        ·replace h4053 := grd_some h4053; obtain ⟨⟨g4014, g4015⟩, h4053⟩ := h4053
         replace h4053 := grd_some h4053; obtain ⟨g4016, h4053⟩ := h4053
         replace h4053 := getL_some h4053; obtain ⟨n4018, c4019, h4017, h4053⟩ := h4053
         refine W_sound tab_ok mixed 21 _ _ _ ?_
         simp -implicitDefEqProofs only [go_sem, Nat.reduceBEq, Nat.reduceLT, ↓reduceIte, g4014, g4015, g4016, h4017]
         repeat with_reducible refine And.intro (by first | kernel_rfl | decide) ?_
         replace h4053 := bnd'_some h4053; obtain ⟨o4055, h4056, h4057⟩ := h4053
         refine Wp_cut (fun s => ∃ b4033, b4033 = o4055 ∧ s = ⟨[], [(0, .v (.lst false n3917 c3918)), (1, .v (.ipt [(.lst false n3920 c3921)])), (2, .dead), (3, .dead), (4, .v (.ipt [(.int .i64 x3910)])), (5, .ptr 1 0), (7, .dead), (9, .v (.lst false n3993 c3994)), (10, .v (.bool b4033)), (12, .dead), (13, .dead), (14, .dead), (19, .dead), (23, .v (.lst false n3926 c3927)), (24, .v (.int .i64 ((n3926 : Nat) : Int))), (25, .v (.int .i64 x3986)), (26, .dead), (42, .v (.lst false (Int.toNat (((n3920 : Nat) : Int) - (IntKind.i64.wrap (((n3917 : Nat) : Int) + 1)))) (List.drop (Int.toNat (IntKind.i64.wrap (((n3917 : Nat) : Int) + 1))) c3921))), (43, .v (.int .i64 (((Int.toNat (((n3920 : Nat) : Int) - (IntKind.i64.wrap (((n3917 : Nat) : Int) + 1)))) : Nat) : Int))), (44, .v (.int .i64 x4012)), (45, .dead), (48, .dead), (49, .dead), (50, .dead), (51, .dead), (79, .dead)], [(0, .p [p3987]), (1, .r [.fn 58 [.v (.ipt [p3912]), .ptr 0 0, .v (.ipt [(.int .i64 x3913)]), .v (.ipt [(.int .i64 x3914)]), .ptr 1 0]])], 2, []⟩) ?_ ?_
         ·refine Wp_block ?_
          refine Wp_loopG (fun n s => ∃ b4020, ∃ x4021, m58_3_L2 N (m58_3 N fu) x3910 p3912 x3913 x3914 n3917 c3918 n3920 c3921 n3926 c3927 x3986 p3987 n3993 c3994 x4012 n4018 c4019 n b4020 x4021 = some o4055 ∧ s = ⟨[], [(0, .v (.lst false n3917 c3918)), (1, .v (.ipt [(.lst false n3920 c3921)])), (2, .dead), (3, .dead), (4, .v (.ipt [(.int .i64 x3910)])), (5, .ptr 1 0), (7, .dead), (9, .v (.lst false n3993 c3994)), (10, .v (.bool b4020)), (12, .dead), (13, .dead), (14, .dead), (19, .dead), (23, .v (.lst false n3926 c3927)), (24, .v (.int .i64 ((n3926 : Nat) : Int))), (25, .v (.int .i64 x3986)), (26, .dead), (42, .v (.lst false (Int.toNat (((n3920 : Nat) : Int) - (IntKind.i64.wrap (((n3917 : Nat) : Int) + 1)))) (List.drop (Int.toNat (IntKind.i64.wrap (((n3917 : Nat) : Int) + 1))) c3921))), (43, .v (.int .i64 (((Int.toNat (((n3920 : Nat) : Int) - (IntKind.i64.wrap (((n3917 : Nat) : Int) + 1)))) : Nat) : Int))), (44, .v (.int .i64 x4012)), (45, .dead), (48, .v (.lst false n4018 c4019)), (49, .v (.int .i64 ((n4018 : Nat) : Int))), (50, .v (.int .i64 x4021)), (51, .dead), (79, .dead)], [(0, .p [p3987]), (1, .r [.fn 58 [.v (.ipt [p3912]), .ptr 0 0, .v (.ipt [(.int .i64 x3913)]), .v (.ipt [(.int .i64 x3914)]), .ptr 1 0]])], 2, []⟩) N _ ?_ ⟨_, _, h4056, rfl⟩ ?_
          ·exact Wk_keep [0, 1, 4, 5, 9, 10, 23, 24, 25, 42, 43, 44, 48, 49, 50] (by kernel_rfl)
          clear h4056
          rintro n _ ⟨b4020, x4021, h4056, rfl⟩
          cases n with
          | zero => cases h4056
          | succ n =>
           rw [m58_3_L2] at h4056
           replace h4056 := brn_some h4056; rcases h4056 with ⟨h4022, h4056⟩ | ⟨h4022, h4056⟩
           ·replace h4056 := grd_some h4056; obtain ⟨⟨g4023, g4024⟩, h4056⟩ := h4056
            replace h4056 := grd_some h4056; obtain ⟨g4025, h4056⟩ := h4056
            replace h4056 := getI_some h4056; obtain ⟨x4027, h4026, h4056⟩ := h4056
            replace h4056 := brn_some h4056; rcases h4056 with ⟨h4028, h4056⟩ | ⟨h4028, h4056⟩
            ·replace h4056 := grd_some h4056; obtain ⟨g4029, h4056⟩ := h4056
             replace h4056 := grd_some h4056; obtain ⟨g4030, h4056⟩ := h4056
             replace h4056 := getI_some h4056; obtain ⟨x4032, h4031, h4056⟩ := h4056
             refine W_sound tab_ok mixed 34 _ _ _ ?_
             simp -implicitDefEqProofs only [go_sem, Nat.reduceBEq, Nat.reduceLT, Int.reduceLE, Int.reduceToNat, ↓reduceIte, g4023, g4024, g4025, h4026, h4028, g4029, g4030, h4031]
             repeat with_reducible refine And.intro (by first | kernel_rfl | decide) ?_
             refine cutQ _ ?_ ⟨n, Nat.lt_succ_self n, _, _, h4056, rfl⟩
             exact Wk_keep [0, 1, 4, 5, 9, 10, 23, 24, 25, 42, 43, 44, 48, 49, 50] (by kernel_rfl)
            ·refine W_sound tab_ok mixed 34 _ _ _ ?_
             simp -implicitDefEqProofs only [go_sem, Nat.reduceBEq, Nat.reduceLT, Int.reduceLE, Int.reduceToNat, ↓reduceIte, g4023, g4024, g4025, h4026, h4028]
             repeat with_reducible refine And.intro (by first | kernel_rfl | decide) ?_
             refine cutQ _ ?_ ⟨n, Nat.lt_succ_self n, _, _, h4056, rfl⟩
             exact Wk_keep [0, 1, 4, 5, 9, 10, 23, 24, 25, 42, 43, 44, 48, 49, 50] (by kernel_rfl)
           ·refine W_sound tab_ok mixed 7 _ _ _ ?_
            simp -implicitDefEqProofs only [go_sem, Nat.reduceBEq, Nat.reduceLT, ↓reduceIte, h4022]
            repeat with_reducible refine And.intro (by first | kernel_rfl | decide) ?_
            obtain rfl := Option.some.inj h4056
            refine cutQ _ ?_ ⟨_, rfl, rfl⟩
            exact Wk_keep [0, 1, 4, 5, 9, 10, 23, 24, 25, 42, 43, 44] (by kernel_rfl)
         ·rintro _ ⟨b4033, rfl, rfl⟩
          refine W_sound tab_ok mixed 5 _ _ _ ?_
          simp -implicitDefEqProofs only [go_sem, Nat.reduceBEq, Nat.reduceLT, Int.reduceLE, Int.reduceToNat, ↓reduceIte]
          repeat with_reducible refine And.intro (by first | kernel_rfl | decide) ?_
          refine cutQ _ ?_ ⟨n, Nat.lt_succ_self n, _, _, h4057, rfl⟩
          exact Wk_keep [0, 1, 4, 5, 9, 10, 23, 24, 25, 42, 43, 44] (by kernel_rfl)
        ·refine W_sound tab_ok mixed 7 _ _ _ ?_
         simp -implicitDefEqProofs only [go_sem, Nat.reduceBEq, Nat.reduceLT, ↓reduceIte, h4013]
         repeat with_reducible refine And.intro (by first | kernel_rfl | decide) ?_
         obtain rfl := Option.some.inj h4053
         refine cutQ _ ?_ ⟨_, rfl, rfl⟩
         exact Wk_keep [0, 1, 4, 5, 9, 10, 23, 24, 25] (by kernel_rfl)
      ·rintro _ ⟨b4034, rfl, rfl⟩
       replace h4054 := brn_some h4054; rcases h4054 with ⟨h4035, h4054⟩ | ⟨h4035, h4054⟩
       ·replace h4054 := grd_some h4054; obtain ⟨g4036, h4054⟩ := h4054
        replace h4054 := grd_some h4054; obtain ⟨g4037, h4054⟩ := h4054
        replace h4054 := grd_some h4054; obtain ⟨g4038, h4054⟩ := h4054
        replace h4054 := bnd'_some h4054; obtain ⟨⟨p4039, p4041⟩, h4040, h4054⟩ := h4054
        (try dsimp only at h4054)
        refine W_sound tab_ok mixed 14 _ _ _ ?_
        simp -implicitDefEqProofs only [go_sem, Nat.reduceBEq, Nat.reduceAdd, Nat.reduceLT, Nat.reduceLeDiff, g3998, h4035, g4036, g4037, g4038]
        repeat with_reducible refine And.intro (by first | kernel_rfl | decide) ?_
        refine Wp_callDF [(79, (c3918 ++ [(.lst false n3993 c3994)]))] [0, 1] (ih _ _ _ _ _ _ _ _ _ _ h4040) rfl rfl rfl (by first | rfl | (simp only [go_sem, Nat.reduceBEq, g4037] <;> rfl)) rfl (by kernel_rfl) rfl rfl (by simp [roF, obL]) ?_
        replace h4054 := getB_some h4054; obtain ⟨b4043, h4042, h4054⟩ := h4054
        replace h4054 := brn_some h4054; rcases h4054 with ⟨h4044, h4054⟩ | ⟨h4044, h4054⟩
        ·refine W_sound tab_ok mixed 9 _ _ _ ?_
         simp -implicitDefEqProofs only [go_sem, Nat.reduceBEq, Nat.reduceAdd, Nat.reduceSub, Nat.reduceMul, Nat.reduceLT, Nat.reduceLeDiff, h4042, h4044]
         repeat with_reducible refine And.intro (by first | kernel_rfl | decide) ?_
         obtain rfl := Option.some.inj h4054
         (try dsimp only at h4051)
         simp only [Option.some.injEq, Prod.mk.injEq] at h4051; obtain ⟨rfl, rfl⟩ := h4051
         exact finD (st' := ⟨[], [(0, .dead), (1, .dead), (2, .dead), (3, .dead), (4, .dead), (5, .dead), (7, .v (.bool true)), (9, .dead), (10, .dead), (12, .dead), (13, .dead), (14, .dead), (19, .dead), (23, .dead), (24, .dead), (25, .dead), (26, .dead), (42, .dead), (43, .dead), (44, .dead), (45, .dead), (48, .dead), (49, .dead), (50, .dead), (51, .dead), (79, .dead)], [(0, .p [p4041]), (1, .r [.fn 58 [.v (.ipt [p3912]), .ptr 0 0, .v (.ipt [(.int .i64 x3913)]), .v (.ipt [(.int .i64 x3914)]), .ptr 1 0]])], 2, []⟩) (keepE_le [7] _) (OLe.refl _) (by kernel_rfl) (by simp only [go_sem, Nat.reduceBEq, resQ_tmp, resQ_nil, retD_one]; try simp [R.val, retD_one, retD_two, retD_three, retD_none])
        ·refine W_sound tab_ok mixed 9 _ _ _ ?_
         simp -implicitDefEqProofs only [go_sem, Nat.reduceBEq, Nat.reduceAdd, Nat.reduceSub, Nat.reduceMul, Nat.reduceLT, Nat.reduceLeDiff, Int.reduceLE, Int.reduceToNat, ↓reduceIte, h4042, h4044]
         repeat with_reducible refine And.intro (by first | kernel_rfl | decide) ?_
         refine cutQ _ ?_ ⟨n, Nat.lt_succ_self n, _, _, h4054, rfl⟩
         exact Wk_keep [0, 1, 4, 5, 23, 24, 25] (by kernel_rfl)
       ·refine W_sound tab_ok mixed 24 _ _ _ ?_
        simp -implicitDefEqProofs only [go_sem, Nat.reduceBEq, Nat.reduceLT, Int.reduceLE, Int.reduceToNat, ↓reduceIte, h4035]
        repeat with_reducible refine And.intro (by first | kernel_rfl | decide) ?_
        refine cutQ _ ?_ ⟨n, Nat.lt_succ_self n, _, _, h4054, rfl⟩
        exact Wk_keep [0, 1, 4, 5, 23, 24, 25] (by kernel_rfl)
     ·refine W_sound tab_ok mixed 7 _ _ _ ?_
      simp -implicitDefEqProofs only [go_sem, Nat.reduceBEq, Nat.reduceLT, ↓reduceIte, h3988]
      repeat with_reducible refine And.intro (by first | kernel_rfl | decide) ?_
      obtain rfl := Option.some.inj h4050
      refine cutQ _ ?_ ⟨_, rfl, rfl⟩
      exact Wk_keep [] (by kernel_rfl)
   ·rintro _ ⟨p4046, rfl, rfl⟩
    (try dsimp only at h4051)
    refine W_sound tab_ok mixed 6 _ _ _ ?_
    simp -implicitDefEqProofs only [go_sem, Nat.reduceBEq, Nat.reduceLT]
    repeat with_reducible refine And.intro (by first | kernel_rfl | decide) ?_
    simp only [Option.some.injEq, Prod.mk.injEq] at h4051; obtain ⟨rfl, rfl⟩ := h4051
    exact finD (st' := ⟨[], [(0, .dead), (1, .dead), (2, .dead), (3, .dead), (4, .dead), (5, .dead), (7, .v (.bool false)), (9, .dead), (10, .dead), (12, .dead), (13, .dead), (14, .dead), (19, .dead), (23, .dead), (24, .dead), (25, .dead), (26, .dead), (42, .dead), (43, .dead), (44, .dead), (45, .dead), (48, .dead), (49, .dead), (50, .dead), (51, .dead), (79, .dead)], [(0, .p [p4046]), (1, .r [.fn 58 [.v (.ipt [p3912]), .ptr 0 0, .v (.ipt [(.int .i64 x3913)]), .v (.ipt [(.int .i64 x3914)]), .ptr 1 0]])], 2, []⟩) (keepE_le [7] _) (OLe.refl _) (by kernel_rfl) (by simp only [go_sem, Nat.reduceBEq, resQ_tmp, resQ_nil, retD_one]; try simp [R.val, retD_one, retD_two, retD_three, retD_none])
def m58_L2 (N : Nat) (x4142 : Int) (p4143 : PV) (x4144 : Int) (x4145 : Int) (n4148 : Nat) (c4149 : List PV) (n4154 : Nat) (c4155 : List PV) (x4209 : Int) (p4210 : PV) (n4216 : Nat) (c4217 : List PV) (x4233 : Int) (n4239 : Nat) (c4240 : List PV) : Nat → Bool → Int → Option (Bool)
 | 0, _, _ => none
 | n + 1, b4241, x4242 =>
  brn (decide (x4242 < ((n4239 : Nat) : Int))) (
   grd (0 ≤ x4242 ∧ x4242 < ((n4239 : Nat) : Int)) <|
   grd (0 < List.length (List.drop (Int.toNat x4242) c4240)) <|
   getI .i64 (gp c4240 (Int.toNat x4242)) fun x4248 =>
   brn b4241 (
    grd (x4242 < ((n4216 : Nat) : Int)) <|
    grd (0 < List.length (List.drop (Int.toNat x4242) c4217)) <|
    getI .i64 (gp c4217 (Int.toNat x4242)) fun x4253 =>
    m58_L2 N x4142 p4143 x4144 x4145 n4148 c4149 n4154 c4155 x4209 p4210 n4216 c4217 x4233 n4239 c4240 n (x4253 != x4248) (IntKind.i64.wrap (x4242 + 1))) (
    m58_L2 N x4142 p4143 x4144 x4145 n4148 c4149 n4154 c4155 x4209 p4210 n4216 c4217 x4233 n4239 c4240 n false (IntKind.i64.wrap (x4242 + 1)))) (
   some b4241)
def m58_L1 (N : Nat) (x4142 : Int) (p4143 : PV) (x4144 : Int) (x4145 : Int) (n4148 : Nat) (c4149 : List PV) (n4154 : Nat) (c4155 : List PV) (x4209 : Int) (p4210 : PV) (n4216 : Nat) (c4217 : List PV) : Nat → Bool → Int → Option (Bool)
 | 0, _, _ => none
 | n + 1, b4232, x4233 =>
  brn (decide (x4233 < (((Int.toNat (((n4148 : Nat) : Int) - 1)) : Nat) : Int))) (
   grd (0 ≤ x4233 ∧ x4233 < (((Int.toNat (((n4148 : Nat) : Int) - 1)) : Nat) : Int)) <|
   grd (0 < List.length (List.drop (Int.toNat x4233) (List.drop 1 c4149))) <|
   getL (gp c4149 (1 + (Int.toNat x4233))) fun n4239 c4240 =>
   bnd' (m58_L2 N x4142 p4143 x4144 x4145 n4148 c4149 n4154 c4155 x4209 p4210 n4216 c4217 x4233 n4239 c4240 N b4232 0) fun b4254 =>
   m58_L1 N x4142 p4143 x4144 x4145 n4148 c4149 n4154 c4155 x4209 p4210 n4216 c4217 n b4254 (IntKind.i64.wrap (x4233 + 1))) (
   some b4232)
def m58_L0 (N : Nat) (x4142 : Int) (p4143 : PV) (x4144 : Int) (x4145 : Int) (n4148 : Nat) (c4149 : List PV) (n4154 : Nat) (c4155 : List PV) : Nat → Int → PV → Option (((PV × PV) ⊕ PV))
 | 0, _, _ => none
 | n + 1, x4209, p4210 =>
  brn (decide (x4209 < ((n4154 : Nat) : Int))) (
   grd (0 ≤ x4209 ∧ x4209 < ((n4154 : Nat) : Int)) <|
   grd (0 < List.length (List.drop (Int.toNat x4209) c4155)) <|
   getL (gp c4155 (Int.toNat x4209)) fun n4216 c4217 =>
   grd (0 ≤ x4142 ∧ x4142 ≤ ((n4216 : Nat) : Int)) <|
   grd (List.length c4217 = n4216) <|
   grd (0 < ((n4148 : Nat) : Int)) <|
   grd (0 < List.length c4149) <|
   getL (gp c4149 0) fun n4224 c4225 =>
   bnd' (m59 N (.lst false (Int.toNat x4142) (List.take (Int.toNat x4142) c4217)) (.lst false n4224 c4225)) fun p4226 =>
   getB p4226 fun b4229 =>
   grd (1 ≤ ((n4148 : Nat) : Int)) <|
   grd (List.length c4149 = n4148) <|
   bnd' (m58_L1 N x4142 p4143 x4144 x4145 n4148 c4149 n4154 c4155 x4209 p4210 n4216 c4217 N b4229 0) fun b4255 =>
   brn b4255 (
    bnd' (m58_3 N N (.lst false 1 [(.lst false n4216 c4217)]) p4143 x4144 x4145 p4210 p4143 x4144 x4145) fun (p4257, p4259) =>
    getB p4257 fun b4261 =>
    brn b4261 (
     some (.inl ((.bool true), p4259))) (
     m58_L0 N x4142 p4143 x4144 x4145 n4148 c4149 n4154 c4155 n (IntKind.i64.wrap (x4209 + 1)) p4259)) (
    m58_L0 N x4142 p4143 x4144 x4145 n4148 c4149 n4154 c4155 n (IntKind.i64.wrap (x4209 + 1)) p4210)) (
   some (.inr p4210))
def m58 (N : Nat) (p4140 : PV) (x4141 : Int) (x4142 : Int) (p4143 : PV) (x4144 : Int) (x4145 : Int) : Option ((PV × PV)) :=
 getL p4140 fun n4148 c4149 =>
 brn (0 == ((n4148 : Nat) : Int)) (
  some ((.bool true), (.lst false 0 []))) (
  bnd' (m38 N x4141 (.lst false 0 [])) fun p4151 =>
  getL p4151 fun n4154 c4155 =>
  bnd' (m58_L0 N x4142 p4143 x4144 x4145 n4148 c4149 n4154 c4155 N 0 (.lst false 0 [])) fun o =>
  match o with
  | .inl p4263 =>
   some p4263
  | .inr p4264 =>
   some ((.bool false), p4264))
theorem c58 (N : Nat) (p4140 : PV) (x4141 : Int) (x4142 : Int) (p4143 : PV) (x4144 : Int) (x4145 : Int) (r : PV) (p4266 : PV) (h : m58 N p4140 x4141 x4142 p4143 x4144 x4145 = some (r, p4266)) : V.Fn Tryd.prog 58 2 [.v .nl, .v (.ipt [p4140]), .ptr 0 0, .v (.ipt [(.int .i64 x4141)]), .v (.ipt [(.int .i64 x4142)]), .ptr 1 0] [(0, .p [.nl]), (1, .r [.fn 58 [.v (.ipt [p4143]), .ptr 0 0, .v (.ipt [(.int .i64 x4144)]), .v (.ipt [(.int .i64 x4145)]), .ptr 1 0]])] (fun d ob' => d = .v r ∧ ob' = [(0, .p [p4266]), (1, .r [.fn 58 [.v (.ipt [p4143]), .ptr 0 0, .v (.ipt [(.int .i64 x4144)]), .v (.ipt [(.int .i64 x4145)]), .ptr 1 0]])]) := by
 unfold m58 at h
 refine Fn_of (sz := 81) tab_ok [0, 1, 2, 3, 4, 5, 7, 9, 10, 12, 13, 14, 19, 23, 24, 25, 26, 42, 43, 44, 45, 48, 49, 50, 51, 79] [.tmp 7] Tryd.func58 rfl rfl rfl (by simp) ?_
 simp only [initSt, initEnv, List.getD_cons_zero, List.getD_cons_succ, List.getD_nil]
 replace h := getL_some h; obtain ⟨n4148, c4149, h4147, h⟩ := h
 replace h := brn_some h; rcases h with ⟨h4150, h⟩ | ⟨h4150, h⟩
 ·refine W_sound tab_ok mixed 25 _ _ _ ?_
  simp -implicitDefEqProofs only [go_sem, Nat.reduceBEq, Nat.reduceLT, ↓reduceIte, h4147, h4150]
  repeat with_reducible refine And.intro (by first | kernel_rfl | decide) ?_
  simp only [Option.some.injEq, Prod.mk.injEq] at h; obtain ⟨rfl, rfl⟩ := h
  exact finD (e2 := [(0, .dead), (1, .dead), (2, .dead), (3, .dead), (4, .dead), (5, .dead), (7, .v (.bool true)), (9, .dead), (10, .dead), (12, .dead), (13, .dead), (14, .dead), (19, .dead), (23, .dead), (24, .dead), (25, .dead), (26, .dead), (42, .dead), (43, .dead), (44, .dead), (45, .dead), (48, .dead), (49, .dead), (50, .dead), (51, .dead), (79, .dead)]) (ob2 := [(0, .p [(.lst false 0 [])]), (1, .r [.fn 58 [.v (.ipt [p4143]), .ptr 0 0, .v (.ipt [(.int .i64 x4144)]), .v (.ipt [(.int .i64 x4145)]), .ptr 1 0]])]) (st' := ⟨[], [(0, .dead), (1, .dead), (2, .dead), (3, .dead), (4, .dead), (5, .dead), (7, .v (.bool true)), (9, .dead), (10, .dead), (12, .dead), (13, .dead), (14, .dead), (19, .dead), (23, .dead), (24, .dead), (25, .dead), (26, .dead), (42, .dead), (43, .dead), (44, .dead), (45, .dead), (48, .dead), (49, .dead), (50, .dead), (51, .dead), (79, .dead)], [(0, .p [(.lst false 0 [])]), (1, .r [.fn 58 [.v (.ipt [p4143]), .ptr 0 0, .v (.ipt [(.int .i64 x4144)]), .v (.ipt [(.int .i64 x4145)]), .ptr 1 0]])], 2, []⟩) (.cons _ _ _ _ _ (.dead _) (.cons _ _ _ _ _ (.dead _) (.cons _ _ _ _ _ (.dead _) (.cons _ _ _ _ _ (.dead _) (.cons _ _ _ _ _ (.dead _) (.cons _ _ _ _ _ (.dead _) (.cons _ _ _ _ _ (.refl _) (.cons _ _ _ _ _ (.refl _) (.cons _ _ _ _ _ (.refl _) (.cons _ _ _ _ _ (.refl _) (.cons _ _ _ _ _ (.refl _) (.cons _ _ _ _ _ (.refl _) (.cons _ _ _ _ _ (.dead _) (.cons _ _ _ _ _ (.refl _) (.cons _ _ _ _ _ (.refl _) (.cons _ _ _ _ _ (.refl _) (.cons _ _ _ _ _ (.refl _) (.cons _ _ _ _ _ (.refl _) (.cons _ _ _ _ _ (.refl _) (.cons _ _ _ _ _ (.refl _) (.cons _ _ _ _ _ (.refl _) (.cons _ _ _ _ _ (.refl _) (.cons _ _ _ _ _ (.refl _) (.cons _ _ _ _ _ (.refl _) (.cons _ _ _ _ _ (.refl _) (.cons _ _ _ _ _ (.refl _) .nil)))))))))))))))))))))))))) (.cons _ (.p _) (.p _) _ _ (DLes.of_p (.cons _ _ _ _ (.nl false) .nil)) (.cons _ _ _ _ _ (DLes.refl _) .nil)) (by kernel_rfl) (by simp only [go_sem, Nat.reduceBEq, resQ_tmp, resQ_nil, retD_one]; try simp [R.val, retD_one, retD_two, retD_three, retD_none])
 ·replace h := bnd'_some h; obtain ⟨p4151, h4152, h⟩ := h
  refine W_sound tab_ok mixed 20 _ _ _ ?_
  simp -implicitDefEqProofs only [go_sem, Nat.reduceBEq, Nat.reduceLT, ↓reduceIte, h4147, h4150]
  repeat with_reducible refine And.intro (by first | kernel_rfl | decide) ?_
  refine Wp_callP (FnP_le (c38 N _ _ _ h4152) (.cons _ _ _ _ (.refl _) (.cons _ _ _ _ (.nl false) .nil)) (.refl _)) (by kernel_rfl) rfl rfl rfl rfl (by decide) ?_
  replace h := getL_some h; obtain ⟨n4154, c4155, h4153, h⟩ := h
  refine W_sound tab_ok mixed 3 _ _ _ ?_
  simp -implicitDefEqProofs only [go_sem, Nat.reduceBEq, Nat.reduceLT, h4153]
  repeat with_reducible refine And.intro (by first | kernel_rfl | decide) ?_
  replace h := bnd'_some h; obtain ⟨o4267, h4268, h4269⟩ := h
  refine Wp_cut (fun s => ∃ p4264, (.inr p4264) = o4267 ∧ s = ⟨[], [(0, .dead), (1, .dead), (2, .dead), (3, .dead), (4, .dead), (5, .dead), (7, .dead), (9, .dead), (10, .dead), (12, .dead), (13, .dead), (14, .dead), (19, .dead), (23, .dead), (24, .dead), (25, .dead), (26, .dead), (42, .dead), (43, .dead), (44, .dead), (45, .dead), (48, .dead), (49, .dead), (50, .dead), (51, .dead), (79, .dead)], [(0, .p [p4264]), (1, .r [.fn 58 [.v (.ipt [p4143]), .ptr 0 0, .v (.ipt [(.int .i64 x4144)]), .v (.ipt [(.int .i64 x4145)]), .ptr 1 0]])], 2, []⟩) ?_ ?_
  ·refine Wp_block ?_
   refine Wp_loopG (fun n s => ∃ x4209, ∃ p4210, m58_L0 N x4142 p4143 x4144 x4145 n4148 c4149 n4154 c4155 n x4209 p4210 = some o4267 ∧ s = ⟨[], [(0, .v .nl), (1, .v (.ipt [(.lst false n4148 c4149)])), (2, .dead), (3, .dead), (4, .v (.ipt [(.int .i64 x4142)])), (5, .ptr 1 0), (7, .dead), (9, .dead), (10, .dead), (12, .dead), (13, .dead), (14, .dead), (19, .dead), (23, .v (.lst false n4154 c4155)), (24, .v (.int .i64 ((n4154 : Nat) : Int))), (25, .v (.int .i64 x4209)), (26, .dead), (42, .dead), (43, .dead), (44, .dead), (45, .dead), (48, .dead), (49, .dead), (50, .dead), (51, .dead), (79, .dead)], [(0, .p [p4210]), (1, .r [.fn 58 [.v (.ipt [p4143]), .ptr 0 0, .v (.ipt [(.int .i64 x4144)]), .v (.ipt [(.int .i64 x4145)]), .ptr 1 0]])], 2, []⟩) N _ ((Wk_le (.cons _ _ _ _ _ (.refl _) (.cons _ _ _ _ _ (.refl _) (.cons _ _ _ _ _ (.dead _) (.cons _ _ _ _ _ (.dead _) (.cons _ _ _ _ _ (.refl _) (.cons _ _ _ _ _ (.refl _) (.cons _ _ _ _ _ (.dead _) (.cons _ _ _ _ _ (.refl _) (.cons _ _ _ _ _ (.refl _) (.cons _ _ _ _ _ (.refl _) (.cons _ _ _ _ _ (.refl _) (.cons _ _ _ _ _ (.refl _) (.cons _ _ _ _ _ (.dead _) (.cons _ _ _ _ _ (.refl _) (.cons _ _ _ _ _ (.refl _) (.cons _ _ _ _ _ (.refl _) (.cons _ _ _ _ _ (.refl _) (.cons _ _ _ _ _ (.refl _) (.cons _ _ _ _ _ (.refl _) (.cons _ _ _ _ _ (.refl _) (.cons _ _ _ _ _ (.refl _) (.cons _ _ _ _ _ (.refl _) (.cons _ _ _ _ _ (.refl _) (.cons _ _ _ _ _ (.refl _) (.cons _ _ _ _ _ (.refl _) (.cons _ _ _ _ _ (.refl _) .nil)))))))))))))))))))))))))) (.cons _ (.p _) (.p _) _ _ (DLes.of_p (.cons _ _ _ _ (.nl false) .nil)) (.cons _ _ _ _ _ (DLes.refl _) .nil))).trans (cmpS_ok (st' := ⟨[], [(0, .v .nl), (1, .v (.ipt [(.lst false n4148 c4149)])), (2, .dead), (3, .dead), (4, .v (.ipt [(.int .i64 x4142)])), (5, .ptr 1 0), (7, .dead), (9, .dead), (10, .dead), (12, .dead), (13, .dead), (14, .dead), (19, .dead), (23, .v (.lst false n4154 c4155)), (24, .v (.int .i64 ((n4154 : Nat) : Int))), (25, .v (.int .i64 0)), (26, .dead), (42, .dead), (43, .dead), (44, .dead), (45, .dead), (48, .dead), (49, .dead), (50, .dead), (51, .dead), (79, .dead)], [(0, .p [(.lst false 0 [])]), (1, .r [.fn 58 [.v (.ipt [p4143]), .ptr 0 0, .v (.ipt [(.int .i64 x4144)]), .v (.ipt [(.int .i64 x4145)]), .ptr 1 0]])], 2, []⟩) (by kernel_rfl))) ⟨_, _, h4268, rfl⟩ ?_
   clear h4268
   rintro n _ ⟨x4209, p4210, h4268, rfl⟩
   cases n with
   | zero => cases h4268
   | succ n =>
    rw [m58_L0] at h4268
    replace h4268 := brn_some h4268; rcases h4268 with ⟨h4211, h4268⟩ | ⟨h4211, h4268⟩
    ·replace h4268 := grd_some h4268; obtain ⟨⟨g4212, g4213⟩, h4268⟩ := h4268
     replace h4268 := grd_some h4268; obtain ⟨g4214, h4268⟩ := h4268
     replace h4268 := getL_some h4268; obtain ⟨n4216, c4217, h4215, h4268⟩ := h4268
     replace h4268 := grd_some h4268; obtain ⟨⟨g4218, g4219⟩, h4268⟩ := h4268
     replace h4268 := grd_some h4268; obtain ⟨g4220, h4268⟩ := h4268
     replace h4268 := grd_some h4268; obtain ⟨g4221, h4268⟩ := h4268
     replace h4268 := grd_some h4268; obtain ⟨g4222, h4268⟩ := h4268
     replace h4268 := getL_some h4268; obtain ⟨n4224, c4225, h4223, h4268⟩ := h4268
     replace h4268 := bnd'_some h4268; obtain ⟨p4226, h4227, h4268⟩ := h4268
     refine W_sound tab_ok mixed 25 _ _ _ ?_
     simp -implicitDefEqProofs only [go_sem, Nat.reduceBEq, Nat.reduceLT, ↓reduceIte, g4212, g4213, g4214, h4215, g4218, g4219, g4220, g4221, g4222, h4223]
     repeat with_reducible refine And.intro (by first | kernel_rfl | decide) ?_
     refine Wp_callP (c59 N _ _ _ h4227) (by kernel_rfl) rfl rfl rfl rfl (by decide) ?_
     replace h4268 := getB_some h4268; obtain ⟨b4229, h4228, h4268⟩ := h4268
     replace h4268 := grd_some h4268; obtain ⟨g4230, h4268⟩ := h4268
     replace h4268 := grd_some h4268; obtain ⟨g4231, h4268⟩ := h4268
     refine W_sound tab_ok mixed 13 _ _ _ ?_
     simp -implicitDefEqProofs only [go_sem, Nat.reduceBEq, Nat.reduceLT, Int.reduceLE, Int.reduceToNat, ↓reduceIte, Int.reduceAdd, h4228, g4230, g4231]
     repeat with_reducible refine And.intro (by first | kernel_rfl | decide) ?_
     replace h4268 := bnd'_some h4268; obtain ⟨o4270, h4271, h4272⟩ := h4268
     refine Wp_cut (fun s => ∃ b4255, b4255 = o4270 ∧ s = ⟨[], [(0, .v .nl), (1, .v (.ipt [(.lst false n4148 c4149)])), (2, .dead), (3, .dead), (4, .v (.ipt [(.int .i64 x4142)])), (5, .ptr 1 0), (7, .dead), (9, .v (.lst false n4216 c4217)), (10, .v (.bool b4255)), (12, .dead), (13, .dead), (14, .dead), (19, .dead), (23, .v (.lst false n4154 c4155)), (24, .v (.int .i64 ((n4154 : Nat) : Int))), (25, .v (.int .i64 x4209)), (26, .dead), (42, .dead), (43, .dead), (44, .dead), (45, .dead), (48, .dead), (49, .dead), (50, .dead), (51, .dead), (79, .dead)], [(0, .p [p4210]), (1, .r [.fn 58 [.v (.ipt [p4143]), .ptr 0 0, .v (.ipt [(.int .i64 x4144)]), .v (.ipt [(.int .i64 x4145)]), .ptr 1 0]])], 2, []⟩) ?_ ?_
     ·refine Wp_block ?_
      refine Wp_loopG (fun n s => ∃ b4232, ∃ x4233, m58_L1 N x4142 p4143 x4144 x4145 n4148 c4149 n4154 c4155 x4209 p4210 n4216 c4217 n b4232 x4233 = some o4270 ∧ s = ⟨[], [(0, .v .nl), (1, .v (.ipt [(.lst false n4148 c4149)])), (2, .dead), (3, .dead), (4, .v (.ipt [(.int .i64 x4142)])), (5, .ptr 1 0), (7, .dead), (9, .v (.lst false n4216 c4217)), (10, .v (.bool b4232)), (12, .dead), (13, .dead), (14, .dead), (19, .dead), (23, .v (.lst false n4154 c4155)), (24, .v (.int .i64 ((n4154 : Nat) : Int))), (25, .v (.int .i64 x4209)), (26, .dead), (42, .v (.lst false (Int.toNat (((n4148 : Nat) : Int) - 1)) (List.drop 1 c4149))), (43, .v (.int .i64 (((Int.toNat (((n4148 : Nat) : Int) - 1)) : Nat) : Int))), (44, .v (.int .i64 x4233)), (45, .dead), (48, .dead), (49, .dead), (50, .dead), (51, .dead), (79, .dead)], [(0, .p [p4210]), (1, .r [.fn 58 [.v (.ipt [p4143]), .ptr 0 0, .v (.ipt [(.int .i64 x4144)]), .v (.ipt [(.int .i64 x4145)]), .ptr 1 0]])], 2, []⟩) N _ ?_ ⟨_, _, h4271, rfl⟩ ?_
      ·exact Wk_keep [0, 1, 4, 5, 9, 10, 23, 24, 25, 42, 43, 44] (by kernel_rfl)
      clear h4271
      rintro n _ ⟨b4232, x4233, h4271, rfl⟩
      cases n with
      | zero => cases h4271
      | succ n =>
       rw [m58_L1] at h4271
       replace h4271 := brn_some h4271; rcases h4271 with ⟨h4234, h4271⟩ | ⟨h4234, h4271⟩
       ·replace h4271 := grd_some h4271; obtain ⟨⟨g4235, g4236⟩, h4271⟩ := h4271
        replace h4271 := grd_some h4271; obtain ⟨g4237, h4271⟩ := h4271
        replace h4271 := getL_some h4271; obtain ⟨n4239, c4240, h4238, h4271⟩ := h4271
        refine W_sound tab_ok mixed 21 _ _ _ ?_
        simp -implicitDefEqProofs only [go_sem, Nat.reduceBEq, Nat.reduceLT, ↓reduceIte, g4235, g4236, g4237, h4238]
        repeat with_reducible refine And.intro (by first | kernel_rfl | decide) ?_
        replace h4271 := bnd'_some h4271; obtain ⟨o4273, h4274, h4275⟩ := h4271
        refine Wp_cut (fun s => ∃ b4254, b4254 = o4273 ∧ s = ⟨[], [(0, .v .nl), (1, .v (.ipt [(.lst false n4148 c4149)])), (2, .dead), (3, .dead), (4, .v (.ipt [(.int .i64 x4142)])), (5, .ptr 1 0), (7, .dead), (9, .v (.lst false n4216 c4217)), (10, .v (.bool b4254)), (12, .dead), (13, .dead), (14, .dead), (19, .dead), (23, .v (.lst false n4154 c4155)), (24, .v (.int .i64 ((n4154 : Nat) : Int))), (25, .v (.int .i64 x4209)), (26, .dead), (42, .v (.lst false (Int.toNat (((n4148 : Nat) : Int) - 1)) (List.drop 1 c4149))), (43, .v (.int .i64 (((Int.toNat (((n4148 : Nat) : Int) - 1)) : Nat) : Int))), (44, .v (.int .i64 x4233)), (45, .dead), (48, .dead), (49, .dead), (50, .dead), (51, .dead), (79, .dead)], [(0, .p [p4210]), (1, .r [.fn 58 [.v (.ipt [p4143]), .ptr 0 0, .v (.ipt [(.int .i64 x4144)]), .v (.ipt [(.int .i64 x4145)]), .ptr 1 0]])], 2, []⟩) ?_ ?_
        ·refine Wp_block ?_
         refine Wp_loopG (fun n s => ∃ b4241, ∃ x4242, m58_L2 N x4142 p4143 x4144 x4145 n4148 c4149 n4154 c4155 x4209 p4210 n4216 c4217 x4233 n4239 c4240 n b4241 x4242 = some o4273 ∧ s = ⟨[], [(0, .v .nl), (1, .v (.ipt [(.lst false n4148 c4149)])), (2, .dead), (3, .dead), (4, .v (.ipt [(.int .i64 x4142)])), (5, .ptr 1 0), (7, .dead), (9, .v (.lst false n4216 c4217)), (10, .v (.bool b4241)), (12, .dead), (13, .dead), (14, .dead), (19, .dead), (23, .v (.lst false n4154 c4155)), (24, .v (.int .i64 ((n4154 : Nat) : Int))), (25, .v (.int .i64 x4209)), (26, .dead), (42, .v (.lst false (Int.toNat (((n4148 : Nat) : Int) - 1)) (List.drop 1 c4149))), (43, .v (.int .i64 (((Int.toNat (((n4148 : Nat) : Int) - 1)) : Nat) : Int))), (44, .v (.int .i64 x4233)), (45, .dead), (48, .v (.lst false n4239 c4240)), (49, .v (.int .i64 ((n4239 : Nat) : Int))), (50, .v (.int .i64 x4242)), (51, .dead), (79, .dead)], [(0, .p [p4210]), (1, .r [.fn 58 [.v (.ipt [p4143]), .ptr 0 0, .v (.ipt [(.int .i64 x4144)]), .v (.ipt [(.int .i64 x4145)]), .ptr 1 0]])], 2, []⟩) N _ ?_ ⟨_, _, h4274, rfl⟩ ?_
         ·exact Wk_keep [0, 1, 4, 5, 9, 10, 23, 24, 25, 42, 43, 44, 48, 49, 50] (by kernel_rfl)
         clear h4274
         rintro n _ ⟨b4241, x4242, h4274, rfl⟩
         cases n with
         | zero => cases h4274
         | succ n =>
          rw [m58_L2] at h4274
          replace h4274 := brn_some h4274; rcases h4274 with ⟨h4243, h4274⟩ | ⟨h4243, h4274⟩
          ·replace h4274 := grd_some h4274; obtain ⟨⟨g4244, g4245⟩, h4274⟩ := h4274
           replace h4274 := grd_some h4274; obtain ⟨g4246, h4274⟩ := h4274
           replace h4274 := getI_some h4274; obtain ⟨x4248, h4247, h4274⟩ := h4274
           replace h4274 := brn_some h4274; rcases h4274 with ⟨h4249, h4274⟩ | ⟨h4249, h4274⟩
           ·replace h4274 := grd_some h4274; obtain ⟨g4250, h4274⟩ := h4274
            replace h4274 := grd_some h4274; obtain ⟨g4251, h4274⟩ := h4274
            replace h4274 := getI_some h4274; obtain ⟨x4253, h4252, h4274⟩ := h4274
            refine W_sound tab_ok mixed 34 _ _ _ ?_
            simp -implicitDefEqProofs only [go_sem, Nat.reduceBEq, Nat.reduceLT, Int.reduceLE, Int.reduceToNat, ↓reduceIte, g4244, g4245, g4246, h4247, h4249, g4250, g4251, h4252]
            repeat with_reducible refine And.intro (by first | kernel_rfl | decide) ?_
            refine cutQ _ ?_ ⟨n, Nat.lt_succ_self n, _, _, h4274, rfl⟩
            exact Wk_keep [0, 1, 4, 5, 9, 10, 23, 24, 25, 42, 43, 44, 48, 49, 50] (by kernel_rfl)
           ·refine W_sound tab_ok mixed 34 _ _ _ ?_
            simp -implicitDefEqProofs only [go_sem, Nat.reduceBEq, Nat.reduceLT, Int.reduceLE, Int.reduceToNat, ↓reduceIte, g4244, g4245, g4246, h4247, h4249]
            repeat with_reducible refine And.intro (by first | kernel_rfl | decide) ?_
            refine cutQ _ ?_ ⟨n, Nat.lt_succ_self n, _, _, h4274, rfl⟩
            exact Wk_keep [0, 1, 4, 5, 9, 10, 23, 24, 25, 42, 43, 44, 48, 49, 50] (by kernel_rfl)
          ·refine W_sound tab_ok mixed 7 _ _ _ ?_
           simp -implicitDefEqProofs only [go_sem, Nat.reduceBEq, Nat.reduceLT, ↓reduceIte, h4243]
           repeat with_reducible refine And.intro (by first | kernel_rfl | decide) ?_
           obtain rfl := Option.some.inj h4274
           refine cutQ _ ?_ ⟨_, rfl, rfl⟩
           exact Wk_keep [0, 1, 4, 5, 9, 10, 23, 24, 25, 42, 43, 44] (by kernel_rfl)
        ·rintro _ ⟨b4254, rfl, rfl⟩
         refine W_sound tab_ok mixed 5 _ _ _ ?_
         simp -implicitDefEqProofs only [go_sem, Nat.reduceBEq, Nat.reduceLT, Int.reduceLE, Int.reduceToNat, ↓reduceIte]
         repeat with_reducible refine And.intro (by first | kernel_rfl | decide) ?_
         refine cutQ _ ?_ ⟨n, Nat.lt_succ_self n, _, _, h4275, rfl⟩
         exact Wk_keep [0, 1, 4, 5, 9, 10, 23, 24, 25, 42, 43, 44] (by kernel_rfl)
       ·refine W_sound tab_ok mixed 7 _ _ _ ?_
        simp -implicitDefEqProofs only [go_sem, Nat.reduceBEq, Nat.reduceLT, ↓reduceIte, h4234]
        repeat with_reducible refine And.intro (by first | kernel_rfl | decide) ?_
        obtain rfl := Option.some.inj h4271
        refine cutQ _ ?_ ⟨_, rfl, rfl⟩
        exact Wk_keep [0, 1, 4, 5, 9, 10, 23, 24, 25] (by kernel_rfl)
     ·rintro _ ⟨b4255, rfl, rfl⟩
      replace h4272 := brn_some h4272; rcases h4272 with ⟨h4256, h4272⟩ | ⟨h4256, h4272⟩
      ·replace h4272 := bnd'_some h4272; obtain ⟨⟨p4257, p4259⟩, h4258, h4272⟩ := h4272
       (try dsimp only at h4272)
       refine W_sound tab_ok mixed 14 _ _ _ ?_
       simp -implicitDefEqProofs only [go_sem, Nat.reduceBEq, Nat.reduceAdd, Nat.reduceLT, Nat.reduceLeDiff, h4256]
       repeat with_reducible refine And.intro (by first | kernel_rfl | decide) ?_
       refine Wp_callDF [(79, [(.lst false n4216 c4217)])] [0, 1] (c58_3 N N _ _ _ _ _ _ _ _ _ _ h4258) rfl rfl rfl (by first | rfl | (simp only [go_sem, Nat.reduceBEq, Nat.reduceAdd, Nat.reduceSub, Nat.reduceMul, Nat.reduceLT, Nat.reduceLeDiff, Int.reduceLE, Int.reduceLT, Int.reduceToNat, Int.reduceBEq, Int.reduceBNe, ↓reduceIte, Int.reduceAdd, Int.reduceSub, Int.reduceGT, Int.reduceGE, h4147, h4150, h4153, h4211, g4212, g4213, g4214, h4215, g4218, g4219, g4220, g4221, g4222, h4223, h4228, g4230, g4231, h4256] <;> rfl)) rfl (by kernel_rfl) rfl rfl (by simp [roF, obL]) ?_
       replace h4272 := getB_some h4272; obtain ⟨b4261, h4260, h4272⟩ := h4272
       replace h4272 := brn_some h4272; rcases h4272 with ⟨h4262, h4272⟩ | ⟨h4262, h4272⟩
       ·refine W_sound tab_ok mixed 9 _ _ _ ?_
        simp -implicitDefEqProofs only [go_sem, Nat.reduceBEq, Nat.reduceAdd, Nat.reduceSub, Nat.reduceMul, Nat.reduceLT, Nat.reduceLeDiff, h4260, h4262]
        repeat with_reducible refine And.intro (by first | kernel_rfl | decide) ?_
        obtain rfl := Option.some.inj h4272
        (try dsimp only at h4269)
        simp only [Option.some.injEq, Prod.mk.injEq] at h4269; obtain ⟨rfl, rfl⟩ := h4269
        exact finD (st' := ⟨[], [(0, .dead), (1, .dead), (2, .dead), (3, .dead), (4, .dead), (5, .dead), (7, .v (.bool true)), (9, .dead), (10, .dead), (12, .dead), (13, .dead), (14, .dead), (19, .dead), (23, .dead), (24, .dead), (25, .dead), (26, .dead), (42, .dead), (43, .dead), (44, .dead), (45, .dead), (48, .dead), (49, .dead), (50, .dead), (51, .dead), (79, .dead)], [(0, .p [p4259]), (1, .r [.fn 58 [.v (.ipt [p4143]), .ptr 0 0, .v (.ipt [(.int .i64 x4144)]), .v (.ipt [(.int .i64 x4145)]), .ptr 1 0]])], 2, []⟩) (keepE_le [7] _) (OLe.refl _) (by kernel_rfl) (by simp only [go_sem, Nat.reduceBEq, resQ_tmp, resQ_nil, retD_one]; try simp [R.val, retD_one, retD_two, retD_three, retD_none])
       ·refine W_sound tab_ok mixed 9 _ _ _ ?_
        simp -implicitDefEqProofs only [go_sem, Nat.reduceBEq, Nat.reduceAdd, Nat.reduceSub, Nat.reduceMul, Nat.reduceLT, Nat.reduceLeDiff, Int.reduceLE, Int.reduceToNat, ↓reduceIte, h4260, h4262]
        repeat with_reducible refine And.intro (by first | kernel_rfl | decide) ?_
        refine cutQ _ ?_ ⟨n, Nat.lt_succ_self n, _, _, h4272, rfl⟩
        exact Wk_keep [0, 1, 4, 5, 23, 24, 25] (by kernel_rfl)
      ·refine W_sound tab_ok mixed 24 _ _ _ ?_
       simp -implicitDefEqProofs only [go_sem, Nat.reduceBEq, Nat.reduceLT, Int.reduceLE, Int.reduceToNat, ↓reduceIte, h4256]
       repeat with_reducible refine And.intro (by first | kernel_rfl | decide) ?_
       refine cutQ _ ?_ ⟨n, Nat.lt_succ_self n, _, _, h4272, rfl⟩
       exact Wk_keep [0, 1, 4, 5, 23, 24, 25] (by kernel_rfl)
    ·refine W_sound tab_ok mixed 7 _ _ _ ?_
     simp -implicitDefEqProofs only [go_sem, Nat.reduceBEq, Nat.reduceLT, ↓reduceIte, h4211]
     repeat with_reducible refine And.intro (by first | kernel_rfl | decide) ?_
     obtain rfl := Option.some.inj h4268
     refine cutQ _ ?_ ⟨_, rfl, rfl⟩
     exact Wk_keep [] (by kernel_rfl)
  ·rintro _ ⟨p4264, rfl, rfl⟩
   (try dsimp only at h4269)
   refine W_sound tab_ok mixed 6 _ _ _ ?_
   simp -implicitDefEqProofs only [go_sem, Nat.reduceBEq, Nat.reduceLT]
   repeat with_reducible refine And.intro (by first | kernel_rfl | decide) ?_
   simp only [Option.some.injEq, Prod.mk.injEq] at h4269; obtain ⟨rfl, rfl⟩ := h4269
   exact finD (st' := ⟨[], [(0, .dead), (1, .dead), (2, .dead), (3, .dead), (4, .dead), (5, .dead), (7, .v (.bool false)), (9, .dead), (10, .dead), (12, .dead), (13, .dead), (14, .dead), (19, .dead), (23, .dead), (24, .dead), (25, .dead), (26, .dead), (42, .dead), (43, .dead), (44, .dead), (45, .dead), (48, .dead), (49, .dead), (50, .dead), (51, .dead), (79, .dead)], [(0, .p [p4264]), (1, .r [.fn 58 [.v (.ipt [p4143]), .ptr 0 0, .v (.ipt [(.int .i64 x4144)]), .v (.ipt [(.int .i64 x4145)]), .ptr 1 0]])], 2, []⟩) (keepE_le [7] _) (OLe.refl _) (by kernel_rfl) (by simp only [go_sem, Nat.reduceBEq, resQ_tmp, resQ_nil, retD_one]; try simp [R.val, retD_one, retD_two, retD_three, retD_none])
def m14_L0 (N : Nat) (x3091 : Int) (p3102 : PV) (p3103 : PV) (x3110 : Int) (n3112 : Nat) (c3113 : List PV) : Option (PV) :=
  casN n3112 0 (
   some (.lst false 0 [])) (
  casN n3112 1 (
   grd (0 < List.length c3113) <|
   getL (gp c3113 0) fun n3118 c3119 =>
   grd (0 ≤ (Int.tmod (IntKind.i64.wrap x3091) (IntKind.i64.wrap (x3110 + 1))) ∧ (Int.tmod (IntKind.i64.wrap x3091) (IntKind.i64.wrap (x3110 + 1))) ≤ ((n3118 : Nat) : Int)) <|
   grd (List.length c3119 = n3118) <|
   bnd' (m56_2 N (.lst false (Int.toNat (Int.tmod (IntKind.i64.wrap x3091) (IntKind.i64.wrap (x3110 + 1)))) (List.take (Int.toNat (Int.tmod (IntKind.i64.wrap x3091) (IntKind.i64.wrap (x3110 + 1)))) c3119))) fun (n3130, c3131) =>
   brn (decide ((Int.tmod (IntKind.i64.wrap x3091) (IntKind.i64.wrap (x3110 + 1))) > 0)) (
    getI .u8 p3102 fun x3135 =>
    grd (1 ≠ 0) <|
    casI (Int.tmod (IntKind.i64.wrap x3135) 1) 0 (
     grd (8 ≠ 0) <|
     grd ((Int.tmod (IntKind.i64.wrap x3091) (IntKind.i64.wrap (x3110 + 1))) ≠ 0) <|
     getI .u8 p3103 fun x3141 =>
     grd (x3110 ≠ 0) <|
     grd (0 ≤ (Int.tmod (IntKind.i64.wrap (IntKind.u8.wrap (Int.tdiv x3135 8))) (Int.tmod (IntKind.i64.wrap x3091) (IntKind.i64.wrap (x3110 + 1)))) ∧ (Int.tmod (IntKind.i64.wrap (IntKind.u8.wrap (Int.tdiv x3135 8))) (Int.tmod (IntKind.i64.wrap x3091) (IntKind.i64.wrap (x3110 + 1)))) < ((n3130 : Nat) : Int)) <|
     grd (((Int.toNat (Int.tmod (IntKind.i64.wrap (IntKind.u8.wrap (Int.tdiv x3135 8))) (Int.tmod (IntKind.i64.wrap x3091) (IntKind.i64.wrap (x3110 + 1))))) + 1) ≤ List.length c3131) <|
     grd (List.length (List.set c3131 (Int.toNat (Int.tmod (IntKind.i64.wrap (IntKind.u8.wrap (Int.tdiv x3135 8))) (Int.tmod (IntKind.i64.wrap x3091) (IntKind.i64.wrap (x3110 + 1))))) (.int .i64 (Int.tmod (IntKind.i64.wrap x3141) x3110))) = n3130) <|
     some (.lst false 1 [(.lst false n3130 (List.set c3131 (Int.toNat (Int.tmod (IntKind.i64.wrap (IntKind.u8.wrap (Int.tdiv x3135 8))) (Int.tmod (IntKind.i64.wrap x3091) (IntKind.i64.wrap (x3110 + 1))))) (.int .i64 (Int.tmod (IntKind.i64.wrap x3141) x3110))))])) (
    none)) (
    grd (List.length c3131 = n3130) <|
    some (.lst false 1 [(.lst false n3130 c3131)]))) (
  casN n3112 2 (
   grd (0 < List.length c3113) <|
   getL (gp c3113 0) fun n3150 c3151 =>
   grd (0 ≤ (Int.tmod (IntKind.i64.wrap x3091) (IntKind.i64.wrap (x3110 + 1))) ∧ (Int.tmod (IntKind.i64.wrap x3091) (IntKind.i64.wrap (x3110 + 1))) ≤ ((n3150 : Nat) : Int)) <|
   grd (List.length c3151 = n3150) <|
   bnd' (m56_2 N (.lst false (Int.toNat (Int.tmod (IntKind.i64.wrap x3091) (IntKind.i64.wrap (x3110 + 1)))) (List.take (Int.toNat (Int.tmod (IntKind.i64.wrap x3091) (IntKind.i64.wrap (x3110 + 1)))) c3151))) fun (n3155, c3156) =>
   grd (0 < List.length (List.drop 1 c3113)) <|
   getL (gp c3113 1) fun n3160 c3161 =>
   grd ((Int.tmod (IntKind.i64.wrap x3091) (IntKind.i64.wrap (x3110 + 1))) ≤ ((n3160 : Nat) : Int)) <|
   grd (List.length c3161 = n3160) <|
   bnd' (m56_2 N (.lst false (Int.toNat (Int.tmod (IntKind.i64.wrap x3091) (IntKind.i64.wrap (x3110 + 1)))) (List.take (Int.toNat (Int.tmod (IntKind.i64.wrap x3091) (IntKind.i64.wrap (x3110 + 1)))) c3161))) fun (n3164, c3165) =>
   brn (decide ((Int.tmod (IntKind.i64.wrap x3091) (IntKind.i64.wrap (x3110 + 1))) > 0)) (
    getI .u8 p3102 fun x3169 =>
    grd (2 ≠ 0) <|
    casI (Int.tmod (IntKind.i64.wrap x3169) 2) 0 (
     grd (8 ≠ 0) <|
     grd ((Int.tmod (IntKind.i64.wrap x3091) (IntKind.i64.wrap (x3110 + 1))) ≠ 0) <|
     getI .u8 p3103 fun x3175 =>
     grd (x3110 ≠ 0) <|
     grd (0 ≤ (Int.tmod (IntKind.i64.wrap (IntKind.u8.wrap (Int.tdiv x3169 8))) (Int.tmod (IntKind.i64.wrap x3091) (IntKind.i64.wrap (x3110 + 1)))) ∧ (Int.tmod (IntKind.i64.wrap (IntKind.u8.wrap (Int.tdiv x3169 8))) (Int.tmod (IntKind.i64.wrap x3091) (IntKind.i64.wrap (x3110 + 1)))) < ((n3155 : Nat) : Int)) <|
     grd (((Int.toNat (Int.tmod (IntKind.i64.wrap (IntKind.u8.wrap (Int.tdiv x3169 8))) (Int.tmod (IntKind.i64.wrap x3091) (IntKind.i64.wrap (x3110 + 1))))) + 1) ≤ List.length c3156) <|
     grd (List.length (List.set c3156 (Int.toNat (Int.tmod (IntKind.i64.wrap (IntKind.u8.wrap (Int.tdiv x3169 8))) (Int.tmod (IntKind.i64.wrap x3091) (IntKind.i64.wrap (x3110 + 1))))) (.int .i64 (Int.tmod (IntKind.i64.wrap x3175) x3110))) = n3155) <|
     grd (List.length c3165 = n3164) <|
     some (.lst false 2 [(.lst false n3155 (List.set c3156 (Int.toNat (Int.tmod (IntKind.i64.wrap (IntKind.u8.wrap (Int.tdiv x3169 8))) (Int.tmod (IntKind.i64.wrap x3091) (IntKind.i64.wrap (x3110 + 1))))) (.int .i64 (Int.tmod (IntKind.i64.wrap x3175) x3110)))), (.lst false n3164 c3165)])) (
    casI (Int.tmod (IntKind.i64.wrap x3169) 2) 1 (
     grd (8 ≠ 0) <|
     grd ((Int.tmod (IntKind.i64.wrap x3091) (IntKind.i64.wrap (x3110 + 1))) ≠ 0) <|
     getI .u8 p3103 fun x3185 =>
     grd (x3110 ≠ 0) <|
     grd (0 ≤ (Int.tmod (IntKind.i64.wrap (IntKind.u8.wrap (Int.tdiv x3169 8))) (Int.tmod (IntKind.i64.wrap x3091) (IntKind.i64.wrap (x3110 + 1)))) ∧ (Int.tmod (IntKind.i64.wrap (IntKind.u8.wrap (Int.tdiv x3169 8))) (Int.tmod (IntKind.i64.wrap x3091) (IntKind.i64.wrap (x3110 + 1)))) < ((n3164 : Nat) : Int)) <|
     grd (((Int.toNat (Int.tmod (IntKind.i64.wrap (IntKind.u8.wrap (Int.tdiv x3169 8))) (Int.tmod (IntKind.i64.wrap x3091) (IntKind.i64.wrap (x3110 + 1))))) + 1) ≤ List.length c3165) <|
     grd (List.length c3156 = n3155) <|
     grd (List.length (List.set c3165 (Int.toNat (Int.tmod (IntKind.i64.wrap (IntKind.u8.wrap (Int.tdiv x3169 8))) (Int.tmod (IntKind.i64.wrap x3091) (IntKind.i64.wrap (x3110 + 1))))) (.int .i64 (Int.tmod (IntKind.i64.wrap x3185) x3110))) = n3164) <|
     some (.lst false 2 [(.lst false n3155 c3156), (.lst false n3164 (List.set c3165 (Int.toNat (Int.tmod (IntKind.i64.wrap (IntKind.u8.wrap (Int.tdiv x3169 8))) (Int.tmod (IntKind.i64.wrap x3091) (IntKind.i64.wrap (x3110 + 1))))) (.int .i64 (Int.tmod (IntKind.i64.wrap x3185) x3110))))])) (
    none))) (
    grd (List.length c3156 = n3155) <|
    grd (List.length c3165 = n3164) <|
    some (.lst false 2 [(.lst false n3155 c3156), (.lst false n3164 c3165)]))) (
  casN n3112 3 (
   grd (0 < List.length c3113) <|
   getL (gp c3113 0) fun n3196 c3197 =>
   grd (0 ≤ (Int.tmod (IntKind.i64.wrap x3091) (IntKind.i64.wrap (x3110 + 1))) ∧ (Int.tmod (IntKind.i64.wrap x3091) (IntKind.i64.wrap (x3110 + 1))) ≤ ((n3196 : Nat) : Int)) <|
   grd (List.length c3197 = n3196) <|
   bnd' (m56_2 N (.lst false (Int.toNat (Int.tmod (IntKind.i64.wrap x3091) (IntKind.i64.wrap (x3110 + 1)))) (List.take (Int.toNat (Int.tmod (IntKind.i64.wrap x3091) (IntKind.i64.wrap (x3110 + 1)))) c3197))) fun (n3201, c3202) =>
   grd (0 < List.length (List.drop 1 c3113)) <|
   getL (gp c3113 1) fun n3206 c3207 =>
   grd ((Int.tmod (IntKind.i64.wrap x3091) (IntKind.i64.wrap (x3110 + 1))) ≤ ((n3206 : Nat) : Int)) <|
   grd (List.length c3207 = n3206) <|
   bnd' (m56_2 N (.lst false (Int.toNat (Int.tmod (IntKind.i64.wrap x3091) (IntKind.i64.wrap (x3110 + 1)))) (List.take (Int.toNat (Int.tmod (IntKind.i64.wrap x3091) (IntKind.i64.wrap (x3110 + 1)))) c3207))) fun (n3210, c3211) =>
   grd (0 < List.length (List.drop 2 c3113)) <|
   getL (gp c3113 2) fun n3215 c3216 =>
   grd ((Int.tmod (IntKind.i64.wrap x3091) (IntKind.i64.wrap (x3110 + 1))) ≤ ((n3215 : Nat) : Int)) <|
   grd (List.length c3216 = n3215) <|
   bnd' (m56_2 N (.lst false (Int.toNat (Int.tmod (IntKind.i64.wrap x3091) (IntKind.i64.wrap (x3110 + 1)))) (List.take (Int.toNat (Int.tmod (IntKind.i64.wrap x3091) (IntKind.i64.wrap (x3110 + 1)))) c3216))) fun (n3219, c3220) =>
   brn (decide ((Int.tmod (IntKind.i64.wrap x3091) (IntKind.i64.wrap (x3110 + 1))) > 0)) (
    getI .u8 p3102 fun x3224 =>
    grd (3 ≠ 0) <|
    casI (Int.tmod (IntKind.i64.wrap x3224) 3) 0 (
     grd (8 ≠ 0) <|
     grd ((Int.tmod (IntKind.i64.wrap x3091) (IntKind.i64.wrap (x3110 + 1))) ≠ 0) <|
     getI .u8 p3103 fun x3230 =>
     grd (x3110 ≠ 0) <|
     grd (0 ≤ (Int.tmod (IntKind.i64.wrap (IntKind.u8.wrap (Int.tdiv x3224 8))) (Int.tmod (IntKind.i64.wrap x3091) (IntKind.i64.wrap (x3110 + 1)))) ∧ (Int.tmod (IntKind.i64.wrap (IntKind.u8.wrap (Int.tdiv x3224 8))) (Int.tmod (IntKind.i64.wrap x3091) (IntKind.i64.wrap (x3110 + 1)))) < ((n3201 : Nat) : Int)) <|
     grd (((Int.toNat (Int.tmod (IntKind.i64.wrap (IntKind.u8.wrap (Int.tdiv x3224 8))) (Int.tmod (IntKind.i64.wrap x3091) (IntKind.i64.wrap (x3110 + 1))))) + 1) ≤ List.length c3202) <|
     grd (List.length (List.set c3202 (Int.toNat (Int.tmod (IntKind.i64.wrap (IntKind.u8.wrap (Int.tdiv x3224 8))) (Int.tmod (IntKind.i64.wrap x3091) (IntKind.i64.wrap (x3110 + 1))))) (.int .i64 (Int.tmod (IntKind.i64.wrap x3230) x3110))) = n3201) <|
     grd (List.length c3211 = n3210) <|
     grd (List.length c3220 = n3219) <|
     some (.lst false 3 [(.lst false n3201 (List.set c3202 (Int.toNat (Int.tmod (IntKind.i64.wrap (IntKind.u8.wrap (Int.tdiv x3224 8))) (Int.tmod (IntKind.i64.wrap x3091) (IntKind.i64.wrap (x3110 + 1))))) (.int .i64 (Int.tmod (IntKind.i64.wrap x3230) x3110)))), (.lst false n3210 c3211), (.lst false n3219 c3220)])) (
    casI (Int.tmod (IntKind.i64.wrap x3224) 3) 1 (
     grd (8 ≠ 0) <|
     grd ((Int.tmod (IntKind.i64.wrap x3091) (IntKind.i64.wrap (x3110 + 1))) ≠ 0) <|
     getI .u8 p3103 fun x3241 =>
     grd (x3110 ≠ 0) <|
     grd (0 ≤ (Int.tmod (IntKind.i64.wrap (IntKind.u8.wrap (Int.tdiv x3224 8))) (Int.tmod (IntKind.i64.wrap x3091) (IntKind.i64.wrap (x3110 + 1)))) ∧ (Int.tmod (IntKind.i64.wrap (IntKind.u8.wrap (Int.tdiv x3224 8))) (Int.tmod (IntKind.i64.wrap x3091) (IntKind.i64.wrap (x3110 + 1)))) < ((n3210 : Nat) : Int)) <|
     grd (((Int.toNat (Int.tmod (IntKind.i64.wrap (IntKind.u8.wrap (Int.tdiv x3224 8))) (Int.tmod (IntKind.i64.wrap x3091) (IntKind.i64.wrap (x3110 + 1))))) + 1) ≤ List.length c3211) <|
     grd (List.length c3202 = n3201) <|
     grd (List.length (List.set c3211 (Int.toNat (Int.tmod (IntKind.i64.wrap (IntKind.u8.wrap (Int.tdiv x3224 8))) (Int.tmod (IntKind.i64.wrap x3091) (IntKind.i64.wrap (x3110 + 1))))) (.int .i64 (Int.tmod (IntKind.i64.wrap x3241) x3110))) = n3210) <|
     grd (List.length c3220 = n3219) <|
     some (.lst false 3 [(.lst false n3201 c3202), (.lst false n3210 (List.set c3211 (Int.toNat (Int.tmod (IntKind.i64.wrap (IntKind.u8.wrap (Int.tdiv x3224 8))) (Int.tmod (IntKind.i64.wrap x3091) (IntKind.i64.wrap (x3110 + 1))))) (.int .i64 (Int.tmod (IntKind.i64.wrap x3241) x3110)))), (.lst false n3219 c3220)])) (
    casI (Int.tmod (IntKind.i64.wrap x3224) 3) 2 (
     grd (8 ≠ 0) <|
     grd ((Int.tmod (IntKind.i64.wrap x3091) (IntKind.i64.wrap (x3110 + 1))) ≠ 0) <|
     getI .u8 p3103 fun x3252 =>
     grd (x3110 ≠ 0) <|
     grd (0 ≤ (Int.tmod (IntKind.i64.wrap (IntKind.u8.wrap (Int.tdiv x3224 8))) (Int.tmod (IntKind.i64.wrap x3091) (IntKind.i64.wrap (x3110 + 1)))) ∧ (Int.tmod (IntKind.i64.wrap (IntKind.u8.wrap (Int.tdiv x3224 8))) (Int.tmod (IntKind.i64.wrap x3091) (IntKind.i64.wrap (x3110 + 1)))) < ((n3219 : Nat) : Int)) <|
     grd (((Int.toNat (Int.tmod (IntKind.i64.wrap (IntKind.u8.wrap (Int.tdiv x3224 8))) (Int.tmod (IntKind.i64.wrap x3091) (IntKind.i64.wrap (x3110 + 1))))) + 1) ≤ List.length c3220) <|
     grd (List.length c3202 = n3201) <|
     grd (List.length c3211 = n3210) <|
     grd (List.length (List.set c3220 (Int.toNat (Int.tmod (IntKind.i64.wrap (IntKind.u8.wrap (Int.tdiv x3224 8))) (Int.tmod (IntKind.i64.wrap x3091) (IntKind.i64.wrap (x3110 + 1))))) (.int .i64 (Int.tmod (IntKind.i64.wrap x3252) x3110))) = n3219) <|
     some (.lst false 3 [(.lst false n3201 c3202), (.lst false n3210 c3211), (.lst false n3219 (List.set c3220 (Int.toNat (Int.tmod (IntKind.i64.wrap (IntKind.u8.wrap (Int.tdiv x3224 8))) (Int.tmod (IntKind.i64.wrap x3091) (IntKind.i64.wrap (x3110 + 1))))) (.int .i64 (Int.tmod (IntKind.i64.wrap x3252) x3110))))])) (
    none)))) (
    grd (List.length c3202 = n3201) <|
    grd (List.length c3211 = n3210) <|
    grd (List.length c3220 = n3219) <|
    some (.lst false 3 [(.lst false n3201 c3202), (.lst false n3210 c3211), (.lst false n3219 c3220)]))) (
  casN n3112 4 (
   grd (0 < List.length c3113) <|
   getL (gp c3113 0) fun n3265 c3266 =>
   grd (0 ≤ (Int.tmod (IntKind.i64.wrap x3091) (IntKind.i64.wrap (x3110 + 1))) ∧ (Int.tmod (IntKind.i64.wrap x3091) (IntKind.i64.wrap (x3110 + 1))) ≤ ((n3265 : Nat) : Int)) <|
   grd (List.length c3266 = n3265) <|
   bnd' (m56_2 N (.lst false (Int.toNat (Int.tmod (IntKind.i64.wrap x3091) (IntKind.i64.wrap (x3110 + 1)))) (List.take (Int.toNat (Int.tmod (IntKind.i64.wrap x3091) (IntKind.i64.wrap (x3110 + 1)))) c3266))) fun (n3270, c3271) =>
   grd (0 < List.length (List.drop 1 c3113)) <|
   getL (gp c3113 1) fun n3275 c3276 =>
   grd ((Int.tmod (IntKind.i64.wrap x3091) (IntKind.i64.wrap (x3110 + 1))) ≤ ((n3275 : Nat) : Int)) <|
   grd (List.length c3276 = n3275) <|
   bnd' (m56_2 N (.lst false (Int.toNat (Int.tmod (IntKind.i64.wrap x3091) (IntKind.i64.wrap (x3110 + 1)))) (List.take (Int.toNat (Int.tmod (IntKind.i64.wrap x3091) (IntKind.i64.wrap (x3110 + 1)))) c3276))) fun (n3279, c3280) =>
   grd (0 < List.length (List.drop 2 c3113)) <|
   getL (gp c3113 2) fun n3284 c3285 =>
   grd ((Int.tmod (IntKind.i64.wrap x3091) (IntKind.i64.wrap (x3110 + 1))) ≤ ((n3284 : Nat) : Int)) <|
   grd (List.length c3285 = n3284) <|
   bnd' (m56_2 N (.lst false (Int.toNat (Int.tmod (IntKind.i64.wrap x3091) (IntKind.i64.wrap (x3110 + 1)))) (List.take (Int.toNat (Int.tmod (IntKind.i64.wrap x3091) (IntKind.i64.wrap (x3110 + 1)))) c3285))) fun (n3288, c3289) =>
   grd (0 < List.length (List.drop 3 c3113)) <|
   getL (gp c3113 3) fun n3293 c3294 =>
   grd ((Int.tmod (IntKind.i64.wrap x3091) (IntKind.i64.wrap (x3110 + 1))) ≤ ((n3293 : Nat) : Int)) <|
   grd (List.length c3294 = n3293) <|
   bnd' (m56_2 N (.lst false (Int.toNat (Int.tmod (IntKind.i64.wrap x3091) (IntKind.i64.wrap (x3110 + 1)))) (List.take (Int.toNat (Int.tmod (IntKind.i64.wrap x3091) (IntKind.i64.wrap (x3110 + 1)))) c3294))) fun (n3297, c3298) =>
   brn (decide ((Int.tmod (IntKind.i64.wrap x3091) (IntKind.i64.wrap (x3110 + 1))) > 0)) (
    getI .u8 p3102 fun x3302 =>
    grd (4 ≠ 0) <|
    casI (Int.tmod (IntKind.i64.wrap x3302) 4) 0 (
     grd (8 ≠ 0) <|
     grd ((Int.tmod (IntKind.i64.wrap x3091) (IntKind.i64.wrap (x3110 + 1))) ≠ 0) <|
     getI .u8 p3103 fun x3308 =>
     grd (x3110 ≠ 0) <|
     grd (0 ≤ (Int.tmod (IntKind.i64.wrap (IntKind.u8.wrap (Int.tdiv x3302 8))) (Int.tmod (IntKind.i64.wrap x3091) (IntKind.i64.wrap (x3110 + 1)))) ∧ (Int.tmod (IntKind.i64.wrap (IntKind.u8.wrap (Int.tdiv x3302 8))) (Int.tmod (IntKind.i64.wrap x3091) (IntKind.i64.wrap (x3110 + 1)))) < ((n3270 : Nat) : Int)) <|
     grd (((Int.toNat (Int.tmod (IntKind.i64.wrap (IntKind.u8.wrap (Int.tdiv x3302 8))) (Int.tmod (IntKind.i64.wrap x3091) (IntKind.i64.wrap (x3110 + 1))))) + 1) ≤ List.length c3271) <|
     grd (List.length (List.set c3271 (Int.toNat (Int.tmod (IntKind.i64.wrap (IntKind.u8.wrap (Int.tdiv x3302 8))) (Int.tmod (IntKind.i64.wrap x3091) (IntKind.i64.wrap (x3110 + 1))))) (.int .i64 (Int.tmod (IntKind.i64.wrap x3308) x3110))) = n3270) <|
     grd (List.length c3280 = n3279) <|
     grd (List.length c3289 = n3288) <|
     grd (List.length c3298 = n3297) <|
     some (.lst false 4 [(.lst false n3270 (List.set c3271 (Int.toNat (Int.tmod (IntKind.i64.wrap (IntKind.u8.wrap (Int.tdiv x3302 8))) (Int.tmod (IntKind.i64.wrap x3091) (IntKind.i64.wrap (x3110 + 1))))) (.int .i64 (Int.tmod (IntKind.i64.wrap x3308) x3110)))), (.lst false n3279 c3280), (.lst false n3288 c3289), (.lst false n3297 c3298)])) (
    casI (Int.tmod (IntKind.i64.wrap x3302) 4) 1 (
     grd (8 ≠ 0) <|
     grd ((Int.tmod (IntKind.i64.wrap x3091) (IntKind.i64.wrap (x3110 + 1))) ≠ 0) <|
     getI .u8 p3103 fun x3320 =>
     grd (x3110 ≠ 0) <|
     grd (0 ≤ (Int.tmod (IntKind.i64.wrap (IntKind.u8.wrap (Int.tdiv x3302 8))) (Int.tmod (IntKind.i64.wrap x3091) (IntKind.i64.wrap (x3110 + 1)))) ∧ (Int.tmod (IntKind.i64.wrap (IntKind.u8.wrap (Int.tdiv x3302 8))) (Int.tmod (IntKind.i64.wrap x3091) (IntKind.i64.wrap (x3110 + 1)))) < ((n3279 : Nat) : Int)) <|
     grd (((Int.toNat (Int.tmod (IntKind.i64.wrap (IntKind.u8.wrap (Int.tdiv x3302 8))) (Int.tmod (IntKind.i64.wrap x3091) (IntKind.i64.wrap (x3110 + 1))))) + 1) ≤ List.length c3280) <|
     grd (List.length c3271 = n3270) <|
     grd (List.length (List.set c3280 (Int.toNat (Int.tmod (IntKind.i64.wrap (IntKind.u8.wrap (Int.tdiv x3302 8))) (Int.tmod (IntKind.i64.wrap x3091) (IntKind.i64.wrap (x3110 + 1))))) (.int .i64 (Int.tmod (IntKind.i64.wrap x3320) x3110))) = n3279) <|
     grd (List.length c3289 = n3288) <|
     grd (List.length c3298 = n3297) <|
     some (.lst false 4 [(.lst false n3270 c3271), (.lst false n3279 (List.set c3280 (Int.toNat (Int.tmod (IntKind.i64.wrap (IntKind.u8.wrap (Int.tdiv x3302 8))) (Int.tmod (IntKind.i64.wrap x3091) (IntKind.i64.wrap (x3110 + 1))))) (.int .i64 (Int.tmod (IntKind.i64.wrap x3320) x3110)))), (.lst false n3288 c3289), (.lst false n3297 c3298)])) (
    casI (Int.tmod (IntKind.i64.wrap x3302) 4) 2 (
     grd (8 ≠ 0) <|
     grd ((Int.tmod (IntKind.i64.wrap x3091) (IntKind.i64.wrap (x3110 + 1))) ≠ 0) <|
     getI .u8 p3103 fun x3332 =>
     grd (x3110 ≠ 0) <|
     grd (0 ≤ (Int.tmod (IntKind.i64.wrap (IntKind.u8.wrap (Int.tdiv x3302 8))) (Int.tmod (IntKind.i64.wrap x3091) (IntKind.i64.wrap (x3110 + 1)))) ∧ (Int.tmod (IntKind.i64.wrap (IntKind.u8.wrap (Int.tdiv x3302 8))) (Int.tmod (IntKind.i64.wrap x3091) (IntKind.i64.wrap (x3110 + 1)))) < ((n3288 : Nat) : Int)) <|
     grd (((Int.toNat (Int.tmod (IntKind.i64.wrap (IntKind.u8.wrap (Int.tdiv x3302 8))) (Int.tmod (IntKind.i64.wrap x3091) (IntKind.i64.wrap (x3110 + 1))))) + 1) ≤ List.length c3289) <|
     grd (List.length c3271 = n3270) <|
     grd (List.length c3280 = n3279) <|
     grd (List.length (List.set c3289 (Int.toNat (Int.tmod (IntKind.i64.wrap (IntKind.u8.wrap (Int.tdiv x3302 8))) (Int.tmod (IntKind.i64.wrap x3091) (IntKind.i64.wrap (x3110 + 1))))) (.int .i64 (Int.tmod (IntKind.i64.wrap x3332) x3110))) = n3288) <|
     grd (List.length c3298 = n3297) <|
     some (.lst false 4 [(.lst false n3270 c3271), (.lst false n3279 c3280), (.lst false n3288 (List.set c3289 (Int.toNat (Int.tmod (IntKind.i64.wrap (IntKind.u8.wrap (Int.tdiv x3302 8))) (Int.tmod (IntKind.i64.wrap x3091) (IntKind.i64.wrap (x3110 + 1))))) (.int .i64 (Int.tmod (IntKind.i64.wrap x3332) x3110)))), (.lst false n3297 c3298)])) (
    casI (Int.tmod (IntKind.i64.wrap x3302) 4) 3 (
     grd (8 ≠ 0) <|
     grd ((Int.tmod (IntKind.i64.wrap x3091) (IntKind.i64.wrap (x3110 + 1))) ≠ 0) <|
     getI .u8 p3103 fun x3344 =>
     grd (x3110 ≠ 0) <|
     grd (0 ≤ (Int.tmod (IntKind.i64.wrap (IntKind.u8.wrap (Int.tdiv x3302 8))) (Int.tmod (IntKind.i64.wrap x3091) (IntKind.i64.wrap (x3110 + 1)))) ∧ (Int.tmod (IntKind.i64.wrap (IntKind.u8.wrap (Int.tdiv x3302 8))) (Int.tmod (IntKind.i64.wrap x3091) (IntKind.i64.wrap (x3110 + 1)))) < ((n3297 : Nat) : Int)) <|
     grd (((Int.toNat (Int.tmod (IntKind.i64.wrap (IntKind.u8.wrap (Int.tdiv x3302 8))) (Int.tmod (IntKind.i64.wrap x3091) (IntKind.i64.wrap (x3110 + 1))))) + 1) ≤ List.length c3298) <|
     grd (List.length c3271 = n3270) <|
     grd (List.length c3280 = n3279) <|
     grd (List.length c3289 = n3288) <|
     grd (List.length (List.set c3298 (Int.toNat (Int.tmod (IntKind.i64.wrap (IntKind.u8.wrap (Int.tdiv x3302 8))) (Int.tmod (IntKind.i64.wrap x3091) (IntKind.i64.wrap (x3110 + 1))))) (.int .i64 (Int.tmod (IntKind.i64.wrap x3344) x3110))) = n3297) <|
     some (.lst false 4 [(.lst false n3270 c3271), (.lst false n3279 c3280), (.lst false n3288 c3289), (.lst false n3297 (List.set c3298 (Int.toNat (Int.tmod (IntKind.i64.wrap (IntKind.u8.wrap (Int.tdiv x3302 8))) (Int.tmod (IntKind.i64.wrap x3091) (IntKind.i64.wrap (x3110 + 1))))) (.int .i64 (Int.tmod (IntKind.i64.wrap x3344) x3110))))])) (
    none))))) (
    grd (List.length c3271 = n3270) <|
    grd (List.length c3280 = n3279) <|
    grd (List.length c3289 = n3288) <|
    grd (List.length c3298 = n3297) <|
    some (.lst false 4 [(.lst false n3270 c3271), (.lst false n3279 c3280), (.lst false n3288 c3289), (.lst false n3297 c3298)]))) (
  none)))))
def m14_L3 (N : Nat) (x3091 : Int) (x3110 : Int) (n3359 : Nat) (c3360 : List PV) (x3375 : Int) (x3376 : Int) (n3382 : Nat) (c3383 : List PV) (x3384 : Int) (x3390 : Int) : Nat → Int → Int → Option (Int)
 | 0, _, _ => none
 | n + 1, x3393, x3394 =>
  brn (decide (x3394 < (((Int.toNat x3376) : Nat) : Int))) (
   grd (0 ≤ x3394 ∧ x3394 < (((Int.toNat x3376) : Nat) : Int)) <|
   grd (0 < List.length (List.drop (Int.toNat x3394) (List.take (Int.toNat x3376) c3360)) ∧ (Int.toNat x3394) < (Int.toNat x3376)) <|
   getL (gp c3360 (Int.toNat x3394)) fun n3401 c3402 =>
   grd (x3384 < ((n3401 : Nat) : Int)) <|
   grd (0 < List.length (List.drop (Int.toNat x3384) c3402)) <|
   getI .i64 (gp c3402 (Int.toNat x3384)) fun x3406 =>
   brn (x3406 == x3390) (
    m14_L3 N x3091 x3110 n3359 c3360 x3375 x3376 n3382 c3383 x3384 x3390 n 13 (IntKind.i64.wrap (x3394 + 1))) (
    m14_L3 N x3091 x3110 n3359 c3360 x3375 x3376 n3382 c3383 x3384 x3390 n x3393 (IntKind.i64.wrap (x3394 + 1)))) (
   some x3393)
def m14_L2 (N : Nat) (x3091 : Int) (x3110 : Int) (n3359 : Nat) (c3360 : List PV) (x3375 : Int) (x3376 : Int) (n3382 : Nat) (c3383 : List PV) : Nat → Int → Option ((PV ⊕ Unit))
 | 0, _ => none
 | n + 1, x3384 =>
  brn (decide (x3384 < ((n3382 : Nat) : Int))) (
   grd (0 ≤ x3384 ∧ x3384 < ((n3382 : Nat) : Int)) <|
   grd (0 < List.length (List.drop (Int.toNat x3384) c3383)) <|
   getI .i64 (gp c3383 (Int.toNat x3384)) fun x3390 =>
   grd (x3376 ≤ ((n3359 : Nat) : Int)) <|
   grd (List.length c3360 = n3359) <|
   bnd' (m14_L3 N x3091 x3110 n3359 c3360 x3375 x3376 n3382 c3383 x3384 x3390 N 0 0) fun x3408 =>
   grd (x3384 ≤ ((n3382 : Nat) : Int)) <|
   grd (List.length c3383 = n3382) <|
   bnd' (m57 N (.lst false (Int.toNat x3384) (List.take (Int.toNat x3384) c3383)) x3390) fun p3411 =>
   getB p3411 fun b3414 =>
   brn b3414 (
    bnd' (m45 N x3110 (.lst false n3359 c3360)) fun p3416 =>
    getT2 p3416 fun p3419 p3420 =>
    getI .i64 p3419 fun x3422 =>
    getI .i64 p3420 fun x3424 =>
    bnd' (m47 N x3110 (.lst false n3359 c3360)) fun p3425 =>
    getT2 p3425 fun p3428 p3429 =>
    getL p3428 fun n3431 c3432 =>
    getI .i64 p3429 fun x3434 =>
    brn (x3375 == 6) (
     brn (x3424 == 6) (
      brn (x3434 == 6) (
       bnd' (m16 N ) fun p3438 =>
       getB p3438 fun b3441 =>
       some (.inl (.bool b3441))) (
       some (.inl (.bool false)))) (
      some (.inl (.bool false)))) (
     some (.inl (.bool false)))) (
    brn (x3408 != 0) (
     bnd' (m45 N x3110 (.lst false n3359 c3360)) fun p3443 =>
     getT2 p3443 fun p3446 p3447 =>
     getI .i64 p3446 fun x3449 =>
     getI .i64 p3447 fun x3451 =>
     bnd' (m47 N x3110 (.lst false n3359 c3360)) fun p3452 =>
     getT2 p3452 fun p3455 p3456 =>
     getL p3455 fun n3458 c3459 =>
     getI .i64 p3456 fun x3461 =>
     brn (x3375 == x3408) (
      brn (x3451 == x3408) (
       brn (x3461 == x3408) (
        bnd' (m16 N ) fun p3465 =>
        getB p3465 fun b3468 =>
        some (.inl (.bool b3468))) (
        some (.inl (.bool false)))) (
       some (.inl (.bool false)))) (
      some (.inl (.bool false)))) (
     m14_L2 N x3091 x3110 n3359 c3360 x3375 x3376 n3382 c3383 n (IntKind.i64.wrap (x3384 + 1))))) (
   some (.inr ()))
def m14_L1 (N : Nat) (x3091 : Int) (x3110 : Int) (n3359 : Nat) (c3360 : List PV) (x3375 : Int) : Nat → Int → Option ((PV ⊕ Unit))
 | 0, _ => none
 | n + 1, x3376 =>
  brn (decide (x3376 < ((n3359 : Nat) : Int))) (
   grd (0 ≤ x3376 ∧ x3376 < ((n3359 : Nat) : Int)) <|
   grd (0 < List.length (List.drop (Int.toNat x3376) c3360)) <|
   getL (gp c3360 (Int.toNat x3376)) fun n3382 c3383 =>
   bnd' (m14_L2 N x3091 x3110 n3359 c3360 x3375 x3376 n3382 c3383 N 0) fun o =>
   match o with
   | .inl p3469 =>
    some (.inl p3469)
   | .inr () =>
    m14_L1 N x3091 x3110 n3359 c3360 x3375 n (IntKind.i64.wrap (x3376 + 1))) (
   some (.inr ()))
def m14_L5 (N : Nat) (x3091 : Int) (x3110 : Int) (n3359 : Nat) (c3360 : List PV) (x3375 : Int) (x3471 : Int) (x3472 : Int) : Nat → Int → Int → Option (Int)
 | 0, _, _ => none
 | n + 1, x3474, x3475 =>
  brn (decide (x3475 < ((n3359 : Nat) : Int))) (
   grd (0 ≤ x3475 ∧ x3475 < ((n3359 : Nat) : Int)) <|
   grd (0 < List.length (List.drop (Int.toNat x3475) c3360)) <|
   getL (gp c3360 (Int.toNat x3475)) fun n3481 c3482 =>
   bnd' (m57 N (.lst false n3481 c3482) x3472) fun p3483 =>
   getB p3483 fun b3486 =>
   brn b3486 (
    m14_L5 N x3091 x3110 n3359 c3360 x3375 x3471 x3472 n (IntKind.i64.wrap (x3474 + 1)) (IntKind.i64.wrap (x3475 + 1))) (
    m14_L5 N x3091 x3110 n3359 c3360 x3375 x3471 x3472 n x3474 (IntKind.i64.wrap (x3475 + 1)))) (
   some x3474)
def m14_L4 (N : Nat) (x3091 : Int) (x3110 : Int) (n3359 : Nat) (c3360 : List PV) (x3375 : Int) : Nat → Int → Int → Option ((PV ⊕ Int))
 | 0, _, _ => none
 | n + 1, x3471, x3472 =>
  brn (decide (x3472 ≥ 0)) (
   bnd' (m14_L5 N x3091 x3110 n3359 c3360 x3375 x3471 x3472 N 0 0) fun x3488 =>
   brn (decide (x3488 < (IntKind.i64.wrap ((IntKind.i64.wrap (((n3359 : Nat) : Int) + (Int.tmod (IntKind.i64.wrap x3091) (IntKind.i64.wrap (x3110 + 1))))) - x3110)))) (
    brn (decide (((n3359 : Nat) : Int) > 0)) (
     bnd' (m51 N x3110 (.lst false n3359 c3360) x3472) fun p3515 =>
     getI .i64 p3515 fun x3518 =>
     brn (x3518 != 0) (
      some (.inl (.bool false))) (
      m14_L4 N x3091 x3110 n3359 c3360 x3375 n x3472 (IntKind.i64.wrap (x3472 - 1)))) (
     bnd' (m51 N x3110 (.lst false n3359 c3360) x3472) fun p3520 =>
     getI .i64 p3520 fun x3523 =>
     brn (x3523 != 14) (
      some (.inl (.bool false))) (
      m14_L4 N x3091 x3110 n3359 c3360 x3375 n x3471 (IntKind.i64.wrap (x3472 - 1))))) (
    bnd' (m51 N x3110 (.lst false n3359 c3360) x3472) fun p3525 =>
    getI .i64 p3525 fun x3528 =>
    brn (x3528 != 14) (
     some (.inl (.bool false))) (
     m14_L4 N x3091 x3110 n3359 c3360 x3375 n x3471 (IntKind.i64.wrap (x3472 - 1))))) (
   some (.inr x3471))
def m14 (N : Nat) (p3090 : PV) (x3091 : Int) (p3092 : PV) : Option (PV) :=
 getA7 p3090 fun p3094 p3095 p3096 p3097 p3098 p3099 p3100 =>
 getA2 p3092 fun p3102 p3103 =>
 bnd' (m37 N (.agg [p3094, p3095, p3096, p3097, p3098, p3099, p3100]) 4) fun p3104 =>
 getT2 p3104 fun p3107 p3108 =>
 getI .i64 p3107 fun x3110 =>
 getL p3108 fun n3112 c3113 =>
 grd ((IntKind.i64.wrap (x3110 + 1)) ≠ 0) <|
 bnd' (m14_L0 N x3091 p3102 p3103 x3110 n3112 c3113) fun p3357 =>
 getL p3357 fun n3359 c3360 =>
 bnd' (m49 N x3110 (.lst false n3359 c3360)) fun p3372 =>
 getI .i64 p3372 fun x3375 =>
 bnd' (m14_L1 N x3091 x3110 n3359 c3360 x3375 N 0) fun o =>
 match o with
 | .inl p3470 =>
  some p3470
 | .inr () =>
  bnd' (m14_L4 N x3091 x3110 n3359 c3360 x3375 N (-1) (IntKind.i64.wrap (x3110 - 1))) fun o =>
  match o with
  | .inl p3530 =>
   some p3530
  | .inr x3531 =>
   bnd' (m58 N (.lst false n3359 c3360) x3110 (Int.tmod (IntKind.i64.wrap x3091) (IntKind.i64.wrap (x3110 + 1))) (.lst false n3359 c3360) x3110 (Int.tmod (IntKind.i64.wrap x3091) (IntKind.i64.wrap (x3110 + 1)))) fun (p4276, p4278) =>
   getB p4276 fun b4280 =>
   bnd' (m45 N x3110 (.lst false n3359 c3360)) fun p4281 =>
   getT2 p4281 fun p4284 p4285 =>
   getI .i64 p4284 fun x4287 =>
   getI .i64 p4285 fun x4289 =>
   bnd' (m47 N x3110 (.lst false n3359 c3360)) fun p4290 =>
   getT2 p4290 fun p4293 p4294 =>
   getL p4293 fun n4296 c4297 =>
   getI .i64 p4294 fun x4299 =>
   brn (x3375 != 0) (
    some (.bool false)) (
    brn (b4280 != (decide (x3531 < 0))) (
     some (.bool false)) (
     brn b4280 (
      brn (x4289 == 13) (
       brn (x4299 == 0) (
        bnd' (m40 N x3110 (.lst false n4296 c4297)) fun p4305 =>
        getB p4305 fun b4308 =>
        brn b4308 (
         brn (((n4296 : Nat) : Int) == x3110) (
          grd (0 ≤ ((n3359 : Nat) : Int) ∧ ((n3359 : Nat) : Int) ≤ ((n4296 : Nat) : Int)) <|
          grd (List.length c4297 = n4296) <|
          getL p4278 fun n4315 c4316 =>
          bnd' (m21 N (.lst false n3359 (List.take n3359 c4297)) (.lst false n4315 c4316)) fun p4317 =>
          getB p4317 fun b4320 =>
          brn b4320 (
           bnd' (m16 N ) fun p4322 =>
           getB p4322 fun b4325 =>
           some (.bool b4325)) (
           some (.bool false))) (
          some (.bool false))) (
         some (.bool false))) (
        some (.bool false))) (
       some (.bool false))) (
      brn (x4289 == 0) (
       brn (x4287 == x3531) (
        brn (x4299 == 12) (
         brn (((n4296 : Nat) : Int) == 0) (
          bnd' (m16 N ) fun p4330 =>
          getB p4330 fun b4333 =>
          some (.bool b4333)) (
          some (.bool false))) (
         some (.bool false))) (
        some (.bool false))) (
       some (.bool false)))))
theorem c14 (N : Nat) (p3090 : PV) (x3091 : Int) (p3092 : PV) (r : PV)  (h : m14 N p3090 x3091 p3092 = some r) : FnP Tryd.prog 14 [p3090, (.int .u8 x3091), p3092] r := by
 unfold m14 at h
 refine Fn_of (sz := 271) tab_ok [0, 1, 2, 3, 5, 6, 7, 8, 9, 10, 12, 13, 14, 15, 16, 17, 18, 19, 21, 23, 25, 26, 27, 28, 30, 31, 32, 33, 34, 35, 36, 37, 38, 49, 50, 51, 52, 69, 95, 96, 97, 98, 102, 103, 104, 105, 111, 112, 113, 114, 122, 128, 130, 164, 167, 168, 169, 170, 175, 191, 198, 221, 223] [.tmp 6] Tryd.func14 rfl rfl rfl (by simp) ?_
 simp only [initSt, initEnv, List.map_cons, List.map_nil, List.getD_cons_zero, List.getD_cons_succ, List.getD_nil]
 replace h := getA7_some h; obtain ⟨p3094, p3095, p3096, p3097, p3098, p3099, p3100, h3093, h⟩ := h
 replace h := getA2_some h; obtain ⟨p3102, p3103, h3101, h⟩ := h
 replace h := bnd'_some h; obtain ⟨p3104, h3105, h⟩ := h
 refine W_sound tab_ok mixed 9 _ _ _ ?_
 simp -implicitDefEqProofs only [go_sem, Nat.reduceBEq, Nat.reduceAdd, Nat.reduceLT, Nat.reduceLeDiff, h3093, h3101]
 repeat with_reducible refine And.intro (by first | kernel_rfl | decide) ?_
 refine Wp_callP (c37 N _ _ _ h3105) (by kernel_rfl) rfl rfl rfl rfl (by decide) ?_
 replace h := getT2_some h; obtain ⟨p3107, p3108, h3106, h⟩ := h
 replace h := getI_some h; obtain ⟨x3110, h3109, h⟩ := h
 replace h := getL_some h; obtain ⟨n3112, c3113, h3111, h⟩ := h
 replace h := grd_some h; obtain ⟨g3114, h⟩ := h
 refine W_sound tab_ok mixed 21 _ _ _ ?_
 simp -implicitDefEqProofs only [go_sem, Nat.reduceBEq, Nat.reduceAdd, Nat.reduceLT, Nat.reduceLeDiff, Int.reduceLE, Int.reduceToNat, ↓reduceIte, h3106, h3109, h3111, g3114]
 repeat with_reducible refine And.intro (by first | kernel_rfl | decide) ?_
 replace h := bnd'_some h; obtain ⟨o4334, h4335, h4336⟩ := h
 refine Wp_seqj (fun s => ∃ p3357, p3357 = o4334 ∧ s = ⟨[], [(0, .dead), (1, .dead), (2, .dead), (3, .dead), (5, .dead), (6, .dead), (7, .v (.ipt [(.int .i64 x3110)])), (8, .dead), (9, .v (.ipt [(.int .i64 (Int.tmod (IntKind.i64.wrap x3091) (IntKind.i64.wrap (x3110 + 1))))])), (10, .v (.ipt [p3357])), (12, .dead), (13, .dead), (14, .dead), (15, .dead), (16, .dead), (17, .dead), (18, .dead), (19, .dead), (21, .dead), (23, .dead), (25, .dead), (26, .dead), (27, .dead), (28, .dead), (30, .dead), (31, .dead), (32, .dead), (33, .dead), (34, .dead), (35, .dead), (36, .dead), (37, .dead), (38, .dead), (49, .dead), (50, .dead), (51, .dead), (52, .dead), (69, .dead), (95, .dead), (96, .dead), (97, .dead), (98, .dead), (102, .dead), (103, .dead), (104, .dead), (105, .dead), (111, .dead), (112, .dead), (113, .dead), (114, .dead), (122, .dead), (128, .dead), (130, .dead), (164, .dead), (167, .dead), (168, .dead), (169, .dead), (170, .dead), (175, .dead), (191, .dead), (198, .dead), (221, .dead), (223, .dead)], [], 0, []⟩) ?_ ?_
 ·clear h4336
  unfold m14_L0 at h4335
  replace h4335 := casN_some h4335; rcases h4335 with ⟨rfl, h4335⟩ | ⟨_, h4335⟩
  ·refine W_sound tab_ok mixed 6 _ _ _ ?_
   simp -implicitDefEqProofs only [go_sem, Nat.reduceBEq, Nat.reduceLT]
   repeat with_reducible refine And.intro (by first | kernel_rfl | decide) ?_
   refine Wp_block ?_
   refine Wp_loopL (WpL_step ?_)
   refine W_sound tab_ok mixed 19 _ _ _ ?_
   simp -implicitDefEqProofs only [go_sem, Nat.reduceBEq, Nat.reduceLT, Int.reduceLT, ↓reduceIte, Int.reduceGT]
   repeat with_reducible refine And.intro (by first | kernel_rfl | decide) ?_
   refine Wp_wkK (Wk_freeze 13 [(.int .i64 x3110)] (by rfl) (by decide) (by decide)) rfl ?_
   simp -implicitDefEqProofs only [go_sem, Nat.reduceBEq]
   refine Wp_wkK (Wk_freeze 23 [(.int .i64 (Int.tmod (IntKind.i64.wrap x3091) (IntKind.i64.wrap (x3110 + 1))))] (by rfl) (by decide) (by decide)) rfl ?_
   simp -implicitDefEqProofs only [go_sem, Nat.reduceBEq]
   refine Wp_wkK (Wk_freeze 34 [.nl] (by rfl) (by decide) (by decide)) rfl ?_
   simp -implicitDefEqProofs only [go_sem, Nat.reduceBEq]
   (try simp -implicitDefEqProofs only [go_sem, Nat.reduceBEq, Nat.reduceAdd, Nat.reduceSub, Nat.reduceMul, Nat.reduceLT, Nat.reduceLeDiff, Int.reduceLE, Int.reduceLT, Int.reduceToNat, Int.reduceBEq, Int.reduceBNe, ↓reduceIte, Int.reduceAdd, Int.reduceSub, Int.reduceGT, Int.reduceGE, h3093, h3101, h3106, h3109, h3111, g3114])
   obtain rfl := Option.some.inj h4335
   refine cutQ _ ?_ ⟨_, rfl, rfl⟩
   exact (Wk_le (.cons _ _ _ _ _ (.dead _) (.cons _ _ _ _ _ (.dead _) (.cons _ _ _ _ _ (.dead _) (.cons _ _ _ _ _ (.dead _) (.cons _ _ _ _ _ (.dead _) (.cons _ _ _ _ _ (.dead _) (.cons _ _ _ _ _ (.refl _) (.cons _ _ _ _ _ (.dead _) (.cons _ _ _ _ _ (.refl _) (.cons _ _ _ _ _ (.v _ _ (.ipt _ _ (.cons _ _ _ _ (.nl false) .nil))) (.cons _ _ _ _ _ (.refl _) (.cons _ _ _ _ _ (.refl _) (.cons _ _ _ _ _ (.refl _) (.cons _ _ _ _ _ (.refl _) (.cons _ _ _ _ _ (.refl _) (.cons _ _ _ _ _ (.refl _) (.cons _ _ _ _ _ (.refl _) (.cons _ _ _ _ _ (.refl _) (.cons _ _ _ _ _ (.refl _) (.cons _ _ _ _ _ (.refl _) (.cons _ _ _ _ _ (.refl _) (.cons _ _ _ _ _ (.refl _) (.cons _ _ _ _ _ (.refl _) (.cons _ _ _ _ _ (.refl _) (.cons _ _ _ _ _ (.refl _) (.cons _ _ _ _ _ (.refl _) (.cons _ _ _ _ _ (.refl _) (.cons _ _ _ _ _ (.refl _) (.cons _ _ _ _ _ (.refl _) (.cons _ _ _ _ _ (.refl _) (.cons _ _ _ _ _ (.refl _) (.cons _ _ _ _ _ (.refl _) (.cons _ _ _ _ _ (.refl _) (.cons _ _ _ _ _ (.dead _) (.cons _ _ _ _ _ (.dead _) (.cons _ _ _ _ _ (.dead _) (.cons _ _ _ _ _ (.dead _) (.cons _ _ _ _ _ (.dead _) (.cons _ _ _ _ _ (.refl _) (.cons _ _ _ _ _ (.refl _) (.cons _ _ _ _ _ (.refl _) (.cons _ _ _ _ _ (.refl _) (.cons _ _ _ _ _ (.refl _) (.cons _ _ _ _ _ (.refl _) (.cons _ _ _ _ _ (.refl _) (.cons _ _ _ _ _ (.refl _) (.cons _ _ _ _ _ (.refl _) (.cons _ _ _ _ _ (.refl _) (.cons _ _ _ _ _ (.refl _) (.cons _ _ _ _ _ (.refl _) (.cons _ _ _ _ _ (.refl _) (.cons _ _ _ _ _ (.refl _) (.cons _ _ _ _ _ (.refl _) (.cons _ _ _ _ _ (.refl _) (.cons _ _ _ _ _ (.refl _) (.cons _ _ _ _ _ (.refl _) (.cons _ _ _ _ _ (.refl _) (.cons _ _ _ _ _ (.refl _) (.cons _ _ _ _ _ (.refl _) (.cons _ _ _ _ _ (.refl _) (.cons _ _ _ _ _ (.refl _) (.cons _ _ _ _ _ (.refl _) (.cons _ _ _ _ _ (.refl _) .nil))))))))))))))))))))))))))))))))))))))))))))))))))))))))))))))) (OLe.refl _)).trans (cmpS_ok (by kernel_rfl))
  ·skip
   replace h4335 := casN_some h4335; rcases h4335 with ⟨rfl, h4335⟩ | ⟨_, h4335⟩
   ·refine W_sound tab_ok mixed 6 _ _ _ ?_
    simp -implicitDefEqProofs only [go_sem, Nat.reduceBEq, Nat.reduceLT]
    repeat with_reducible refine And.intro (by first | kernel_rfl | decide) ?_
    refine Wp_block ?_
    refine Wp_loopL (WpL_step ?_)
    replace h4335 := grd_some h4335; obtain ⟨g3116, h4335⟩ := h4335
    replace h4335 := getL_some h4335; obtain ⟨n3118, c3119, h3117, h4335⟩ := h4335
    replace h4335 := grd_some h4335; obtain ⟨⟨g3120, g3121⟩, h4335⟩ := h4335
    replace h4335 := grd_some h4335; obtain ⟨g3122, h4335⟩ := h4335
    replace h4335 := bnd'_some h4335; obtain ⟨⟨n3130, c3131⟩, h3132, h4335⟩ := h4335
    (try dsimp only at h4335)
    refine W_sound tab_ok mixed 20 _ _ _ ?_
    simp -implicitDefEqProofs only [go_sem, Nat.reduceBEq, Nat.reduceLT, Int.reduceLE, Int.reduceLT, Int.reduceToNat, ↓reduceIte, g3116, h3117, g3120, g3121, g3122]
    repeat with_reducible refine And.intro (by first | kernel_rfl | decide) ?_
    refine Wp_callD [] (c56_2 N _ _ _ h3132) rfl rfl rfl (by first | rfl | (simp only [go_sem, Nat.reduceBEq, Nat.reduceAdd, Nat.reduceSub, Nat.reduceMul, Nat.reduceLT, Nat.reduceLeDiff, Int.reduceLE, Int.reduceLT, Int.reduceToNat, Int.reduceBEq, Int.reduceBNe, ↓reduceIte, Int.reduceAdd, Int.reduceSub, Int.reduceGT, Int.reduceGE, h3093, h3101, h3106, h3109, h3111, g3114, g3116, h3117, g3120, g3121, g3122] <;> rfl)) rfl (by kernel_rfl) ?_
    refine W_sound tab_ok mixed 9 _ _ _ ?_
    simp -implicitDefEqProofs only [go_sem, Nat.reduceBEq, Nat.reduceAdd, Nat.reduceSub, Nat.reduceMul, Nat.reduceLT, Nat.reduceLeDiff, Int.reduceLE, Int.reduceToNat, ↓reduceIte, Int.reduceAdd]
    repeat with_reducible refine And.intro (by first | kernel_rfl | decide) ?_
    refine again (Wk_keep (st' := ⟨[], [(0, .dead), (1, .dead), (2, .dead), (3, .dead), (5, .ptr 0 0), (6, .dead), (7, .ptr 1 0), (8, .dead), (9, .ptr 2 0), (10, .ptr 3 0), (12, .dead), (13, .dead), (14, .dead), (15, .dead), (16, .dead), (17, .dead), (18, .dead), (19, .dead), (21, .dead), (23, .dead), (25, .dead), (26, .dead), (27, .dead), (28, .dead), (30, .dead), (31, .dead), (32, .dead), (33, .dead), (34, .dead), (35, .dead), (36, .dead), (37, .dead), (38, .dead), (49, .v (.lst false 1 c3113)), (50, .v (.int .i64 1)), (51, .v (.int .i64 1)), (52, .dead), (69, .dead), (95, .dead), (96, .dead), (97, .dead), (98, .dead), (102, .dead), (103, .dead), (104, .dead), (105, .dead), (111, .dead), (112, .dead), (113, .dead), (114, .dead), (122, .dead), (128, .dead), (130, .dead), (164, .dead), (167, .dead), (168, .dead), (169, .dead), (170, .dead), (175, .dead), (191, .dead), (198, .dead), (221, .dead), (223, .dead)], [(0, .p [p3102, p3103]), (1, .p [(.int .i64 x3110)]), (2, .p [(.int .i64 (Int.tmod (IntKind.i64.wrap x3091) (IntKind.i64.wrap (x3110 + 1))))]), (3, .r [.sl false 4 0 1 1]), (4, .r [.sl false 5 0 n3130 1]), (5, .p c3131)], 6, []⟩) [5, 7, 9, 10, 49, 50, 51] (by kernel_rfl)) ?_
    replace h4335 := brn_some h4335; rcases h4335 with ⟨h3133, h4335⟩ | ⟨h3133, h4335⟩
    ·replace h4335 := getI_some h4335; obtain ⟨x3135, h3134, h4335⟩ := h4335
     replace h4335 := grd_some h4335; obtain ⟨g3136, h4335⟩ := h4335
     replace h4335 := casI_some h4335; rcases h4335 with ⟨h3137, h4335⟩ | ⟨_, h4335⟩
     ·replace h4335 := grd_some h4335; obtain ⟨g3138, h4335⟩ := h4335
      replace h4335 := grd_some h4335; obtain ⟨g3139, h4335⟩ := h4335
      replace h4335 := getI_some h4335; obtain ⟨x3141, h3140, h4335⟩ := h4335
      replace h4335 := grd_some h4335; obtain ⟨g3142, h4335⟩ := h4335
      replace h4335 := grd_some h4335; obtain ⟨⟨g3143, g3144⟩, h4335⟩ := h4335
      replace h4335 := grd_some h4335; obtain ⟨g3145, h4335⟩ := h4335
      refine W_sound tab_ok mixed 47 _ _ _ ?_
      simp -implicitDefEqProofs only [go_sem, Nat.reduceBEq, Nat.reduceAdd, Nat.reduceLT, Nat.reduceLeDiff, Int.reduceLE, Int.reduceLT, Int.reduceToNat, ↓reduceIte, Int.reduceGT, g3120, h3133, h3134, h3137, g3139, h3140, g3142, g3143, g3144, g3145]
      repeat with_reducible refine And.intro (by first | kernel_rfl | decide) ?_
      refine Wp_wkK (Wk_freeze 1 [(.int .i64 x3110)] (by rfl) (by decide) (by decide)) rfl ?_
      simp -implicitDefEqProofs only [go_sem, Nat.reduceBEq]
      refine Wp_wkK (Wk_freeze 2 [(.int .i64 (Int.tmod (IntKind.i64.wrap x3091) (IntKind.i64.wrap (x3110 + 1))))] (by rfl) (by decide) (by decide)) rfl ?_
      simp -implicitDefEqProofs only [go_sem, Nat.reduceBEq]
      replace h4335 := grd_some h4335; obtain ⟨g3146, h4335⟩ := h4335
      refine Wp_wkK (Wk_freeze 5 (List.set c3131 (Int.toNat (Int.tmod (IntKind.i64.wrap (IntKind.u8.wrap (Int.tdiv x3135 8))) (Int.tmod (IntKind.i64.wrap x3091) (IntKind.i64.wrap (x3110 + 1))))) (.int .i64 (Int.tmod (IntKind.i64.wrap x3141) x3110))) (by rfl) (by decide) (by decide)) rfl ?_
      simp -implicitDefEqProofs only [go_sem, Nat.reduceBEq, g3146]
      refine Wp_wkK (Wk_freeze 4 [(.lst false n3130 (List.set c3131 (Int.toNat (Int.tmod (IntKind.i64.wrap (IntKind.u8.wrap (Int.tdiv x3135 8))) (Int.tmod (IntKind.i64.wrap x3091) (IntKind.i64.wrap (x3110 + 1))))) (.int .i64 (Int.tmod (IntKind.i64.wrap x3141) x3110))))] (by rfl) (by decide) (by decide)) rfl ?_
      simp -implicitDefEqProofs only [go_sem, Nat.reduceBEq]
      refine Wp_wkK (Wk_freeze 3 [(.lst false 1 [(.lst false n3130 (List.set c3131 (Int.toNat (Int.tmod (IntKind.i64.wrap (IntKind.u8.wrap (Int.tdiv x3135 8))) (Int.tmod (IntKind.i64.wrap x3091) (IntKind.i64.wrap (x3110 + 1))))) (.int .i64 (Int.tmod (IntKind.i64.wrap x3141) x3110))))])] (by rfl) (by decide) (by decide)) rfl ?_
      simp -implicitDefEqProofs only [go_sem, Nat.reduceBEq]
      (try simp -implicitDefEqProofs only [go_sem, Nat.reduceBEq, Nat.reduceAdd, Nat.reduceSub, Nat.reduceMul, Nat.reduceLT, Nat.reduceLeDiff, Int.reduceLE, Int.reduceLT, Int.reduceToNat, Int.reduceBEq, Int.reduceBNe, ↓reduceIte, Int.reduceAdd, Int.reduceSub, Int.reduceGT, Int.reduceGE, h3093, h3101, h3106, h3109, h3111, g3114, g3116, h3117, g3120, g3121, g3122, h3133, h3134, g3136, h3137, g3138, g3139, h3140, g3142, g3143, g3144, g3145, g3146])
      obtain rfl := Option.some.inj h4335
      refine cutQ _ ?_ ⟨_, rfl, rfl⟩
      exact Wk_keep [7, 9, 10] (by kernel_rfl)
     ·skip
      cases h4335
    ·refine W_sound tab_ok mixed 19 _ _ _ ?_
     simp -implicitDefEqProofs only [go_sem, Nat.reduceBEq, Nat.reduceLT, Int.reduceLE, Int.reduceLT, Int.reduceToNat, ↓reduceIte, Int.reduceGT, h3133]
     repeat with_reducible refine And.intro (by first | kernel_rfl | decide) ?_
     refine Wp_wkK (Wk_freeze 1 [(.int .i64 x3110)] (by rfl) (by decide) (by decide)) rfl ?_
     simp -implicitDefEqProofs only [go_sem, Nat.reduceBEq]
     refine Wp_wkK (Wk_freeze 2 [(.int .i64 (Int.tmod (IntKind.i64.wrap x3091) (IntKind.i64.wrap (x3110 + 1))))] (by rfl) (by decide) (by decide)) rfl ?_
     simp -implicitDefEqProofs only [go_sem, Nat.reduceBEq]
     replace h4335 := grd_some h4335; obtain ⟨g3147, h4335⟩ := h4335
     refine Wp_wkK (Wk_freeze 5 c3131 (by rfl) (by decide) (by decide)) rfl ?_
     simp -implicitDefEqProofs only [go_sem, Nat.reduceBEq, g3147]
     refine Wp_wkK (Wk_freeze 4 [(.lst false n3130 c3131)] (by rfl) (by decide) (by decide)) rfl ?_
     simp -implicitDefEqProofs only [go_sem, Nat.reduceBEq]
     refine Wp_wkK (Wk_freeze 3 [(.lst false 1 [(.lst false n3130 c3131)])] (by rfl) (by decide) (by decide)) rfl ?_
     simp -implicitDefEqProofs only [go_sem, Nat.reduceBEq]
     (try simp -implicitDefEqProofs only [go_sem, Nat.reduceBEq, Nat.reduceAdd, Nat.reduceSub, Nat.reduceMul, Nat.reduceLT, Nat.reduceLeDiff, Int.reduceLE, Int.reduceLT, Int.reduceToNat, Int.reduceBEq, Int.reduceBNe, ↓reduceIte, Int.reduceAdd, Int.reduceSub, Int.reduceGT, Int.reduceGE, h3093, h3101, h3106, h3109, h3111, g3114, g3116, h3117, g3120, g3121, g3122, h3133, g3147])
     obtain rfl := Option.some.inj h4335
     refine cutQ _ ?_ ⟨_, rfl, rfl⟩
     exact Wk_keep [7, 9, 10] (by kernel_rfl)
   ·skip
    replace h4335 := casN_some h4335; rcases h4335 with ⟨rfl, h4335⟩ | ⟨_, h4335⟩
    ·refine W_sound tab_ok mixed 6 _ _ _ ?_
     simp -implicitDefEqProofs only [go_sem, Nat.reduceBEq, Nat.reduceLT]
     repeat with_reducible refine And.intro (by first | kernel_rfl | decide) ?_
     refine Wp_block ?_
     refine Wp_loopL (WpL_step ?_)
     replace h4335 := grd_some h4335; obtain ⟨g3148, h4335⟩ := h4335
     replace h4335 := getL_some h4335; obtain ⟨n3150, c3151, h3149, h4335⟩ := h4335
     replace h4335 := grd_some h4335; obtain ⟨⟨g3152, g3153⟩, h4335⟩ := h4335
     replace h4335 := grd_some h4335; obtain ⟨g3154, h4335⟩ := h4335
     replace h4335 := bnd'_some h4335; obtain ⟨⟨n3155, c3156⟩, h3157, h4335⟩ := h4335
     (try dsimp only at h4335)
     refine W_sound tab_ok mixed 20 _ _ _ ?_
     simp -implicitDefEqProofs only [go_sem, Nat.reduceBEq, Nat.reduceLT, Int.reduceLE, Int.reduceLT, Int.reduceToNat, ↓reduceIte, g3148, h3149, g3152, g3153, g3154]
     repeat with_reducible refine And.intro (by first | kernel_rfl | decide) ?_
     refine Wp_callD [] (c56_2 N _ _ _ h3157) rfl rfl rfl (by first | rfl | (simp only [go_sem, Nat.reduceBEq, Nat.reduceAdd, Nat.reduceSub, Nat.reduceMul, Nat.reduceLT, Nat.reduceLeDiff, Int.reduceLE, Int.reduceLT, Int.reduceToNat, Int.reduceBEq, Int.reduceBNe, ↓reduceIte, Int.reduceAdd, Int.reduceSub, Int.reduceGT, Int.reduceGE, h3093, h3101, h3106, h3109, h3111, g3114, g3148, h3149, g3152, g3153, g3154] <;> rfl)) rfl (by kernel_rfl) ?_
     refine W_sound tab_ok mixed 9 _ _ _ ?_
     simp -implicitDefEqProofs only [go_sem, Nat.reduceBEq, Nat.reduceAdd, Nat.reduceSub, Nat.reduceMul, Nat.reduceLT, Nat.reduceLeDiff, Int.reduceLE, Int.reduceToNat, ↓reduceIte, Int.reduceAdd]
     repeat with_reducible refine And.intro (by first | kernel_rfl | decide) ?_
     refine again (Wk_keep (st' := ⟨[], [(0, .dead), (1, .dead), (2, .dead), (3, .dead), (5, .ptr 0 0), (6, .dead), (7, .ptr 1 0), (8, .dead), (9, .ptr 2 0), (10, .ptr 3 0), (12, .dead), (13, .dead), (14, .dead), (15, .dead), (16, .dead), (17, .dead), (18, .dead), (19, .dead), (21, .dead), (23, .dead), (25, .dead), (26, .dead), (27, .dead), (28, .dead), (30, .dead), (31, .dead), (32, .dead), (33, .dead), (34, .dead), (35, .dead), (36, .dead), (37, .dead), (38, .dead), (49, .v (.lst false 2 c3113)), (50, .v (.int .i64 2)), (51, .v (.int .i64 1)), (52, .dead), (69, .dead), (95, .dead), (96, .dead), (97, .dead), (98, .dead), (102, .dead), (103, .dead), (104, .dead), (105, .dead), (111, .dead), (112, .dead), (113, .dead), (114, .dead), (122, .dead), (128, .dead), (130, .dead), (164, .dead), (167, .dead), (168, .dead), (169, .dead), (170, .dead), (175, .dead), (191, .dead), (198, .dead), (221, .dead), (223, .dead)], [(0, .p [p3102, p3103]), (1, .p [(.int .i64 x3110)]), (2, .p [(.int .i64 (Int.tmod (IntKind.i64.wrap x3091) (IntKind.i64.wrap (x3110 + 1))))]), (3, .r [.sl false 4 0 1 1]), (4, .r [.sl false 5 0 n3155 1]), (5, .p c3156)], 6, []⟩) [5, 7, 9, 10, 49, 50, 51] (by kernel_rfl)) ?_
     replace h4335 := grd_some h4335; obtain ⟨g3158, h4335⟩ := h4335
     replace h4335 := getL_some h4335; obtain ⟨n3160, c3161, h3159, h4335⟩ := h4335
     replace h4335 := grd_some h4335; obtain ⟨g3162, h4335⟩ := h4335
     replace h4335 := grd_some h4335; obtain ⟨g3163, h4335⟩ := h4335
     replace h4335 := bnd'_some h4335; obtain ⟨⟨n3164, c3165⟩, h3166, h4335⟩ := h4335
     (try dsimp only at h4335)
     refine W_sound tab_ok mixed 20 _ _ _ ?_
     simp -implicitDefEqProofs only [go_sem, Nat.reduceBEq, Nat.reduceLT, Int.reduceLE, Int.reduceLT, Int.reduceToNat, ↓reduceIte, g3152, g3158, h3159, g3162, g3163]
     repeat with_reducible refine And.intro (by first | kernel_rfl | decide) ?_
     refine Wp_callD [] (c56_2 N _ _ _ h3166) rfl rfl rfl (by first | rfl | (simp only [go_sem, Nat.reduceBEq, Nat.reduceAdd, Nat.reduceSub, Nat.reduceMul, Nat.reduceLT, Nat.reduceLeDiff, Int.reduceLE, Int.reduceLT, Int.reduceToNat, Int.reduceBEq, Int.reduceBNe, ↓reduceIte, Int.reduceAdd, Int.reduceSub, Int.reduceGT, Int.reduceGE, h3093, h3101, h3106, h3109, h3111, g3114, g3148, h3149, g3152, g3153, g3154, g3158, h3159, g3162, g3163] <;> rfl)) rfl (by kernel_rfl) ?_
     refine W_sound tab_ok mixed 9 _ _ _ ?_
     simp -implicitDefEqProofs only [go_sem, Nat.reduceBEq, Nat.reduceAdd, Nat.reduceSub, Nat.reduceMul, Nat.reduceLT, Nat.reduceLeDiff, Int.reduceLE, Int.reduceToNat, ↓reduceIte, Int.reduceAdd]
     repeat with_reducible refine And.intro (by first | kernel_rfl | decide) ?_
     refine again (Wk_keep (st' := ⟨[], [(0, .dead), (1, .dead), (2, .dead), (3, .dead), (5, .ptr 0 0), (6, .dead), (7, .ptr 1 0), (8, .dead), (9, .ptr 2 0), (10, .ptr 3 0), (12, .dead), (13, .dead), (14, .dead), (15, .dead), (16, .dead), (17, .dead), (18, .dead), (19, .dead), (21, .dead), (23, .dead), (25, .dead), (26, .dead), (27, .dead), (28, .dead), (30, .dead), (31, .dead), (32, .dead), (33, .dead), (34, .dead), (35, .dead), (36, .dead), (37, .dead), (38, .dead), (49, .v (.lst false 2 c3113)), (50, .v (.int .i64 2)), (51, .v (.int .i64 2)), (52, .dead), (69, .dead), (95, .dead), (96, .dead), (97, .dead), (98, .dead), (102, .dead), (103, .dead), (104, .dead), (105, .dead), (111, .dead), (112, .dead), (113, .dead), (114, .dead), (122, .dead), (128, .dead), (130, .dead), (164, .dead), (167, .dead), (168, .dead), (169, .dead), (170, .dead), (175, .dead), (191, .dead), (198, .dead), (221, .dead), (223, .dead)], [(0, .p [p3102, p3103]), (1, .p [(.int .i64 x3110)]), (2, .p [(.int .i64 (Int.tmod (IntKind.i64.wrap x3091) (IntKind.i64.wrap (x3110 + 1))))]), (3, .r [.sl false 4 0 2 1]), (4, .r [.sl false 5 0 n3155 1, .sl false 6 0 n3164 1]), (5, .p c3156), (6, .p c3165)], 7, []⟩) [5, 7, 9, 10, 49, 50, 51] (by kernel_rfl)) ?_
     replace h4335 := brn_some h4335; rcases h4335 with ⟨h3167, h4335⟩ | ⟨h3167, h4335⟩
     ·replace h4335 := getI_some h4335; obtain ⟨x3169, h3168, h4335⟩ := h4335
      replace h4335 := grd_some h4335; obtain ⟨g3170, h4335⟩ := h4335
      replace h4335 := casI_some h4335; rcases h4335 with ⟨h3171, h4335⟩ | ⟨_, h4335⟩
      ·replace h4335 := grd_some h4335; obtain ⟨g3172, h4335⟩ := h4335
       replace h4335 := grd_some h4335; obtain ⟨g3173, h4335⟩ := h4335
       replace h4335 := getI_some h4335; obtain ⟨x3175, h3174, h4335⟩ := h4335
       replace h4335 := grd_some h4335; obtain ⟨g3176, h4335⟩ := h4335
       replace h4335 := grd_some h4335; obtain ⟨⟨g3177, g3178⟩, h4335⟩ := h4335
       replace h4335 := grd_some h4335; obtain ⟨g3179, h4335⟩ := h4335
       refine W_sound tab_ok mixed 47 _ _ _ ?_
       simp -implicitDefEqProofs only [go_sem, Nat.reduceBEq, Nat.reduceAdd, Nat.reduceLT, Nat.reduceLeDiff, Int.reduceLE, Int.reduceLT, Int.reduceToNat, ↓reduceIte, Int.reduceGT, g3152, h3167, h3168, h3171, g3173, h3174, g3176, g3177, g3178, g3179]
       repeat with_reducible refine And.intro (by first | kernel_rfl | decide) ?_
       refine Wp_wkK (Wk_freeze 1 [(.int .i64 x3110)] (by rfl) (by decide) (by decide)) rfl ?_
       simp -implicitDefEqProofs only [go_sem, Nat.reduceBEq]
       refine Wp_wkK (Wk_freeze 2 [(.int .i64 (Int.tmod (IntKind.i64.wrap x3091) (IntKind.i64.wrap (x3110 + 1))))] (by rfl) (by decide) (by decide)) rfl ?_
       simp -implicitDefEqProofs only [go_sem, Nat.reduceBEq]
       replace h4335 := grd_some h4335; obtain ⟨g3180, h4335⟩ := h4335
       refine Wp_wkK (Wk_freeze 5 (List.set c3156 (Int.toNat (Int.tmod (IntKind.i64.wrap (IntKind.u8.wrap (Int.tdiv x3169 8))) (Int.tmod (IntKind.i64.wrap x3091) (IntKind.i64.wrap (x3110 + 1))))) (.int .i64 (Int.tmod (IntKind.i64.wrap x3175) x3110))) (by rfl) (by decide) (by decide)) rfl ?_
       simp -implicitDefEqProofs only [go_sem, Nat.reduceBEq, g3180]
       replace h4335 := grd_some h4335; obtain ⟨g3181, h4335⟩ := h4335
       refine Wp_wkK (Wk_freeze 6 c3165 (by rfl) (by decide) (by decide)) rfl ?_
       simp -implicitDefEqProofs only [go_sem, Nat.reduceBEq, g3181]
       refine Wp_wkK (Wk_freeze 4 [(.lst false n3155 (List.set c3156 (Int.toNat (Int.tmod (IntKind.i64.wrap (IntKind.u8.wrap (Int.tdiv x3169 8))) (Int.tmod (IntKind.i64.wrap x3091) (IntKind.i64.wrap (x3110 + 1))))) (.int .i64 (Int.tmod (IntKind.i64.wrap x3175) x3110)))), (.lst false n3164 c3165)] (by rfl) (by decide) (by decide)) rfl ?_
       simp -implicitDefEqProofs only [go_sem, Nat.reduceBEq, Nat.reduceAdd]
       refine Wp_wkK (Wk_freeze 3 [(.lst false 2 [(.lst false n3155 (List.set c3156 (Int.toNat (Int.tmod (IntKind.i64.wrap (IntKind.u8.wrap (Int.tdiv x3169 8))) (Int.tmod (IntKind.i64.wrap x3091) (IntKind.i64.wrap (x3110 + 1))))) (.int .i64 (Int.tmod (IntKind.i64.wrap x3175) x3110)))), (.lst false n3164 c3165)])] (by rfl) (by decide) (by decide)) rfl ?_
       simp -implicitDefEqProofs only [go_sem, Nat.reduceBEq]
       (try simp -implicitDefEqProofs only [go_sem, Nat.reduceBEq, Nat.reduceAdd, Nat.reduceSub, Nat.reduceMul, Nat.reduceLT, Nat.reduceLeDiff, Int.reduceLE, Int.reduceLT, Int.reduceToNat, Int.reduceBEq, Int.reduceBNe, ↓reduceIte, Int.reduceAdd, Int.reduceSub, Int.reduceGT, Int.reduceGE, h3093, h3101, h3106, h3109, h3111, g3114, g3148, h3149, g3152, g3153, g3154, g3158, h3159, g3162, g3163, h3167, h3168, g3170, h3171, g3172, g3173, h3174, g3176, g3177, g3178, g3179, g3180, g3181])
       obtain rfl := Option.some.inj h4335
       refine cutQ _ ?_ ⟨_, rfl, rfl⟩
       exact Wk_keep [7, 9, 10] (by kernel_rfl)
      ·skip
       replace h4335 := casI_some h4335; rcases h4335 with ⟨h3171, h4335⟩ | ⟨_, h4335⟩
       ·replace h4335 := grd_some h4335; obtain ⟨g3182, h4335⟩ := h4335
        replace h4335 := grd_some h4335; obtain ⟨g3183, h4335⟩ := h4335
        replace h4335 := getI_some h4335; obtain ⟨x3185, h3184, h4335⟩ := h4335
        replace h4335 := grd_some h4335; obtain ⟨g3186, h4335⟩ := h4335
        replace h4335 := grd_some h4335; obtain ⟨⟨g3187, g3188⟩, h4335⟩ := h4335
        replace h4335 := grd_some h4335; obtain ⟨g3189, h4335⟩ := h4335
        refine W_sound tab_ok mixed 47 _ _ _ ?_
        simp -implicitDefEqProofs only [go_sem, Nat.reduceBEq, Nat.reduceAdd, Nat.reduceLT, Nat.reduceLeDiff, Int.reduceLE, Int.reduceLT, Int.reduceToNat, ↓reduceIte, Int.reduceGT, g3152, h3167, h3168, h3171, g3183, h3184, g3186, g3187, g3188, g3189]
        repeat with_reducible refine And.intro (by first | kernel_rfl | decide) ?_
        refine Wp_wkK (Wk_freeze 1 [(.int .i64 x3110)] (by rfl) (by decide) (by decide)) rfl ?_
        simp -implicitDefEqProofs only [go_sem, Nat.reduceBEq]
        refine Wp_wkK (Wk_freeze 2 [(.int .i64 (Int.tmod (IntKind.i64.wrap x3091) (IntKind.i64.wrap (x3110 + 1))))] (by rfl) (by decide) (by decide)) rfl ?_
        simp -implicitDefEqProofs only [go_sem, Nat.reduceBEq]
        replace h4335 := grd_some h4335; obtain ⟨g3190, h4335⟩ := h4335
        refine Wp_wkK (Wk_freeze 5 c3156 (by rfl) (by decide) (by decide)) rfl ?_
        simp -implicitDefEqProofs only [go_sem, Nat.reduceBEq, g3190]
        replace h4335 := grd_some h4335; obtain ⟨g3191, h4335⟩ := h4335
        refine Wp_wkK (Wk_freeze 6 (List.set c3165 (Int.toNat (Int.tmod (IntKind.i64.wrap (IntKind.u8.wrap (Int.tdiv x3169 8))) (Int.tmod (IntKind.i64.wrap x3091) (IntKind.i64.wrap (x3110 + 1))))) (.int .i64 (Int.tmod (IntKind.i64.wrap x3185) x3110))) (by rfl) (by decide) (by decide)) rfl ?_
        simp -implicitDefEqProofs only [go_sem, Nat.reduceBEq, g3191]
        refine Wp_wkK (Wk_freeze 4 [(.lst false n3155 c3156), (.lst false n3164 (List.set c3165 (Int.toNat (Int.tmod (IntKind.i64.wrap (IntKind.u8.wrap (Int.tdiv x3169 8))) (Int.tmod (IntKind.i64.wrap x3091) (IntKind.i64.wrap (x3110 + 1))))) (.int .i64 (Int.tmod (IntKind.i64.wrap x3185) x3110))))] (by rfl) (by decide) (by decide)) rfl ?_
        simp -implicitDefEqProofs only [go_sem, Nat.reduceBEq, Nat.reduceAdd]
        refine Wp_wkK (Wk_freeze 3 [(.lst false 2 [(.lst false n3155 c3156), (.lst false n3164 (List.set c3165 (Int.toNat (Int.tmod (IntKind.i64.wrap (IntKind.u8.wrap (Int.tdiv x3169 8))) (Int.tmod (IntKind.i64.wrap x3091) (IntKind.i64.wrap (x3110 + 1))))) (.int .i64 (Int.tmod (IntKind.i64.wrap x3185) x3110))))])] (by rfl) (by decide) (by decide)) rfl ?_
        simp -implicitDefEqProofs only [go_sem, Nat.reduceBEq]
        (try simp -implicitDefEqProofs only [go_sem, Nat.reduceBEq, Nat.reduceAdd, Nat.reduceSub, Nat.reduceMul, Nat.reduceLT, Nat.reduceLeDiff, Int.reduceLE, Int.reduceLT, Int.reduceToNat, Int.reduceBEq, Int.reduceBNe, ↓reduceIte, Int.reduceAdd, Int.reduceSub, Int.reduceGT, Int.reduceGE, h3093, h3101, h3106, h3109, h3111, g3114, g3148, h3149, g3152, g3153, g3154, g3158, h3159, g3162, g3163, h3167, h3168, g3170, h3171, g3182, g3183, h3184, g3186, g3187, g3188, g3189, g3190, g3191])
        obtain rfl := Option.some.inj h4335
        refine cutQ _ ?_ ⟨_, rfl, rfl⟩
        exact Wk_keep [7, 9, 10] (by kernel_rfl)
       ·skip
        cases h4335
     ·refine W_sound tab_ok mixed 19 _ _ _ ?_
      simp -implicitDefEqProofs only [go_sem, Nat.reduceBEq, Nat.reduceLT, Int.reduceLE, Int.reduceLT, Int.reduceToNat, ↓reduceIte, Int.reduceGT, h3167]
      repeat with_reducible refine And.intro (by first | kernel_rfl | decide) ?_
      refine Wp_wkK (Wk_freeze 1 [(.int .i64 x3110)] (by rfl) (by decide) (by decide)) rfl ?_
      simp -implicitDefEqProofs only [go_sem, Nat.reduceBEq]
      refine Wp_wkK (Wk_freeze 2 [(.int .i64 (Int.tmod (IntKind.i64.wrap x3091) (IntKind.i64.wrap (x3110 + 1))))] (by rfl) (by decide) (by decide)) rfl ?_
      simp -implicitDefEqProofs only [go_sem, Nat.reduceBEq]
      replace h4335 := grd_some h4335; obtain ⟨g3192, h4335⟩ := h4335
      refine Wp_wkK (Wk_freeze 5 c3156 (by rfl) (by decide) (by decide)) rfl ?_
      simp -implicitDefEqProofs only [go_sem, Nat.reduceBEq, g3192]
      replace h4335 := grd_some h4335; obtain ⟨g3193, h4335⟩ := h4335
      refine Wp_wkK (Wk_freeze 6 c3165 (by rfl) (by decide) (by decide)) rfl ?_
      simp -implicitDefEqProofs only [go_sem, Nat.reduceBEq, g3193]
      refine Wp_wkK (Wk_freeze 4 [(.lst false n3155 c3156), (.lst false n3164 c3165)] (by rfl) (by decide) (by decide)) rfl ?_
      simp -implicitDefEqProofs only [go_sem, Nat.reduceBEq, Nat.reduceAdd]
      refine Wp_wkK (Wk_freeze 3 [(.lst false 2 [(.lst false n3155 c3156), (.lst false n3164 c3165)])] (by rfl) (by decide) (by decide)) rfl ?_
      simp -implicitDefEqProofs only [go_sem, Nat.reduceBEq]
      (try simp -implicitDefEqProofs only [go_sem, Nat.reduceBEq, Nat.reduceAdd, Nat.reduceSub, Nat.reduceMul, Nat.reduceLT, Nat.reduceLeDiff, Int.reduceLE, Int.reduceLT, Int.reduceToNat, Int.reduceBEq, Int.reduceBNe, ↓reduceIte, Int.reduceAdd, Int.reduceSub, Int.reduceGT, Int.reduceGE, h3093, h3101, h3106, h3109, h3111, g3114, g3148, h3149, g3152, g3153, g3154, g3158, h3159, g3162, g3163, h3167, g3192, g3193])
      obtain rfl := Option.some.inj h4335
      refine cutQ _ ?_ ⟨_, rfl, rfl⟩
      exact Wk_keep [7, 9, 10] (by kernel_rfl)
    ·skip
     replace h4335 := casN_some h4335; rcases h4335 with ⟨rfl, h4335⟩ | ⟨_, h4335⟩
     ·refine W_sound tab_ok mixed 6 _ _ _ ?_
      simp -implicitDefEqProofs only [go_sem, Nat.reduceBEq, Nat.reduceLT]
      repeat with_reducible refine And.intro (by first | kernel_rfl | decide) ?_
      refine Wp_block ?_
      refine Wp_loopL (WpL_step ?_)
      replace h4335 := grd_some h4335; obtain ⟨g3194, h4335⟩ := h4335
      replace h4335 := getL_some h4335; obtain ⟨n3196, c3197, h3195, h4335⟩ := h4335
      replace h4335 := grd_some h4335; obtain ⟨⟨g3198, g3199⟩, h4335⟩ := h4335
      replace h4335 := grd_some h4335; obtain ⟨g3200, h4335⟩ := h4335
      replace h4335 := bnd'_some h4335; obtain ⟨⟨n3201, c3202⟩, h3203, h4335⟩ := h4335
      (try dsimp only at h4335)
      refine W_sound tab_ok mixed 20 _ _ _ ?_
      simp -implicitDefEqProofs only [go_sem, Nat.reduceBEq, Nat.reduceLT, Int.reduceLE, Int.reduceLT, Int.reduceToNat, ↓reduceIte, g3194, h3195, g3198, g3199, g3200]
      repeat with_reducible refine And.intro (by first | kernel_rfl | decide) ?_
      refine Wp_callD [] (c56_2 N _ _ _ h3203) rfl rfl rfl (by first | rfl | (simp only [go_sem, Nat.reduceBEq, Nat.reduceAdd, Nat.reduceSub, Nat.reduceMul, Nat.reduceLT, Nat.reduceLeDiff, Int.reduceLE, Int.reduceLT, Int.reduceToNat, Int.reduceBEq, Int.reduceBNe, ↓reduceIte, Int.reduceAdd, Int.reduceSub, Int.reduceGT, Int.reduceGE, h3093, h3101, h3106, h3109, h3111, g3114, g3194, h3195, g3198, g3199, g3200] <;> rfl)) rfl (by kernel_rfl) ?_
      refine W_sound tab_ok mixed 9 _ _ _ ?_
      simp -implicitDefEqProofs only [go_sem, Nat.reduceBEq, Nat.reduceAdd, Nat.reduceSub, Nat.reduceMul, Nat.reduceLT, Nat.reduceLeDiff, Int.reduceLE, Int.reduceToNat, ↓reduceIte, Int.reduceAdd]
      repeat with_reducible refine And.intro (by first | kernel_rfl | decide) ?_
      refine again (Wk_keep (st' := ⟨[], [(0, .dead), (1, .dead), (2, .dead), (3, .dead), (5, .ptr 0 0), (6, .dead), (7, .ptr 1 0), (8, .dead), (9, .ptr 2 0), (10, .ptr 3 0), (12, .dead), (13, .dead), (14, .dead), (15, .dead), (16, .dead), (17, .dead), (18, .dead), (19, .dead), (21, .dead), (23, .dead), (25, .dead), (26, .dead), (27, .dead), (28, .dead), (30, .dead), (31, .dead), (32, .dead), (33, .dead), (34, .dead), (35, .dead), (36, .dead), (37, .dead), (38, .dead), (49, .v (.lst false 3 c3113)), (50, .v (.int .i64 3)), (51, .v (.int .i64 1)), (52, .dead), (69, .dead), (95, .dead), (96, .dead), (97, .dead), (98, .dead), (102, .dead), (103, .dead), (104, .dead), (105, .dead), (111, .dead), (112, .dead), (113, .dead), (114, .dead), (122, .dead), (128, .dead), (130, .dead), (164, .dead), (167, .dead), (168, .dead), (169, .dead), (170, .dead), (175, .dead), (191, .dead), (198, .dead), (221, .dead), (223, .dead)], [(0, .p [p3102, p3103]), (1, .p [(.int .i64 x3110)]), (2, .p [(.int .i64 (Int.tmod (IntKind.i64.wrap x3091) (IntKind.i64.wrap (x3110 + 1))))]), (3, .r [.sl false 4 0 1 1]), (4, .r [.sl false 5 0 n3201 1]), (5, .p c3202)], 6, []⟩) [5, 7, 9, 10, 49, 50, 51] (by kernel_rfl)) ?_
      replace h4335 := grd_some h4335; obtain ⟨g3204, h4335⟩ := h4335
      replace h4335 := getL_some h4335; obtain ⟨n3206, c3207, h3205, h4335⟩ := h4335
      replace h4335 := grd_some h4335; obtain ⟨g3208, h4335⟩ := h4335
      replace h4335 := grd_some h4335; obtain ⟨g3209, h4335⟩ := h4335
      replace h4335 := bnd'_some h4335; obtain ⟨⟨n3210, c3211⟩, h3212, h4335⟩ := h4335
      (try dsimp only at h4335)
      refine W_sound tab_ok mixed 20 _ _ _ ?_
      simp -implicitDefEqProofs only [go_sem, Nat.reduceBEq, Nat.reduceLT, Int.reduceLE, Int.reduceLT, Int.reduceToNat, ↓reduceIte, g3198, g3204, h3205, g3208, g3209]
      repeat with_reducible refine And.intro (by first | kernel_rfl | decide) ?_
      refine Wp_callD [] (c56_2 N _ _ _ h3212) rfl rfl rfl (by first | rfl | (simp only [go_sem, Nat.reduceBEq, Nat.reduceAdd, Nat.reduceSub, Nat.reduceMul, Nat.reduceLT, Nat.reduceLeDiff, Int.reduceLE, Int.reduceLT, Int.reduceToNat, Int.reduceBEq, Int.reduceBNe, ↓reduceIte, Int.reduceAdd, Int.reduceSub, Int.reduceGT, Int.reduceGE, h3093, h3101, h3106, h3109, h3111, g3114, g3194, h3195, g3198, g3199, g3200, g3204, h3205, g3208, g3209] <;> rfl)) rfl (by kernel_rfl) ?_
      refine W_sound tab_ok mixed 9 _ _ _ ?_
      simp -implicitDefEqProofs only [go_sem, Nat.reduceBEq, Nat.reduceAdd, Nat.reduceSub, Nat.reduceMul, Nat.reduceLT, Nat.reduceLeDiff, Int.reduceLE, Int.reduceToNat, ↓reduceIte, Int.reduceAdd]
      repeat with_reducible refine And.intro (by first | kernel_rfl | decide) ?_
      refine again (Wk_keep (st' := ⟨[], [(0, .dead), (1, .dead), (2, .dead), (3, .dead), (5, .ptr 0 0), (6, .dead), (7, .ptr 1 0), (8, .dead), (9, .ptr 2 0), (10, .ptr 3 0), (12, .dead), (13, .dead), (14, .dead), (15, .dead), (16, .dead), (17, .dead), (18, .dead), (19, .dead), (21, .dead), (23, .dead), (25, .dead), (26, .dead), (27, .dead), (28, .dead), (30, .dead), (31, .dead), (32, .dead), (33, .dead), (34, .dead), (35, .dead), (36, .dead), (37, .dead), (38, .dead), (49, .v (.lst false 3 c3113)), (50, .v (.int .i64 3)), (51, .v (.int .i64 2)), (52, .dead), (69, .dead), (95, .dead), (96, .dead), (97, .dead), (98, .dead), (102, .dead), (103, .dead), (104, .dead), (105, .dead), (111, .dead), (112, .dead), (113, .dead), (114, .dead), (122, .dead), (128, .dead), (130, .dead), (164, .dead), (167, .dead), (168, .dead), (169, .dead), (170, .dead), (175, .dead), (191, .dead), (198, .dead), (221, .dead), (223, .dead)], [(0, .p [p3102, p3103]), (1, .p [(.int .i64 x3110)]), (2, .p [(.int .i64 (Int.tmod (IntKind.i64.wrap x3091) (IntKind.i64.wrap (x3110 + 1))))]), (3, .r [.sl false 4 0 2 1]), (4, .r [.sl false 5 0 n3201 1, .sl false 6 0 n3210 1]), (5, .p c3202), (6, .p c3211)], 7, []⟩) [5, 7, 9, 10, 49, 50, 51] (by kernel_rfl)) ?_
      replace h4335 := grd_some h4335; obtain ⟨g3213, h4335⟩ := h4335
      replace h4335 := getL_some h4335; obtain ⟨n3215, c3216, h3214, h4335⟩ := h4335
      replace h4335 := grd_some h4335; obtain ⟨g3217, h4335⟩ := h4335
      replace h4335 := grd_some h4335; obtain ⟨g3218, h4335⟩ := h4335
      replace h4335 := bnd'_some h4335; obtain ⟨⟨n3219, c3220⟩, h3221, h4335⟩ := h4335
      (try dsimp only at h4335)
      refine W_sound tab_ok mixed 20 _ _ _ ?_
      simp -implicitDefEqProofs only [go_sem, Nat.reduceBEq, Nat.reduceLT, Int.reduceLE, Int.reduceLT, Int.reduceToNat, ↓reduceIte, g3198, g3213, h3214, g3217, g3218]
      repeat with_reducible refine And.intro (by first | kernel_rfl | decide) ?_
      refine Wp_callD [] (c56_2 N _ _ _ h3221) rfl rfl rfl (by first | rfl | (simp only [go_sem, Nat.reduceBEq, Nat.reduceAdd, Nat.reduceSub, Nat.reduceMul, Nat.reduceLT, Nat.reduceLeDiff, Int.reduceLE, Int.reduceLT, Int.reduceToNat, Int.reduceBEq, Int.reduceBNe, ↓reduceIte, Int.reduceAdd, Int.reduceSub, Int.reduceGT, Int.reduceGE, h3093, h3101, h3106, h3109, h3111, g3114, g3194, h3195, g3198, g3199, g3200, g3204, h3205, g3208, g3209, g3213, h3214, g3217, g3218] <;> rfl)) rfl (by kernel_rfl) ?_
      refine W_sound tab_ok mixed 9 _ _ _ ?_
      simp -implicitDefEqProofs only [go_sem, Nat.reduceBEq, Nat.reduceAdd, Nat.reduceSub, Nat.reduceMul, Nat.reduceLT, Nat.reduceLeDiff, Int.reduceLE, Int.reduceToNat, ↓reduceIte, Int.reduceAdd]
      repeat with_reducible refine And.intro (by first | kernel_rfl | decide) ?_
      refine again (Wk_keep (st' := ⟨[], [(0, .dead), (1, .dead), (2, .dead), (3, .dead), (5, .ptr 0 0), (6, .dead), (7, .ptr 1 0), (8, .dead), (9, .ptr 2 0), (10, .ptr 3 0), (12, .dead), (13, .dead), (14, .dead), (15, .dead), (16, .dead), (17, .dead), (18, .dead), (19, .dead), (21, .dead), (23, .dead), (25, .dead), (26, .dead), (27, .dead), (28, .dead), (30, .dead), (31, .dead), (32, .dead), (33, .dead), (34, .dead), (35, .dead), (36, .dead), (37, .dead), (38, .dead), (49, .v (.lst false 3 c3113)), (50, .v (.int .i64 3)), (51, .v (.int .i64 3)), (52, .dead), (69, .dead), (95, .dead), (96, .dead), (97, .dead), (98, .dead), (102, .dead), (103, .dead), (104, .dead), (105, .dead), (111, .dead), (112, .dead), (113, .dead), (114, .dead), (122, .dead), (128, .dead), (130, .dead), (164, .dead), (167, .dead), (168, .dead), (169, .dead), (170, .dead), (175, .dead), (191, .dead), (198, .dead), (221, .dead), (223, .dead)], [(0, .p [p3102, p3103]), (1, .p [(.int .i64 x3110)]), (2, .p [(.int .i64 (Int.tmod (IntKind.i64.wrap x3091) (IntKind.i64.wrap (x3110 + 1))))]), (3, .r [.sl false 4 0 3 1]), (4, .r [.sl false 5 0 n3201 1, .sl false 6 0 n3210 1, .sl false 7 0 n3219 1]), (5, .p c3202), (6, .p c3211), (7, .p c3220)], 8, []⟩) [5, 7, 9, 10, 49, 50, 51] (by kernel_rfl)) ?_
      replace h4335 := brn_some h4335; rcases h4335 with ⟨h3222, h4335⟩ | ⟨h3222, h4335⟩
      ·replace h4335 := getI_some h4335; obtain ⟨x3224, h3223, h4335⟩ := h4335
       replace h4335 := grd_some h4335; obtain ⟨g3225, h4335⟩ := h4335
       replace h4335 := casI_some h4335; rcases h4335 with ⟨h3226, h4335⟩ | ⟨_, h4335⟩
       ·replace h4335 := grd_some h4335; obtain ⟨g3227, h4335⟩ := h4335
        replace h4335 := grd_some h4335; obtain ⟨g3228, h4335⟩ := h4335
        replace h4335 := getI_some h4335; obtain ⟨x3230, h3229, h4335⟩ := h4335
        replace h4335 := grd_some h4335; obtain ⟨g3231, h4335⟩ := h4335
        replace h4335 := grd_some h4335; obtain ⟨⟨g3232, g3233⟩, h4335⟩ := h4335
        replace h4335 := grd_some h4335; obtain ⟨g3234, h4335⟩ := h4335
        refine W_sound tab_ok mixed 47 _ _ _ ?_
        simp -implicitDefEqProofs only [go_sem, Nat.reduceBEq, Nat.reduceAdd, Nat.reduceLT, Nat.reduceLeDiff, Int.reduceLE, Int.reduceLT, Int.reduceToNat, ↓reduceIte, Int.reduceGT, g3198, h3222, h3223, h3226, g3228, h3229, g3231, g3232, g3233, g3234]
        repeat with_reducible refine And.intro (by first | kernel_rfl | decide) ?_
        refine Wp_wkK (Wk_freeze 1 [(.int .i64 x3110)] (by rfl) (by decide) (by decide)) rfl ?_
        simp -implicitDefEqProofs only [go_sem, Nat.reduceBEq]
        refine Wp_wkK (Wk_freeze 2 [(.int .i64 (Int.tmod (IntKind.i64.wrap x3091) (IntKind.i64.wrap (x3110 + 1))))] (by rfl) (by decide) (by decide)) rfl ?_
        simp -implicitDefEqProofs only [go_sem, Nat.reduceBEq]
        replace h4335 := grd_some h4335; obtain ⟨g3235, h4335⟩ := h4335
        refine Wp_wkK (Wk_freeze 5 (List.set c3202 (Int.toNat (Int.tmod (IntKind.i64.wrap (IntKind.u8.wrap (Int.tdiv x3224 8))) (Int.tmod (IntKind.i64.wrap x3091) (IntKind.i64.wrap (x3110 + 1))))) (.int .i64 (Int.tmod (IntKind.i64.wrap x3230) x3110))) (by rfl) (by decide) (by decide)) rfl ?_
        simp -implicitDefEqProofs only [go_sem, Nat.reduceBEq, g3235]
        replace h4335 := grd_some h4335; obtain ⟨g3236, h4335⟩ := h4335
        refine Wp_wkK (Wk_freeze 6 c3211 (by rfl) (by decide) (by decide)) rfl ?_
        simp -implicitDefEqProofs only [go_sem, Nat.reduceBEq, g3236]
        replace h4335 := grd_some h4335; obtain ⟨g3237, h4335⟩ := h4335
        refine Wp_wkK (Wk_freeze 7 c3220 (by rfl) (by decide) (by decide)) rfl ?_
        simp -implicitDefEqProofs only [go_sem, Nat.reduceBEq, g3237]
        refine Wp_wkK (Wk_freeze 4 [(.lst false n3201 (List.set c3202 (Int.toNat (Int.tmod (IntKind.i64.wrap (IntKind.u8.wrap (Int.tdiv x3224 8))) (Int.tmod (IntKind.i64.wrap x3091) (IntKind.i64.wrap (x3110 + 1))))) (.int .i64 (Int.tmod (IntKind.i64.wrap x3230) x3110)))), (.lst false n3210 c3211), (.lst false n3219 c3220)] (by rfl) (by decide) (by decide)) rfl ?_
        simp -implicitDefEqProofs only [go_sem, Nat.reduceBEq, Nat.reduceAdd]
        refine Wp_wkK (Wk_freeze 3 [(.lst false 3 [(.lst false n3201 (List.set c3202 (Int.toNat (Int.tmod (IntKind.i64.wrap (IntKind.u8.wrap (Int.tdiv x3224 8))) (Int.tmod (IntKind.i64.wrap x3091) (IntKind.i64.wrap (x3110 + 1))))) (.int .i64 (Int.tmod (IntKind.i64.wrap x3230) x3110)))), (.lst false n3210 c3211), (.lst false n3219 c3220)])] (by rfl) (by decide) (by decide)) rfl ?_
        simp -implicitDefEqProofs only [go_sem, Nat.reduceBEq]
        (try simp -implicitDefEqProofs only [go_sem, Nat.reduceBEq, Nat.reduceAdd, Nat.reduceSub, Nat.reduceMul, Nat.reduceLT, Nat.reduceLeDiff, Int.reduceLE, Int.reduceLT, Int.reduceToNat, Int.reduceBEq, Int.reduceBNe, ↓reduceIte, Int.reduceAdd, Int.reduceSub, Int.reduceGT, Int.reduceGE, h3093, h3101, h3106, h3109, h3111, g3114, g3194, h3195, g3198, g3199, g3200, g3204, h3205, g3208, g3209, g3213, h3214, g3217, g3218, h3222, h3223, g3225, h3226, g3227, g3228, h3229, g3231, g3232, g3233, g3234, g3235, g3236, g3237])
        obtain rfl := Option.some.inj h4335
        refine cutQ _ ?_ ⟨_, rfl, rfl⟩
        exact Wk_keep [7, 9, 10] (by kernel_rfl)
       ·skip
        replace h4335 := casI_some h4335; rcases h4335 with ⟨h3226, h4335⟩ | ⟨_, h4335⟩
        ·replace h4335 := grd_some h4335; obtain ⟨g3238, h4335⟩ := h4335
         replace h4335 := grd_some h4335; obtain ⟨g3239, h4335⟩ := h4335
         replace h4335 := getI_some h4335; obtain ⟨x3241, h3240, h4335⟩ := h4335
         replace h4335 := grd_some h4335; obtain ⟨g3242, h4335⟩ := h4335
         replace h4335 := grd_some h4335; obtain ⟨⟨g3243, g3244⟩, h4335⟩ := h4335
         replace h4335 := grd_some h4335; obtain ⟨g3245, h4335⟩ := h4335
         refine W_sound tab_ok mixed 47 _ _ _ ?_
         simp -implicitDefEqProofs only [go_sem, Nat.reduceBEq, Nat.reduceAdd, Nat.reduceLT, Nat.reduceLeDiff, Int.reduceLE, Int.reduceLT, Int.reduceToNat, ↓reduceIte, Int.reduceGT, g3198, h3222, h3223, h3226, g3239, h3240, g3242, g3243, g3244, g3245]
         repeat with_reducible refine And.intro (by first | kernel_rfl | decide) ?_
         refine Wp_wkK (Wk_freeze 1 [(.int .i64 x3110)] (by rfl) (by decide) (by decide)) rfl ?_
         simp -implicitDefEqProofs only [go_sem, Nat.reduceBEq]
         refine Wp_wkK (Wk_freeze 2 [(.int .i64 (Int.tmod (IntKind.i64.wrap x3091) (IntKind.i64.wrap (x3110 + 1))))] (by rfl) (by decide) (by decide)) rfl ?_
         simp -implicitDefEqProofs only [go_sem, Nat.reduceBEq]
         replace h4335 := grd_some h4335; obtain ⟨g3246, h4335⟩ := h4335
         refine Wp_wkK (Wk_freeze 5 c3202 (by rfl) (by decide) (by decide)) rfl ?_
         simp -implicitDefEqProofs only [go_sem, Nat.reduceBEq, g3246]
         replace h4335 := grd_some h4335; obtain ⟨g3247, h4335⟩ := h4335
         refine Wp_wkK (Wk_freeze 6 (List.set c3211 (Int.toNat (Int.tmod (IntKind.i64.wrap (IntKind.u8.wrap (Int.tdiv x3224 8))) (Int.tmod (IntKind.i64.wrap x3091) (IntKind.i64.wrap (x3110 + 1))))) (.int .i64 (Int.tmod (IntKind.i64.wrap x3241) x3110))) (by rfl) (by decide) (by decide)) rfl ?_
         simp -implicitDefEqProofs only [go_sem, Nat.reduceBEq, g3247]
         replace h4335 := grd_some h4335; obtain ⟨g3248, h4335⟩ := h4335
         refine Wp_wkK (Wk_freeze 7 c3220 (by rfl) (by decide) (by decide)) rfl ?_
         simp -implicitDefEqProofs only [go_sem, Nat.reduceBEq, g3248]
         refine Wp_wkK (Wk_freeze 4 [(.lst false n3201 c3202), (.lst false n3210 (List.set c3211 (Int.toNat (Int.tmod (IntKind.i64.wrap (IntKind.u8.wrap (Int.tdiv x3224 8))) (Int.tmod (IntKind.i64.wrap x3091) (IntKind.i64.wrap (x3110 + 1))))) (.int .i64 (Int.tmod (IntKind.i64.wrap x3241) x3110)))), (.lst false n3219 c3220)] (by rfl) (by decide) (by decide)) rfl ?_
         simp -implicitDefEqProofs only [go_sem, Nat.reduceBEq, Nat.reduceAdd]
         refine Wp_wkK (Wk_freeze 3 [(.lst false 3 [(.lst false n3201 c3202), (.lst false n3210 (List.set c3211 (Int.toNat (Int.tmod (IntKind.i64.wrap (IntKind.u8.wrap (Int.tdiv x3224 8))) (Int.tmod (IntKind.i64.wrap x3091) (IntKind.i64.wrap (x3110 + 1))))) (.int .i64 (Int.tmod (IntKind.i64.wrap x3241) x3110)))), (.lst false n3219 c3220)])] (by rfl) (by decide) (by decide)) rfl ?_
         simp -implicitDefEqProofs only [go_sem, Nat.reduceBEq]
         (try simp -implicitDefEqProofs only [go_sem, Nat.reduceBEq, Nat.reduceAdd, Nat.reduceSub, Nat.reduceMul, Nat.reduceLT, Nat.reduceLeDiff, Int.reduceLE, Int.reduceLT, Int.reduceToNat, Int.reduceBEq, Int.reduceBNe, ↓reduceIte, Int.reduceAdd, Int.reduceSub, Int.reduceGT, Int.reduceGE, h3093, h3101, h3106, h3109, h3111, g3114, g3194, h3195, g3198, g3199, g3200, g3204, h3205, g3208, g3209, g3213, h3214, g3217, g3218, h3222, h3223, g3225, h3226, g3238, g3239, h3240, g3242, g3243, g3244, g3245, g3246, g3247, g3248])
         obtain rfl := Option.some.inj h4335
         refine cutQ _ ?_ ⟨_, rfl, rfl⟩
         exact Wk_keep [7, 9, 10] (by kernel_rfl)
        ·skip
         replace h4335 := casI_some h4335; rcases h4335 with ⟨h3226, h4335⟩ | ⟨_, h4335⟩
         ·replace h4335 := grd_some h4335; obtain ⟨g3249, h4335⟩ := h4335
          replace h4335 := grd_some h4335; obtain ⟨g3250, h4335⟩ := h4335
          replace h4335 := getI_some h4335; obtain ⟨x3252, h3251, h4335⟩ := h4335
          replace h4335 := grd_some h4335; obtain ⟨g3253, h4335⟩ := h4335
          replace h4335 := grd_some h4335; obtain ⟨⟨g3254, g3255⟩, h4335⟩ := h4335
          replace h4335 := grd_some h4335; obtain ⟨g3256, h4335⟩ := h4335
          refine W_sound tab_ok mixed 47 _ _ _ ?_
          simp -implicitDefEqProofs only [go_sem, Nat.reduceBEq, Nat.reduceAdd, Nat.reduceLT, Nat.reduceLeDiff, Int.reduceLE, Int.reduceLT, Int.reduceToNat, ↓reduceIte, Int.reduceGT, g3198, h3222, h3223, h3226, g3250, h3251, g3253, g3254, g3255, g3256]
          repeat with_reducible refine And.intro (by first | kernel_rfl | decide) ?_
          refine Wp_wkK (Wk_freeze 1 [(.int .i64 x3110)] (by rfl) (by decide) (by decide)) rfl ?_
          simp -implicitDefEqProofs only [go_sem, Nat.reduceBEq]
          refine Wp_wkK (Wk_freeze 2 [(.int .i64 (Int.tmod (IntKind.i64.wrap x3091) (IntKind.i64.wrap (x3110 + 1))))] (by rfl) (by decide) (by decide)) rfl ?_
          simp -implicitDefEqProofs only [go_sem, Nat.reduceBEq]
          replace h4335 := grd_some h4335; obtain ⟨g3257, h4335⟩ := h4335
          refine Wp_wkK (Wk_freeze 5 c3202 (by rfl) (by decide) (by decide)) rfl ?_
          simp -implicitDefEqProofs only [go_sem, Nat.reduceBEq, g3257]
          replace h4335 := grd_some h4335; obtain ⟨g3258, h4335⟩ := h4335
          refine Wp_wkK (Wk_freeze 6 c3211 (by rfl) (by decide) (by decide)) rfl ?_
          simp -implicitDefEqProofs only [go_sem, Nat.reduceBEq, g3258]
          replace h4335 := grd_some h4335; obtain ⟨g3259, h4335⟩ := h4335
          refine Wp_wkK (Wk_freeze 7 (List.set c3220 (Int.toNat (Int.tmod (IntKind.i64.wrap (IntKind.u8.wrap (Int.tdiv x3224 8))) (Int.tmod (IntKind.i64.wrap x3091) (IntKind.i64.wrap (x3110 + 1))))) (.int .i64 (Int.tmod (IntKind.i64.wrap x3252) x3110))) (by rfl) (by decide) (by decide)) rfl ?_
          simp -implicitDefEqProofs only [go_sem, Nat.reduceBEq, g3259]
          refine Wp_wkK (Wk_freeze 4 [(.lst false n3201 c3202), (.lst false n3210 c3211), (.lst false n3219 (List.set c3220 (Int.toNat (Int.tmod (IntKind.i64.wrap (IntKind.u8.wrap (Int.tdiv x3224 8))) (Int.tmod (IntKind.i64.wrap x3091) (IntKind.i64.wrap (x3110 + 1))))) (.int .i64 (Int.tmod (IntKind.i64.wrap x3252) x3110))))] (by rfl) (by decide) (by decide)) rfl ?_
          simp -implicitDefEqProofs only [go_sem, Nat.reduceBEq, Nat.reduceAdd]
          refine Wp_wkK (Wk_freeze 3 [(.lst false 3 [(.lst false n3201 c3202), (.lst false n3210 c3211), (.lst false n3219 (List.set c3220 (Int.toNat (Int.tmod (IntKind.i64.wrap (IntKind.u8.wrap (Int.tdiv x3224 8))) (Int.tmod (IntKind.i64.wrap x3091) (IntKind.i64.wrap (x3110 + 1))))) (.int .i64 (Int.tmod (IntKind.i64.wrap x3252) x3110))))])] (by rfl) (by decide) (by decide)) rfl ?_
          simp -implicitDefEqProofs only [go_sem, Nat.reduceBEq]
          (try simp -implicitDefEqProofs only [go_sem, Nat.reduceBEq, Nat.reduceAdd, Nat.reduceSub, Nat.reduceMul, Nat.reduceLT, Nat.reduceLeDiff, Int.reduceLE, Int.reduceLT, Int.reduceToNat, Int.reduceBEq, Int.reduceBNe, ↓reduceIte, Int.reduceAdd, Int.reduceSub, Int.reduceGT, Int.reduceGE, h3093, h3101, h3106, h3109, h3111, g3114, g3194, h3195, g3198, g3199, g3200, g3204, h3205, g3208, g3209, g3213, h3214, g3217, g3218, h3222, h3223, g3225, h3226, g3249, g3250, h3251, g3253, g3254, g3255, g3256, g3257, g3258, g3259])
          obtain rfl := Option.some.inj h4335
          refine cutQ _ ?_ ⟨_, rfl, rfl⟩
          exact Wk_keep [7, 9, 10] (by kernel_rfl)
         ·skip
          cases h4335
      ·refine W_sound tab_ok mixed 19 _ _ _ ?_
       simp -implicitDefEqProofs only [go_sem, Nat.reduceBEq, Nat.reduceLT, Int.reduceLE, Int.reduceLT, Int.reduceToNat, ↓reduceIte, Int.reduceGT, h3222]
       repeat with_reducible refine And.intro (by first | kernel_rfl | decide) ?_
       refine Wp_wkK (Wk_freeze 1 [(.int .i64 x3110)] (by rfl) (by decide) (by decide)) rfl ?_
       simp -implicitDefEqProofs only [go_sem, Nat.reduceBEq]
       refine Wp_wkK (Wk_freeze 2 [(.int .i64 (Int.tmod (IntKind.i64.wrap x3091) (IntKind.i64.wrap (x3110 + 1))))] (by rfl) (by decide) (by decide)) rfl ?_
       simp -implicitDefEqProofs only [go_sem, Nat.reduceBEq]
       replace h4335 := grd_some h4335; obtain ⟨g3260, h4335⟩ := h4335
       refine Wp_wkK (Wk_freeze 5 c3202 (by rfl) (by decide) (by decide)) rfl ?_
       simp -implicitDefEqProofs only [go_sem, Nat.reduceBEq, g3260]
       replace h4335 := grd_some h4335; obtain ⟨g3261, h4335⟩ := h4335
       refine Wp_wkK (Wk_freeze 6 c3211 (by rfl) (by decide) (by decide)) rfl ?_
       simp -implicitDefEqProofs only [go_sem, Nat.reduceBEq, g3261]
       replace h4335 := grd_some h4335; obtain ⟨g3262, h4335⟩ := h4335
       refine Wp_wkK (Wk_freeze 7 c3220 (by rfl) (by decide) (by decide)) rfl ?_
       simp -implicitDefEqProofs only [go_sem, Nat.reduceBEq, g3262]
       refine Wp_wkK (Wk_freeze 4 [(.lst false n3201 c3202), (.lst false n3210 c3211), (.lst false n3219 c3220)] (by rfl) (by decide) (by decide)) rfl ?_
       simp -implicitDefEqProofs only [go_sem, Nat.reduceBEq, Nat.reduceAdd]
       refine Wp_wkK (Wk_freeze 3 [(.lst false 3 [(.lst false n3201 c3202), (.lst false n3210 c3211), (.lst false n3219 c3220)])] (by rfl) (by decide) (by decide)) rfl ?_
       simp -implicitDefEqProofs only [go_sem, Nat.reduceBEq]
       (try simp -implicitDefEqProofs only [go_sem, Nat.reduceBEq, Nat.reduceAdd, Nat.reduceSub, Nat.reduceMul, Nat.reduceLT, Nat.reduceLeDiff, Int.reduceLE, Int.reduceLT, Int.reduceToNat, Int.reduceBEq, Int.reduceBNe, ↓reduceIte, Int.reduceAdd, Int.reduceSub, Int.reduceGT, Int.reduceGE, h3093, h3101, h3106, h3109, h3111, g3114, g3194, h3195, g3198, g3199, g3200, g3204, h3205, g3208, g3209, g3213, h3214, g3217, g3218, h3222, g3260, g3261, g3262])
       obtain rfl := Option.some.inj h4335
       refine cutQ _ ?_ ⟨_, rfl, rfl⟩
       exact Wk_keep [7, 9, 10] (by kernel_rfl)
     ·skip
      replace h4335 := casN_some h4335; rcases h4335 with ⟨rfl, h4335⟩ | ⟨_, h4335⟩
      ·refine W_sound tab_ok mixed 6 _ _ _ ?_
       simp -implicitDefEqProofs only [go_sem, Nat.reduceBEq, Nat.reduceLT]
       repeat with_reducible refine And.intro (by first | kernel_rfl | decide) ?_
       refine Wp_block ?_
       refine Wp_loopL (WpL_step ?_)
       replace h4335 := grd_some h4335; obtain ⟨g3263, h4335⟩ := h4335
       replace h4335 := getL_some h4335; obtain ⟨n3265, c3266, h3264, h4335⟩ := h4335
       replace h4335 := grd_some h4335; obtain ⟨⟨g3267, g3268⟩, h4335⟩ := h4335
       replace h4335 := grd_some h4335; obtain ⟨g3269, h4335⟩ := h4335
       replace h4335 := bnd'_some h4335; obtain ⟨⟨n3270, c3271⟩, h3272, h4335⟩ := h4335
       (try dsimp only at h4335)
       refine W_sound tab_ok mixed 20 _ _ _ ?_
       simp -implicitDefEqProofs only [go_sem, Nat.reduceBEq, Nat.reduceLT, Int.reduceLE, Int.reduceLT, Int.reduceToNat, ↓reduceIte, g3263, h3264, g3267, g3268, g3269]
       repeat with_reducible refine And.intro (by first | kernel_rfl | decide) ?_
       refine Wp_callD [] (c56_2 N _ _ _ h3272) rfl rfl rfl (by first | rfl | (simp only [go_sem, Nat.reduceBEq, Nat.reduceAdd, Nat.reduceSub, Nat.reduceMul, Nat.reduceLT, Nat.reduceLeDiff, Int.reduceLE, Int.reduceLT, Int.reduceToNat, Int.reduceBEq, Int.reduceBNe, ↓reduceIte, Int.reduceAdd, Int.reduceSub, Int.reduceGT, Int.reduceGE, h3093, h3101, h3106, h3109, h3111, g3114, g3263, h3264, g3267, g3268, g3269] <;> rfl)) rfl (by kernel_rfl) ?_
       refine W_sound tab_ok mixed 9 _ _ _ ?_
       simp -implicitDefEqProofs only [go_sem, Nat.reduceBEq, Nat.reduceAdd, Nat.reduceSub, Nat.reduceMul, Nat.reduceLT, Nat.reduceLeDiff, Int.reduceLE, Int.reduceToNat, ↓reduceIte, Int.reduceAdd]
       repeat with_reducible refine And.intro (by first | kernel_rfl | decide) ?_
       refine again (Wk_keep (st' := ⟨[], [(0, .dead), (1, .dead), (2, .dead), (3, .dead), (5, .ptr 0 0), (6, .dead), (7, .ptr 1 0), (8, .dead), (9, .ptr 2 0), (10, .ptr 3 0), (12, .dead), (13, .dead), (14, .dead), (15, .dead), (16, .dead), (17, .dead), (18, .dead), (19, .dead), (21, .dead), (23, .dead), (25, .dead), (26, .dead), (27, .dead), (28, .dead), (30, .dead), (31, .dead), (32, .dead), (33, .dead), (34, .dead), (35, .dead), (36, .dead), (37, .dead), (38, .dead), (49, .v (.lst false 4 c3113)), (50, .v (.int .i64 4)), (51, .v (.int .i64 1)), (52, .dead), (69, .dead), (95, .dead), (96, .dead), (97, .dead), (98, .dead), (102, .dead), (103, .dead), (104, .dead), (105, .dead), (111, .dead), (112, .dead), (113, .dead), (114, .dead), (122, .dead), (128, .dead), (130, .dead), (164, .dead), (167, .dead), (168, .dead), (169, .dead), (170, .dead), (175, .dead), (191, .dead), (198, .dead), (221, .dead), (223, .dead)], [(0, .p [p3102, p3103]), (1, .p [(.int .i64 x3110)]), (2, .p [(.int .i64 (Int.tmod (IntKind.i64.wrap x3091) (IntKind.i64.wrap (x3110 + 1))))]), (3, .r [.sl false 4 0 1 1]), (4, .r [.sl false 5 0 n3270 1]), (5, .p c3271)], 6, []⟩) [5, 7, 9, 10, 49, 50, 51] (by kernel_rfl)) ?_
       replace h4335 := grd_some h4335; obtain ⟨g3273, h4335⟩ := h4335
       replace h4335 := getL_some h4335; obtain ⟨n3275, c3276, h3274, h4335⟩ := h4335
       replace h4335 := grd_some h4335; obtain ⟨g3277, h4335⟩ := h4335
       replace h4335 := grd_some h4335; obtain ⟨g3278, h4335⟩ := h4335
       replace h4335 := bnd'_some h4335; obtain ⟨⟨n3279, c3280⟩, h3281, h4335⟩ := h4335
       (try dsimp only at h4335)
       refine W_sound tab_ok mixed 20 _ _ _ ?_
       simp -implicitDefEqProofs only [go_sem, Nat.reduceBEq, Nat.reduceLT, Int.reduceLE, Int.reduceLT, Int.reduceToNat, ↓reduceIte, g3267, g3273, h3274, g3277, g3278]
       repeat with_reducible refine And.intro (by first | kernel_rfl | decide) ?_
       refine Wp_callD [] (c56_2 N _ _ _ h3281) rfl rfl rfl (by first | rfl | (simp only [go_sem, Nat.reduceBEq, Nat.reduceAdd, Nat.reduceSub, Nat.reduceMul, Nat.reduceLT, Nat.reduceLeDiff, Int.reduceLE, Int.reduceLT, Int.reduceToNat, Int.reduceBEq, Int.reduceBNe, ↓reduceIte, Int.reduceAdd, Int.reduceSub, Int.reduceGT, Int.reduceGE, h3093, h3101, h3106, h3109, h3111, g3114, g3263, h3264, g3267, g3268, g3269, g3273, h3274, g3277, g3278] <;> rfl)) rfl (by kernel_rfl) ?_
       refine W_sound tab_ok mixed 9 _ _ _ ?_
       simp -implicitDefEqProofs only [go_sem, Nat.reduceBEq, Nat.reduceAdd, Nat.reduceSub, Nat.reduceMul, Nat.reduceLT, Nat.reduceLeDiff, Int.reduceLE, Int.reduceToNat, ↓reduceIte, Int.reduceAdd]
       repeat with_reducible refine And.intro (by first | kernel_rfl | decide) ?_
       refine again (Wk_keep (st' := ⟨[], [(0, .dead), (1, .dead), (2, .dead), (3, .dead), (5, .ptr 0 0), (6, .dead), (7, .ptr 1 0), (8, .dead), (9, .ptr 2 0), (10, .ptr 3 0), (12, .dead), (13, .dead), (14, .dead), (15, .dead), (16, .dead), (17, .dead), (18, .dead), (19, .dead), (21, .dead), (23, .dead), (25, .dead), (26, .dead), (27, .dead), (28, .dead), (30, .dead), (31, .dead), (32, .dead), (33, .dead), (34, .dead), (35, .dead), (36, .dead), (37, .dead), (38, .dead), (49, .v (.lst false 4 c3113)), (50, .v (.int .i64 4)), (51, .v (.int .i64 2)), (52, .dead), (69, .dead), (95, .dead), (96, .dead), (97, .dead), (98, .dead), (102, .dead), (103, .dead), (104, .dead), (105, .dead), (111, .dead), (112, .dead), (113, .dead), (114, .dead), (122, .dead), (128, .dead), (130, .dead), (164, .dead), (167, .dead), (168, .dead), (169, .dead), (170, .dead), (175, .dead), (191, .dead), (198, .dead), (221, .dead), (223, .dead)], [(0, .p [p3102, p3103]), (1, .p [(.int .i64 x3110)]), (2, .p [(.int .i64 (Int.tmod (IntKind.i64.wrap x3091) (IntKind.i64.wrap (x3110 + 1))))]), (3, .r [.sl false 4 0 2 1]), (4, .r [.sl false 5 0 n3270 1, .sl false 6 0 n3279 1]), (5, .p c3271), (6, .p c3280)], 7, []⟩) [5, 7, 9, 10, 49, 50, 51] (by kernel_rfl)) ?_
       replace h4335 := grd_some h4335; obtain ⟨g3282, h4335⟩ := h4335
       replace h4335 := getL_some h4335; obtain ⟨n3284, c3285, h3283, h4335⟩ := h4335
       replace h4335 := grd_some h4335; obtain ⟨g3286, h4335⟩ := h4335
       replace h4335 := grd_some h4335; obtain ⟨g3287, h4335⟩ := h4335
       replace h4335 := bnd'_some h4335; obtain ⟨⟨n3288, c3289⟩, h3290, h4335⟩ := h4335
       (try dsimp only at h4335)
       refine W_sound tab_ok mixed 20 _ _ _ ?_
       simp -implicitDefEqProofs only [go_sem, Nat.reduceBEq, Nat.reduceLT, Int.reduceLE, Int.reduceLT, Int.reduceToNat, ↓reduceIte, g3267, g3282, h3283, g3286, g3287]
       repeat with_reducible refine And.intro (by first | kernel_rfl | decide) ?_
       refine Wp_callD [] (c56_2 N _ _ _ h3290) rfl rfl rfl (by first | rfl | (simp only [go_sem, Nat.reduceBEq, Nat.reduceAdd, Nat.reduceSub, Nat.reduceMul, Nat.reduceLT, Nat.reduceLeDiff, Int.reduceLE, Int.reduceLT, Int.reduceToNat, Int.reduceBEq, Int.reduceBNe, ↓reduceIte, Int.reduceAdd, Int.reduceSub, Int.reduceGT, Int.reduceGE, h3093, h3101, h3106, h3109, h3111, g3114, g3263, h3264, g3267, g3268, g3269, g3273, h3274, g3277, g3278, g3282, h3283, g3286, g3287] <;> rfl)) rfl (by kernel_rfl) ?_
       refine W_sound tab_ok mixed 9 _ _ _ ?_
       simp -implicitDefEqProofs only [go_sem, Nat.reduceBEq, Nat.reduceAdd, Nat.reduceSub, Nat.reduceMul, Nat.reduceLT, Nat.reduceLeDiff, Int.reduceLE, Int.reduceToNat, ↓reduceIte, Int.reduceAdd]
       repeat with_reducible refine And.intro (by first | kernel_rfl | decide) ?_
       refine again (Wk_keep (st' := ⟨[], [(0, .dead), (1, .dead), (2, .dead), (3, .dead), (5, .ptr 0 0), (6, .dead), (7, .ptr 1 0), (8, .dead), (9, .ptr 2 0), (10, .ptr 3 0), (12, .dead), (13, .dead), (14, .dead), (15, .dead), (16, .dead), (17, .dead), (18, .dead), (19, .dead), (21, .dead), (23, .dead), (25, .dead), (26, .dead), (27, .dead), (28, .dead), (30, .dead), (31, .dead), (32, .dead), (33, .dead), (34, .dead), (35, .dead), (36, .dead), (37, .dead), (38, .dead), (49, .v (.lst false 4 c3113)), (50, .v (.int .i64 4)), (51, .v (.int .i64 3)), (52, .dead), (69, .dead), (95, .dead), (96, .dead), (97, .dead), (98, .dead), (102, .dead), (103, .dead), (104, .dead), (105, .dead), (111, .dead), (112, .dead), (113, .dead), (114, .dead), (122, .dead), (128, .dead), (130, .dead), (164, .dead), (167, .dead), (168, .dead), (169, .dead), (170, .dead), (175, .dead), (191, .dead), (198, .dead), (221, .dead), (223, .dead)], [(0, .p [p3102, p3103]), (1, .p [(.int .i64 x3110)]), (2, .p [(.int .i64 (Int.tmod (IntKind.i64.wrap x3091) (IntKind.i64.wrap (x3110 + 1))))]), (3, .r [.sl false 4 0 3 1]), (4, .r [.sl false 5 0 n3270 1, .sl false 6 0 n3279 1, .sl false 7 0 n3288 1]), (5, .p c3271), (6, .p c3280), (7, .p c3289)], 8, []⟩) [5, 7, 9, 10, 49, 50, 51] (by kernel_rfl)) ?_
       replace h4335 := grd_some h4335; obtain ⟨g3291, h4335⟩ := h4335
       replace h4335 := getL_some h4335; obtain ⟨n3293, c3294, h3292, h4335⟩ := h4335
       replace h4335 := grd_some h4335; obtain ⟨g3295, h4335⟩ := h4335
       replace h4335 := grd_some h4335; obtain ⟨g3296, h4335⟩ := h4335
       replace h4335 := bnd'_some h4335; obtain ⟨⟨n3297, c3298⟩, h3299, h4335⟩ := h4335
       (try dsimp only at h4335)
       refine W_sound tab_ok mixed 20 _ _ _ ?_
       simp -implicitDefEqProofs only [go_sem, Nat.reduceBEq, Nat.reduceLT, Int.reduceLE, Int.reduceLT, Int.reduceToNat, ↓reduceIte, g3267, g3291, h3292, g3295, g3296]
       repeat with_reducible refine And.intro (by first | kernel_rfl | decide) ?_
       refine Wp_callD [] (c56_2 N _ _ _ h3299) rfl rfl rfl (by first | rfl | (simp only [go_sem, Nat.reduceBEq, Nat.reduceAdd, Nat.reduceSub, Nat.reduceMul, Nat.reduceLT, Nat.reduceLeDiff, Int.reduceLE, Int.reduceLT, Int.reduceToNat, Int.reduceBEq, Int.reduceBNe, ↓reduceIte, Int.reduceAdd, Int.reduceSub, Int.reduceGT, Int.reduceGE, h3093, h3101, h3106, h3109, h3111, g3114, g3263, h3264, g3267, g3268, g3269, g3273, h3274, g3277, g3278, g3282, h3283, g3286, g3287, g3291, h3292, g3295, g3296] <;> rfl)) rfl (by kernel_rfl) ?_
       refine W_sound tab_ok mixed 9 _ _ _ ?_
       simp -implicitDefEqProofs only [go_sem, Nat.reduceBEq, Nat.reduceAdd, Nat.reduceSub, Nat.reduceMul, Nat.reduceLT, Nat.reduceLeDiff, Int.reduceLE, Int.reduceToNat, ↓reduceIte, Int.reduceAdd]
       repeat with_reducible refine And.intro (by first | kernel_rfl | decide) ?_
       refine again (Wk_keep (st' := ⟨[], [(0, .dead), (1, .dead), (2, .dead), (3, .dead), (5, .ptr 0 0), (6, .dead), (7, .ptr 1 0), (8, .dead), (9, .ptr 2 0), (10, .ptr 3 0), (12, .dead), (13, .dead), (14, .dead), (15, .dead), (16, .dead), (17, .dead), (18, .dead), (19, .dead), (21, .dead), (23, .dead), (25, .dead), (26, .dead), (27, .dead), (28, .dead), (30, .dead), (31, .dead), (32, .dead), (33, .dead), (34, .dead), (35, .dead), (36, .dead), (37, .dead), (38, .dead), (49, .v (.lst false 4 c3113)), (50, .v (.int .i64 4)), (51, .v (.int .i64 4)), (52, .dead), (69, .dead), (95, .dead), (96, .dead), (97, .dead), (98, .dead), (102, .dead), (103, .dead), (104, .dead), (105, .dead), (111, .dead), (112, .dead), (113, .dead), (114, .dead), (122, .dead), (128, .dead), (130, .dead), (164, .dead), (167, .dead), (168, .dead), (169, .dead), (170, .dead), (175, .dead), (191, .dead), (198, .dead), (221, .dead), (223, .dead)], [(0, .p [p3102, p3103]), (1, .p [(.int .i64 x3110)]), (2, .p [(.int .i64 (Int.tmod (IntKind.i64.wrap x3091) (IntKind.i64.wrap (x3110 + 1))))]), (3, .r [.sl false 4 0 4 1]), (4, .r [.sl false 5 0 n3270 1, .sl false 6 0 n3279 1, .sl false 7 0 n3288 1, .sl false 8 0 n3297 1]), (5, .p c3271), (6, .p c3280), (7, .p c3289), (8, .p c3298)], 9, []⟩) [5, 7, 9, 10, 49, 50, 51] (by kernel_rfl)) ?_
       replace h4335 := brn_some h4335; rcases h4335 with ⟨h3300, h4335⟩ | ⟨h3300, h4335⟩
       ·replace h4335 := getI_some h4335; obtain ⟨x3302, h3301, h4335⟩ := h4335
        replace h4335 := grd_some h4335; obtain ⟨g3303, h4335⟩ := h4335
        replace h4335 := casI_some h4335; rcases h4335 with ⟨h3304, h4335⟩ | ⟨_, h4335⟩
        ·replace h4335 := grd_some h4335; obtain ⟨g3305, h4335⟩ := h4335
         replace h4335 := grd_some h4335; obtain ⟨g3306, h4335⟩ := h4335
         replace h4335 := getI_some h4335; obtain ⟨x3308, h3307, h4335⟩ := h4335
         replace h4335 := grd_some h4335; obtain ⟨g3309, h4335⟩ := h4335
         replace h4335 := grd_some h4335; obtain ⟨⟨g3310, g3311⟩, h4335⟩ := h4335
         replace h4335 := grd_some h4335; obtain ⟨g3312, h4335⟩ := h4335
         refine W_sound tab_ok mixed 47 _ _ _ ?_
         simp -implicitDefEqProofs only [go_sem, Nat.reduceBEq, Nat.reduceAdd, Nat.reduceLT, Nat.reduceLeDiff, Int.reduceLE, Int.reduceLT, Int.reduceToNat, ↓reduceIte, Int.reduceGT, g3267, h3300, h3301, h3304, g3306, h3307, g3309, g3310, g3311, g3312]
         repeat with_reducible refine And.intro (by first | kernel_rfl | decide) ?_
         refine Wp_wkK (Wk_freeze 1 [(.int .i64 x3110)] (by rfl) (by decide) (by decide)) rfl ?_
         simp -implicitDefEqProofs only [go_sem, Nat.reduceBEq]
         refine Wp_wkK (Wk_freeze 2 [(.int .i64 (Int.tmod (IntKind.i64.wrap x3091) (IntKind.i64.wrap (x3110 + 1))))] (by rfl) (by decide) (by decide)) rfl ?_
         simp -implicitDefEqProofs only [go_sem, Nat.reduceBEq]
         replace h4335 := grd_some h4335; obtain ⟨g3313, h4335⟩ := h4335
         refine Wp_wkK (Wk_freeze 5 (List.set c3271 (Int.toNat (Int.tmod (IntKind.i64.wrap (IntKind.u8.wrap (Int.tdiv x3302 8))) (Int.tmod (IntKind.i64.wrap x3091) (IntKind.i64.wrap (x3110 + 1))))) (.int .i64 (Int.tmod (IntKind.i64.wrap x3308) x3110))) (by rfl) (by decide) (by decide)) rfl ?_
         simp -implicitDefEqProofs only [go_sem, Nat.reduceBEq, g3313]
         replace h4335 := grd_some h4335; obtain ⟨g3314, h4335⟩ := h4335
         refine Wp_wkK (Wk_freeze 6 c3280 (by rfl) (by decide) (by decide)) rfl ?_
         simp -implicitDefEqProofs only [go_sem, Nat.reduceBEq, g3314]
         replace h4335 := grd_some h4335; obtain ⟨g3315, h4335⟩ := h4335
         refine Wp_wkK (Wk_freeze 7 c3289 (by rfl) (by decide) (by decide)) rfl ?_
         simp -implicitDefEqProofs only [go_sem, Nat.reduceBEq, g3315]
         replace h4335 := grd_some h4335; obtain ⟨g3316, h4335⟩ := h4335
         refine Wp_wkK (Wk_freeze 8 c3298 (by rfl) (by decide) (by decide)) rfl ?_
         simp -implicitDefEqProofs only [go_sem, Nat.reduceBEq, g3316]
         refine Wp_wkK (Wk_freeze 4 [(.lst false n3270 (List.set c3271 (Int.toNat (Int.tmod (IntKind.i64.wrap (IntKind.u8.wrap (Int.tdiv x3302 8))) (Int.tmod (IntKind.i64.wrap x3091) (IntKind.i64.wrap (x3110 + 1))))) (.int .i64 (Int.tmod (IntKind.i64.wrap x3308) x3110)))), (.lst false n3279 c3280), (.lst false n3288 c3289), (.lst false n3297 c3298)] (by rfl) (by decide) (by decide)) rfl ?_
         simp -implicitDefEqProofs only [go_sem, Nat.reduceBEq, Nat.reduceAdd]
         refine Wp_wkK (Wk_freeze 3 [(.lst false 4 [(.lst false n3270 (List.set c3271 (Int.toNat (Int.tmod (IntKind.i64.wrap (IntKind.u8.wrap (Int.tdiv x3302 8))) (Int.tmod (IntKind.i64.wrap x3091) (IntKind.i64.wrap (x3110 + 1))))) (.int .i64 (Int.tmod (IntKind.i64.wrap x3308) x3110)))), (.lst false n3279 c3280), (.lst false n3288 c3289), (.lst false n3297 c3298)])] (by rfl) (by decide) (by decide)) rfl ?_
         simp -implicitDefEqProofs only [go_sem, Nat.reduceBEq]
         (try simp -implicitDefEqProofs only [go_sem, Nat.reduceBEq, Nat.reduceAdd, Nat.reduceSub, Nat.reduceMul, Nat.reduceLT, Nat.reduceLeDiff, Int.reduceLE, Int.reduceLT, Int.reduceToNat, Int.reduceBEq, Int.reduceBNe, ↓reduceIte, Int.reduceAdd, Int.reduceSub, Int.reduceGT, Int.reduceGE, h3093, h3101, h3106, h3109, h3111, g3114, g3263, h3264, g3267, g3268, g3269, g3273, h3274, g3277, g3278, g3282, h3283, g3286, g3287, g3291, h3292, g3295, g3296, h3300, h3301, g3303, h3304, g3305, g3306, h3307, g3309, g3310, g3311, g3312, g3313, g3314, g3315, g3316])
         obtain rfl := Option.some.inj h4335
         refine cutQ _ ?_ ⟨_, rfl, rfl⟩
         exact Wk_keep [7, 9, 10] (by kernel_rfl)
        ·skip
         replace h4335 := casI_some h4335; rcases h4335 with ⟨h3304, h4335⟩ | ⟨_, h4335⟩
         ·replace h4335 := grd_some h4335; obtain ⟨g3317, h4335⟩ := h4335
          replace h4335 := grd_some h4335; obtain ⟨g3318, h4335⟩ := h4335
          replace h4335 := getI_some h4335; obtain ⟨x3320, h3319, h4335⟩ := h4335
          replace h4335 := grd_some h4335; obtain ⟨g3321, h4335⟩ := h4335
          replace h4335 := grd_some h4335; obtain ⟨⟨g3322, g3323⟩, h4335⟩ := h4335
          replace h4335 := grd_some h4335; obtain ⟨g3324, h4335⟩ := h4335
          refine W_sound tab_ok mixed 47 _ _ _ ?_
          simp -implicitDefEqProofs only [go_sem, Nat.reduceBEq, Nat.reduceAdd, Nat.reduceLT, Nat.reduceLeDiff, Int.reduceLE, Int.reduceLT, Int.reduceToNat, ↓reduceIte, Int.reduceGT, g3267, h3300, h3301, h3304, g3318, h3319, g3321, g3322, g3323, g3324]
          repeat with_reducible refine And.intro (by first | kernel_rfl | decide) ?_
          refine Wp_wkK (Wk_freeze 1 [(.int .i64 x3110)] (by rfl) (by decide) (by decide)) rfl ?_
          simp -implicitDefEqProofs only [go_sem, Nat.reduceBEq]
          refine Wp_wkK (Wk_freeze 2 [(.int .i64 (Int.tmod (IntKind.i64.wrap x3091) (IntKind.i64.wrap (x3110 + 1))))] (by rfl) (by decide) (by decide)) rfl ?_
          simp -implicitDefEqProofs only [go_sem, Nat.reduceBEq]
          replace h4335 := grd_some h4335; obtain ⟨g3325, h4335⟩ := h4335
          refine Wp_wkK (Wk_freeze 5 c3271 (by rfl) (by decide) (by decide)) rfl ?_
          simp -implicitDefEqProofs only [go_sem, Nat.reduceBEq, g3325]
          replace h4335 := grd_some h4335; obtain ⟨g3326, h4335⟩ := h4335
          refine Wp_wkK (Wk_freeze 6 (List.set c3280 (Int.toNat (Int.tmod (IntKind.i64.wrap (IntKind.u8.wrap (Int.tdiv x3302 8))) (Int.tmod (IntKind.i64.wrap x3091) (IntKind.i64.wrap (x3110 + 1))))) (.int .i64 (Int.tmod (IntKind.i64.wrap x3320) x3110))) (by rfl) (by decide) (by decide)) rfl ?_
          simp -implicitDefEqProofs only [go_sem, Nat.reduceBEq, g3326]
          replace h4335 := grd_some h4335; obtain ⟨g3327, h4335⟩ := h4335
          refine Wp_wkK (Wk_freeze 7 c3289 (by rfl) (by decide) (by decide)) rfl ?_
          simp -implicitDefEqProofs only [go_sem, Nat.reduceBEq, g3327]
          replace h4335 := grd_some h4335; obtain ⟨g3328, h4335⟩ := h4335
          refine Wp_wkK (Wk_freeze 8 c3298 (by rfl) (by decide) (by decide)) rfl ?_
          simp -implicitDefEqProofs only [go_sem, Nat.reduceBEq, g3328]
          refine Wp_wkK (Wk_freeze 4 [(.lst false n3270 c3271), (.lst false n3279 (List.set c3280 (Int.toNat (Int.tmod (IntKind.i64.wrap (IntKind.u8.wrap (Int.tdiv x3302 8))) (Int.tmod (IntKind.i64.wrap x3091) (IntKind.i64.wrap (x3110 + 1))))) (.int .i64 (Int.tmod (IntKind.i64.wrap x3320) x3110)))), (.lst false n3288 c3289), (.lst false n3297 c3298)] (by rfl) (by decide) (by decide)) rfl ?_
          simp -implicitDefEqProofs only [go_sem, Nat.reduceBEq, Nat.reduceAdd]
          refine Wp_wkK (Wk_freeze 3 [(.lst false 4 [(.lst false n3270 c3271), (.lst false n3279 (List.set c3280 (Int.toNat (Int.tmod (IntKind.i64.wrap (IntKind.u8.wrap (Int.tdiv x3302 8))) (Int.tmod (IntKind.i64.wrap x3091) (IntKind.i64.wrap (x3110 + 1))))) (.int .i64 (Int.tmod (IntKind.i64.wrap x3320) x3110)))), (.lst false n3288 c3289), (.lst false n3297 c3298)])] (by rfl) (by decide) (by decide)) rfl ?_
          simp -implicitDefEqProofs only [go_sem, Nat.reduceBEq]
          (try simp -implicitDefEqProofs only [go_sem, Nat.reduceBEq, Nat.reduceAdd, Nat.reduceSub, Nat.reduceMul, Nat.reduceLT, Nat.reduceLeDiff, Int.reduceLE, Int.reduceLT, Int.reduceToNat, Int.reduceBEq, Int.reduceBNe, ↓reduceIte, Int.reduceAdd, Int.reduceSub, Int.reduceGT, Int.reduceGE, h3093, h3101, h3106, h3109, h3111, g3114, g3263, h3264, g3267, g3268, g3269, g3273, h3274, g3277, g3278, g3282, h3283, g3286, g3287, g3291, h3292, g3295, g3296, h3300, h3301, g3303, h3304, g3317, g3318, h3319, g3321, g3322, g3323, g3324, g3325, g3326, g3327, g3328])
          obtain rfl := Option.some.inj h4335
          refine cutQ _ ?_ ⟨_, rfl, rfl⟩
          exact Wk_keep [7, 9, 10] (by kernel_rfl)
         ·skip
          replace h4335 := casI_some h4335; rcases h4335 with ⟨h3304, h4335⟩ | ⟨_, h4335⟩
          ·replace h4335 := grd_some h4335; obtain ⟨g3329, h4335⟩ := h4335
           replace h4335 := grd_some h4335; obtain ⟨g3330, h4335⟩ := h4335
           replace h4335 := getI_some h4335; obtain ⟨x3332, h3331, h4335⟩ := h4335
           replace h4335 := grd_some h4335; obtain ⟨g3333, h4335⟩ := h4335
           replace h4335 := grd_some h4335; obtain ⟨⟨g3334, g3335⟩, h4335⟩ := h4335
           replace h4335 := grd_some h4335; obtain ⟨g3336, h4335⟩ := h4335
           refine W_sound tab_ok mixed 47 _ _ _ ?_
           simp -implicitDefEqProofs only [go_sem, Nat.reduceBEq, Nat.reduceAdd, Nat.reduceLT, Nat.reduceLeDiff, Int.reduceLE, Int.reduceLT, Int.reduceToNat, ↓reduceIte, Int.reduceGT, g3267, h3300, h3301, h3304, g3330, h3331, g3333, g3334, g3335, g3336]
           repeat with_reducible refine And.intro (by first | kernel_rfl | decide) ?_
           refine Wp_wkK (Wk_freeze 1 [(.int .i64 x3110)] (by rfl) (by decide) (by decide)) rfl ?_
           simp -implicitDefEqProofs only [go_sem, Nat.reduceBEq]
           refine Wp_wkK (Wk_freeze 2 [(.int .i64 (Int.tmod (IntKind.i64.wrap x3091) (IntKind.i64.wrap (x3110 + 1))))] (by rfl) (by decide) (by decide)) rfl ?_
           simp -implicitDefEqProofs only [go_sem, Nat.reduceBEq]
           replace h4335 := grd_some h4335; obtain ⟨g3337, h4335⟩ := h4335
           refine Wp_wkK (Wk_freeze 5 c3271 (by rfl) (by decide) (by decide)) rfl ?_
           simp -implicitDefEqProofs only [go_sem, Nat.reduceBEq, g3337]
           replace h4335 := grd_some h4335; obtain ⟨g3338, h4335⟩ := h4335
           refine Wp_wkK (Wk_freeze 6 c3280 (by rfl) (by decide) (by decide)) rfl ?_
           simp -implicitDefEqProofs only [go_sem, Nat.reduceBEq, g3338]
           replace h4335 := grd_some h4335; obtain ⟨g3339, h4335⟩ := h4335
           refine Wp_wkK (Wk_freeze 7 (List.set c3289 (Int.toNat (Int.tmod (IntKind.i64.wrap (IntKind.u8.wrap (Int.tdiv x3302 8))) (Int.tmod (IntKind.i64.wrap x3091) (IntKind.i64.wrap (x3110 + 1))))) (.int .i64 (Int.tmod (IntKind.i64.wrap x3332) x3110))) (by rfl) (by decide) (by decide)) rfl ?_
           simp -implicitDefEqProofs only [go_sem, Nat.reduceBEq, g3339]
           replace h4335 := grd_some h4335; obtain ⟨g3340, h4335⟩ := h4335
           refine Wp_wkK (Wk_freeze 8 c3298 (by rfl) (by decide) (by decide)) rfl ?_
           simp -implicitDefEqProofs only [go_sem, Nat.reduceBEq, g3340]
           refine Wp_wkK (Wk_freeze 4 [(.lst false n3270 c3271), (.lst false n3279 c3280), (.lst false n3288 (List.set c3289 (Int.toNat (Int.tmod (IntKind.i64.wrap (IntKind.u8.wrap (Int.tdiv x3302 8))) (Int.tmod (IntKind.i64.wrap x3091) (IntKind.i64.wrap (x3110 + 1))))) (.int .i64 (Int.tmod (IntKind.i64.wrap x3332) x3110)))), (.lst false n3297 c3298)] (by rfl) (by decide) (by decide)) rfl ?_
           simp -implicitDefEqProofs only [go_sem, Nat.reduceBEq, Nat.reduceAdd]
           refine Wp_wkK (Wk_freeze 3 [(.lst false 4 [(.lst false n3270 c3271), (.lst false n3279 c3280), (.lst false n3288 (List.set c3289 (Int.toNat (Int.tmod (IntKind.i64.wrap (IntKind.u8.wrap (Int.tdiv x3302 8))) (Int.tmod (IntKind.i64.wrap x3091) (IntKind.i64.wrap (x3110 + 1))))) (.int .i64 (Int.tmod (IntKind.i64.wrap x3332) x3110)))), (.lst false n3297 c3298)])] (by rfl) (by decide) (by decide)) rfl ?_
           simp -implicitDefEqProofs only [go_sem, Nat.reduceBEq]
           (try simp -implicitDefEqProofs only [go_sem, Nat.reduceBEq, Nat.reduceAdd, Nat.reduceSub, Nat.reduceMul, Nat.reduceLT, Nat.reduceLeDiff, Int.reduceLE, Int.reduceLT, Int.reduceToNat, Int.reduceBEq, Int.reduceBNe, ↓reduceIte, Int.reduceAdd, Int.reduceSub, Int.reduceGT, Int.reduceGE, h3093, h3101, h3106, h3109, h3111, g3114, g3263, h3264, g3267, g3268, g3269, g3273, h3274, g3277, g3278, g3282, h3283, g3286, g3287, g3291, h3292, g3295, g3296, h3300, h3301, g3303, h3304, g3329, g3330, h3331, g3333, g3334, g3335, g3336, g3337, g3338, g3339, g3340])
           obtain rfl := Option.some.inj h4335
           refine cutQ _ ?_ ⟨_, rfl, rfl⟩
           exact Wk_keep [7, 9, 10] (by kernel_rfl)
          ·skip
           replace h4335 := casI_some h4335; rcases h4335 with ⟨h3304, h4335⟩ | ⟨_, h4335⟩
           ·replace h4335 := grd_some h4335; obtain ⟨g3341, h4335⟩ := h4335
            replace h4335 := grd_some h4335; obtain ⟨g3342, h4335⟩ := h4335
            replace h4335 := getI_some h4335; obtain ⟨x3344, h3343, h4335⟩ := h4335
            replace h4335 := grd_some h4335; obtain ⟨g3345, h4335⟩ := h4335
            replace h4335 := grd_some h4335; obtain ⟨⟨g3346, g3347⟩, h4335⟩ := h4335
            replace h4335 := grd_some h4335; obtain ⟨g3348, h4335⟩ := h4335
            refine W_sound tab_ok mixed 47 _ _ _ ?_
            simp -implicitDefEqProofs only [go_sem, Nat.reduceBEq, Nat.reduceAdd, Nat.reduceLT, Nat.reduceLeDiff, Int.reduceLE, Int.reduceLT, Int.reduceToNat, ↓reduceIte, Int.reduceGT, g3267, h3300, h3301, h3304, g3342, h3343, g3345, g3346, g3347, g3348]
            repeat with_reducible refine And.intro (by first | kernel_rfl | decide) ?_
            refine Wp_wkK (Wk_freeze 1 [(.int .i64 x3110)] (by rfl) (by decide) (by decide)) rfl ?_
            simp -implicitDefEqProofs only [go_sem, Nat.reduceBEq]
            refine Wp_wkK (Wk_freeze 2 [(.int .i64 (Int.tmod (IntKind.i64.wrap x3091) (IntKind.i64.wrap (x3110 + 1))))] (by rfl) (by decide) (by decide)) rfl ?_
            simp -implicitDefEqProofs only [go_sem, Nat.reduceBEq]
            replace h4335 := grd_some h4335; obtain ⟨g3349, h4335⟩ := h4335
            refine Wp_wkK (Wk_freeze 5 c3271 (by rfl) (by decide) (by decide)) rfl ?_
            simp -implicitDefEqProofs only [go_sem, Nat.reduceBEq, g3349]
            replace h4335 := grd_some h4335; obtain ⟨g3350, h4335⟩ := h4335
            refine Wp_wkK (Wk_freeze 6 c3280 (by rfl) (by decide) (by decide)) rfl ?_
            simp -implicitDefEqProofs only [go_sem, Nat.reduceBEq, g3350]
            replace h4335 := grd_some h4335; obtain ⟨g3351, h4335⟩ := h4335
            refine Wp_wkK (Wk_freeze 7 c3289 (by rfl) (by decide) (by decide)) rfl ?_
            simp -implicitDefEqProofs only [go_sem, Nat.reduceBEq, g3351]
            replace h4335 := grd_some h4335; obtain ⟨g3352, h4335⟩ := h4335
            refine Wp_wkK (Wk_freeze 8 (List.set c3298 (Int.toNat (Int.tmod (IntKind.i64.wrap (IntKind.u8.wrap (Int.tdiv x3302 8))) (Int.tmod (IntKind.i64.wrap x3091) (IntKind.i64.wrap (x3110 + 1))))) (.int .i64 (Int.tmod (IntKind.i64.wrap x3344) x3110))) (by rfl) (by decide) (by decide)) rfl ?_
            simp -implicitDefEqProofs only [go_sem, Nat.reduceBEq, g3352]
            refine Wp_wkK (Wk_freeze 4 [(.lst false n3270 c3271), (.lst false n3279 c3280), (.lst false n3288 c3289), (.lst false n3297 (List.set c3298 (Int.toNat (Int.tmod (IntKind.i64.wrap (IntKind.u8.wrap (Int.tdiv x3302 8))) (Int.tmod (IntKind.i64.wrap x3091) (IntKind.i64.wrap (x3110 + 1))))) (.int .i64 (Int.tmod (IntKind.i64.wrap x3344) x3110))))] (by rfl) (by decide) (by decide)) rfl ?_
            simp -implicitDefEqProofs only [go_sem, Nat.reduceBEq, Nat.reduceAdd]
            refine Wp_wkK (Wk_freeze 3 [(.lst false 4 [(.lst false n3270 c3271), (.lst false n3279 c3280), (.lst false n3288 c3289), (.lst false n3297 (List.set c3298 (Int.toNat (Int.tmod (IntKind.i64.wrap (IntKind.u8.wrap (Int.tdiv x3302 8))) (Int.tmod (IntKind.i64.wrap x3091) (IntKind.i64.wrap (x3110 + 1))))) (.int .i64 (Int.tmod (IntKind.i64.wrap x3344) x3110))))])] (by rfl) (by decide) (by decide)) rfl ?_
            simp -implicitDefEqProofs only [go_sem, Nat.reduceBEq]
            (try simp -implicitDefEqProofs only [go_sem, Nat.reduceBEq, Nat.reduceAdd, Nat.reduceSub, Nat.reduceMul, Nat.reduceLT, Nat.reduceLeDiff, Int.reduceLE, Int.reduceLT, Int.reduceToNat, Int.reduceBEq, Int.reduceBNe, ↓reduceIte, Int.reduceAdd, Int.reduceSub, Int.reduceGT, Int.reduceGE, h3093, h3101, h3106, h3109, h3111, g3114, g3263, h3264, g3267, g3268, g3269, g3273, h3274, g3277, g3278, g3282, h3283, g3286, g3287, g3291, h3292, g3295, g3296, h3300, h3301, g3303, h3304, g3341, g3342, h3343, g3345, g3346, g3347, g3348, g3349, g3350, g3351, g3352])
            obtain rfl := Option.some.inj h4335
            refine cutQ _ ?_ ⟨_, rfl, rfl⟩
            exact Wk_keep [7, 9, 10] (by kernel_rfl)
           ·skip
            cases h4335
       ·refine W_sound tab_ok mixed 19 _ _ _ ?_
        simp -implicitDefEqProofs only [go_sem, Nat.reduceBEq, Nat.reduceLT, Int.reduceLE, Int.reduceLT, Int.reduceToNat, ↓reduceIte, Int.reduceGT, h3300]
        repeat with_reducible refine And.intro (by first | kernel_rfl | decide) ?_
        refine Wp_wkK (Wk_freeze 1 [(.int .i64 x3110)] (by rfl) (by decide) (by decide)) rfl ?_
        simp -implicitDefEqProofs only [go_sem, Nat.reduceBEq]
        refine Wp_wkK (Wk_freeze 2 [(.int .i64 (Int.tmod (IntKind.i64.wrap x3091) (IntKind.i64.wrap (x3110 + 1))))] (by rfl) (by decide) (by decide)) rfl ?_
        simp -implicitDefEqProofs only [go_sem, Nat.reduceBEq]
        replace h4335 := grd_some h4335; obtain ⟨g3353, h4335⟩ := h4335
        refine Wp_wkK (Wk_freeze 5 c3271 (by rfl) (by decide) (by decide)) rfl ?_
        simp -implicitDefEqProofs only [go_sem, Nat.reduceBEq, g3353]
        replace h4335 := grd_some h4335; obtain ⟨g3354, h4335⟩ := h4335
        refine Wp_wkK (Wk_freeze 6 c3280 (by rfl) (by decide) (by decide)) rfl ?_
        simp -implicitDefEqProofs only [go_sem, Nat.reduceBEq, g3354]
        replace h4335 := grd_some h4335; obtain ⟨g3355, h4335⟩ := h4335
        refine Wp_wkK (Wk_freeze 7 c3289 (by rfl) (by decide) (by decide)) rfl ?_
        simp -implicitDefEqProofs only [go_sem, Nat.reduceBEq, g3355]
        replace h4335 := grd_some h4335; obtain ⟨g3356, h4335⟩ := h4335
        refine Wp_wkK (Wk_freeze 8 c3298 (by rfl) (by decide) (by decide)) rfl ?_
        simp -implicitDefEqProofs only [go_sem, Nat.reduceBEq, g3356]
        refine Wp_wkK (Wk_freeze 4 [(.lst false n3270 c3271), (.lst false n3279 c3280), (.lst false n3288 c3289), (.lst false n3297 c3298)] (by rfl) (by decide) (by decide)) rfl ?_
        simp -implicitDefEqProofs only [go_sem, Nat.reduceBEq, Nat.reduceAdd]
        refine Wp_wkK (Wk_freeze 3 [(.lst false 4 [(.lst false n3270 c3271), (.lst false n3279 c3280), (.lst false n3288 c3289), (.lst false n3297 c3298)])] (by rfl) (by decide) (by decide)) rfl ?_
        simp -implicitDefEqProofs only [go_sem, Nat.reduceBEq]
        (try simp -implicitDefEqProofs only [go_sem, Nat.reduceBEq, Nat.reduceAdd, Nat.reduceSub, Nat.reduceMul, Nat.reduceLT, Nat.reduceLeDiff, Int.reduceLE, Int.reduceLT, Int.reduceToNat, Int.reduceBEq, Int.reduceBNe, ↓reduceIte, Int.reduceAdd, Int.reduceSub, Int.reduceGT, Int.reduceGE, h3093, h3101, h3106, h3109, h3111, g3114, g3263, h3264, g3267, g3268, g3269, g3273, h3274, g3277, g3278, g3282, h3283, g3286, g3287, g3291, h3292, g3295, g3296, h3300, g3353, g3354, g3355, g3356])
        obtain rfl := Option.some.inj h4335
        refine cutQ _ ?_ ⟨_, rfl, rfl⟩
        exact Wk_keep [7, 9, 10] (by kernel_rfl)
      ·skip
       cases h4335
 ·rintro _ ⟨p3357, rfl, rfl⟩
  replace h4336 := getL_some h4336; obtain ⟨n3359, c3360, h3358, h4336⟩ := h4336
  replace h4336 := bnd'_some h4336; obtain ⟨p3372, h3373, h4336⟩ := h4336
  refine W_sound tab_ok mixed 4 _ _ _ ?_
  simp -implicitDefEqProofs only [go_sem, Nat.reduceBEq, Nat.reduceLT, h3358]
  repeat with_reducible refine And.intro (by first | kernel_rfl | decide) ?_
  refine Wp_callP (c49 N _ _ _ h3373) (by kernel_rfl) rfl rfl rfl rfl (by decide) ?_
  replace h4336 := getI_some h4336; obtain ⟨x3375, h3374, h4336⟩ := h4336
  refine W_sound tab_ok mixed 9 _ _ _ ?_
  simp -implicitDefEqProofs only [go_sem, Nat.reduceBEq, Nat.reduceLT, h3374]
  repeat with_reducible refine And.intro (by first | kernel_rfl | decide) ?_
  replace h4336 := bnd'_some h4336; obtain ⟨o4337, h4338, h4339⟩ := h4336
  refine Wp_cut (fun s => (.inr ()) = o4337 ∧ s = ⟨[], [(0, .dead), (1, .dead), (2, .dead), (3, .dead), (5, .dead), (6, .dead), (7, .v (.ipt [(.int .i64 x3110)])), (8, .dead), (9, .v (.ipt [(.int .i64 (Int.tmod (IntKind.i64.wrap x3091) (IntKind.i64.wrap (x3110 + 1))))])), (10, .v (.ipt [(.lst false n3359 c3360)])), (12, .dead), (13, .dead), (14, .v (.int .i64 x3375)), (15, .dead), (16, .dead), (17, .dead), (18, .dead), (19, .dead), (21, .dead), (23, .dead), (25, .dead), (26, .dead), (27, .dead), (28, .dead), (30, .dead), (31, .dead), (32, .dead), (33, .dead), (34, .dead), (35, .dead), (36, .dead), (37, .dead), (38, .dead), (49, .dead), (50, .dead), (51, .dead), (52, .dead), (69, .dead), (95, .dead), (96, .dead), (97, .dead), (98, .dead), (102, .dead), (103, .dead), (104, .dead), (105, .dead), (111, .dead), (112, .dead), (113, .dead), (114, .dead), (122, .dead), (128, .dead), (130, .dead), (164, .dead), (167, .dead), (168, .dead), (169, .dead), (170, .dead), (175, .dead), (191, .dead), (198, .dead), (221, .dead), (223, .dead)], [], 0, []⟩) ?_ ?_
  ·refine Wp_block ?_
   refine Wp_loopG (fun n s => ∃ x3376, m14_L1 N x3091 x3110 n3359 c3360 x3375 n x3376 = some o4337 ∧ s = ⟨[], [(0, .dead), (1, .dead), (2, .dead), (3, .dead), (5, .dead), (6, .dead), (7, .v (.ipt [(.int .i64 x3110)])), (8, .dead), (9, .v (.ipt [(.int .i64 (Int.tmod (IntKind.i64.wrap x3091) (IntKind.i64.wrap (x3110 + 1))))])), (10, .v (.ipt [(.lst false n3359 c3360)])), (12, .dead), (13, .dead), (14, .v (.int .i64 x3375)), (15, .dead), (16, .dead), (17, .dead), (18, .dead), (19, .dead), (21, .dead), (23, .dead), (25, .dead), (26, .dead), (27, .dead), (28, .dead), (30, .dead), (31, .dead), (32, .dead), (33, .dead), (34, .dead), (35, .dead), (36, .dead), (37, .dead), (38, .dead), (49, .dead), (50, .dead), (51, .dead), (52, .dead), (69, .dead), (95, .v (.lst false n3359 c3360)), (96, .v (.int .i64 ((n3359 : Nat) : Int))), (97, .v (.int .i64 x3376)), (98, .dead), (102, .dead), (103, .dead), (104, .dead), (105, .dead), (111, .dead), (112, .dead), (113, .dead), (114, .dead), (122, .dead), (128, .dead), (130, .dead), (164, .dead), (167, .dead), (168, .dead), (169, .dead), (170, .dead), (175, .dead), (191, .dead), (198, .dead), (221, .dead), (223, .dead)], [], 0, []⟩) N _ ?_ ⟨_, h4338, rfl⟩ ?_
   ·exact Wk_keep [7, 9, 10, 14, 95, 96, 97] (by kernel_rfl)
   clear h4338
   rintro n _ ⟨x3376, h4338, rfl⟩
   cases n with
   | zero => cases h4338
   | succ n =>
    rw [m14_L1] at h4338
    replace h4338 := brn_some h4338; rcases h4338 with ⟨h3377, h4338⟩ | ⟨h3377, h4338⟩
    ·replace h4338 := grd_some h4338; obtain ⟨⟨g3378, g3379⟩, h4338⟩ := h4338
     replace h4338 := grd_some h4338; obtain ⟨g3380, h4338⟩ := h4338
     replace h4338 := getL_some h4338; obtain ⟨n3382, c3383, h3381, h4338⟩ := h4338
     refine W_sound tab_ok mixed 23 _ _ _ ?_
     simp -implicitDefEqProofs only [go_sem, Nat.reduceBEq, Nat.reduceLT, ↓reduceIte, g3378, g3379, g3380, h3381]
     repeat with_reducible refine And.intro (by first | kernel_rfl | decide) ?_
     replace h4338 := bnd'_some h4338; obtain ⟨o4340, h4341, h4342⟩ := h4338
     refine Wp_cut (fun s => (.inr ()) = o4340 ∧ s = ⟨[], [(0, .dead), (1, .dead), (2, .dead), (3, .dead), (5, .dead), (6, .dead), (7, .v (.ipt [(.int .i64 x3110)])), (8, .dead), (9, .v (.ipt [(.int .i64 (Int.tmod (IntKind.i64.wrap x3091) (IntKind.i64.wrap (x3110 + 1))))])), (10, .v (.ipt [(.lst false n3359 c3360)])), (12, .dead), (13, .dead), (14, .v (.int .i64 x3375)), (15, .dead), (16, .dead), (17, .dead), (18, .dead), (19, .dead), (21, .dead), (23, .dead), (25, .dead), (26, .dead), (27, .dead), (28, .dead), (30, .dead), (31, .dead), (32, .dead), (33, .dead), (34, .dead), (35, .dead), (36, .dead), (37, .dead), (38, .dead), (49, .dead), (50, .dead), (51, .dead), (52, .dead), (69, .dead), (95, .v (.lst false n3359 c3360)), (96, .v (.int .i64 ((n3359 : Nat) : Int))), (97, .v (.int .i64 x3376)), (98, .dead), (102, .dead), (103, .dead), (104, .dead), (105, .dead), (111, .dead), (112, .dead), (113, .dead), (114, .dead), (122, .dead), (128, .dead), (130, .dead), (164, .dead), (167, .dead), (168, .dead), (169, .dead), (170, .dead), (175, .dead), (191, .dead), (198, .dead), (221, .dead), (223, .dead)], [], 0, []⟩) ?_ ?_
     ·refine Wp_block ?_
      refine Wp_loopG (fun n s => ∃ x3384, m14_L2 N x3091 x3110 n3359 c3360 x3375 x3376 n3382 c3383 n x3384 = some o4340 ∧ s = ⟨[], [(0, .dead), (1, .dead), (2, .dead), (3, .dead), (5, .dead), (6, .dead), (7, .v (.ipt [(.int .i64 x3110)])), (8, .dead), (9, .v (.ipt [(.int .i64 (Int.tmod (IntKind.i64.wrap x3091) (IntKind.i64.wrap (x3110 + 1))))])), (10, .v (.ipt [(.lst false n3359 c3360)])), (12, .dead), (13, .dead), (14, .v (.int .i64 x3375)), (15, .v (.int .i64 x3376)), (16, .v (.lst false n3382 c3383)), (17, .dead), (18, .dead), (19, .dead), (21, .dead), (23, .dead), (25, .dead), (26, .dead), (27, .dead), (28, .dead), (30, .dead), (31, .dead), (32, .dead), (33, .dead), (34, .dead), (35, .dead), (36, .dead), (37, .dead), (38, .dead), (49, .dead), (50, .dead), (51, .dead), (52, .dead), (69, .dead), (95, .v (.lst false n3359 c3360)), (96, .v (.int .i64 ((n3359 : Nat) : Int))), (97, .v (.int .i64 x3376)), (98, .dead), (102, .v (.lst false n3382 c3383)), (103, .v (.int .i64 ((n3382 : Nat) : Int))), (104, .v (.int .i64 x3384)), (105, .dead), (111, .dead), (112, .dead), (113, .dead), (114, .dead), (122, .dead), (128, .dead), (130, .dead), (164, .dead), (167, .dead), (168, .dead), (169, .dead), (170, .dead), (175, .dead), (191, .dead), (198, .dead), (221, .dead), (223, .dead)], [], 0, []⟩) N _ ?_ ⟨_, h4341, rfl⟩ ?_
      ·exact Wk_keep [7, 9, 10, 14, 15, 16, 95, 96, 97, 102, 103, 104] (by kernel_rfl)
      clear h4341
      rintro n _ ⟨x3384, h4341, rfl⟩
      cases n with
      | zero => cases h4341
      | succ n =>
       rw [m14_L2] at h4341
       replace h4341 := brn_some h4341; rcases h4341 with ⟨h3385, h4341⟩ | ⟨h3385, h4341⟩
       ·replace h4341 := grd_some h4341; obtain ⟨⟨g3386, g3387⟩, h4341⟩ := h4341
        replace h4341 := grd_some h4341; obtain ⟨g3388, h4341⟩ := h4341
        replace h4341 := getI_some h4341; obtain ⟨x3390, h3389, h4341⟩ := h4341
        replace h4341 := grd_some h4341; obtain ⟨g3391, h4341⟩ := h4341
        replace h4341 := grd_some h4341; obtain ⟨g3392, h4341⟩ := h4341
        refine W_sound tab_ok mixed 30 _ _ _ ?_
        simp -implicitDefEqProofs only [go_sem, Nat.reduceBEq, Nat.reduceLT, ↓reduceIte, g3378, g3386, g3387, g3388, h3389, g3391, g3392]
        repeat with_reducible refine And.intro (by first | kernel_rfl | decide) ?_
        replace h4341 := bnd'_some h4341; obtain ⟨o4343, h4344, h4345⟩ := h4341
        refine Wp_cut (fun s => ∃ x3408, x3408 = o4343 ∧ s = ⟨[], [(0, .dead), (1, .dead), (2, .dead), (3, .dead), (5, .dead), (6, .dead), (7, .v (.ipt [(.int .i64 x3110)])), (8, .dead), (9, .v (.ipt [(.int .i64 (Int.tmod (IntKind.i64.wrap x3091) (IntKind.i64.wrap (x3110 + 1))))])), (10, .v (.ipt [(.lst false n3359 c3360)])), (12, .dead), (13, .dead), (14, .v (.int .i64 x3375)), (15, .v (.int .i64 x3376)), (16, .v (.lst false n3382 c3383)), (17, .v (.int .i64 x3384)), (18, .v (.int .i64 x3390)), (19, .v (.int .i64 x3408)), (21, .dead), (23, .dead), (25, .dead), (26, .dead), (27, .dead), (28, .dead), (30, .dead), (31, .dead), (32, .dead), (33, .dead), (34, .dead), (35, .dead), (36, .dead), (37, .dead), (38, .dead), (49, .dead), (50, .dead), (51, .dead), (52, .dead), (69, .dead), (95, .v (.lst false n3359 c3360)), (96, .v (.int .i64 ((n3359 : Nat) : Int))), (97, .v (.int .i64 x3376)), (98, .dead), (102, .v (.lst false n3382 c3383)), (103, .v (.int .i64 ((n3382 : Nat) : Int))), (104, .v (.int .i64 x3384)), (105, .dead), (111, .dead), (112, .dead), (113, .dead), (114, .dead), (122, .dead), (128, .dead), (130, .dead), (164, .dead), (167, .dead), (168, .dead), (169, .dead), (170, .dead), (175, .dead), (191, .dead), (198, .dead), (221, .dead), (223, .dead)], [], 0, []⟩) ?_ ?_
        ·refine Wp_block ?_
         refine Wp_loopG (fun n s => ∃ x3393, ∃ x3394, m14_L3 N x3091 x3110 n3359 c3360 x3375 x3376 n3382 c3383 x3384 x3390 n x3393 x3394 = some o4343 ∧ s = ⟨[], [(0, .dead), (1, .dead), (2, .dead), (3, .dead), (5, .dead), (6, .dead), (7, .v (.ipt [(.int .i64 x3110)])), (8, .dead), (9, .v (.ipt [(.int .i64 (Int.tmod (IntKind.i64.wrap x3091) (IntKind.i64.wrap (x3110 + 1))))])), (10, .v (.ipt [(.lst false n3359 c3360)])), (12, .dead), (13, .dead), (14, .v (.int .i64 x3375)), (15, .v (.int .i64 x3376)), (16, .v (.lst false n3382 c3383)), (17, .v (.int .i64 x3384)), (18, .v (.int .i64 x3390)), (19, .v (.int .i64 x3393)), (21, .dead), (23, .dead), (25, .dead), (26, .dead), (27, .dead), (28, .dead), (30, .dead), (31, .dead), (32, .dead), (33, .dead), (34, .dead), (35, .dead), (36, .dead), (37, .dead), (38, .dead), (49, .dead), (50, .dead), (51, .dead), (52, .dead), (69, .dead), (95, .v (.lst false n3359 c3360)), (96, .v (.int .i64 ((n3359 : Nat) : Int))), (97, .v (.int .i64 x3376)), (98, .dead), (102, .v (.lst false n3382 c3383)), (103, .v (.int .i64 ((n3382 : Nat) : Int))), (104, .v (.int .i64 x3384)), (105, .dead), (111, .v (.lst false (Int.toNat x3376) (List.take (Int.toNat x3376) c3360))), (112, .v (.int .i64 (((Int.toNat x3376) : Nat) : Int))), (113, .v (.int .i64 x3394)), (114, .dead), (122, .dead), (128, .dead), (130, .dead), (164, .dead), (167, .dead), (168, .dead), (169, .dead), (170, .dead), (175, .dead), (191, .dead), (198, .dead), (221, .dead), (223, .dead)], [], 0, []⟩) N _ ?_ ⟨_, _, h4344, rfl⟩ ?_
         ·exact Wk_keep [7, 9, 10, 14, 15, 16, 17, 18, 19, 95, 96, 97, 102, 103, 104, 111, 112, 113] (by kernel_rfl)
         clear h4344
         rintro n _ ⟨x3393, x3394, h4344, rfl⟩
         cases n with
         | zero => cases h4344
         | succ n =>
          rw [m14_L3] at h4344
          replace h4344 := brn_some h4344; rcases h4344 with ⟨h3395, h4344⟩ | ⟨h3395, h4344⟩
          ·replace h4344 := grd_some h4344; obtain ⟨⟨g3396, g3397⟩, h4344⟩ := h4344
           replace h4344 := grd_some h4344; obtain ⟨⟨g3398, g3399⟩, h4344⟩ := h4344
           replace h4344 := getL_some h4344; obtain ⟨n3401, c3402, h3400, h4344⟩ := h4344
           replace h4344 := grd_some h4344; obtain ⟨g3403, h4344⟩ := h4344
           replace h4344 := grd_some h4344; obtain ⟨g3404, h4344⟩ := h4344
           replace h4344 := getI_some h4344; obtain ⟨x3406, h3405, h4344⟩ := h4344
           replace h4344 := brn_some h4344; rcases h4344 with ⟨h3407, h4344⟩ | ⟨h3407, h4344⟩
           ·refine W_sound tab_ok mixed 33 _ _ _ ?_
            simp -implicitDefEqProofs only [go_sem, Nat.reduceBEq, Nat.reduceLT, Int.reduceLE, Int.reduceToNat, ↓reduceIte, g3386, g3396, g3397, g3398, g3399, h3400, g3403, g3404, h3405, h3407]
            repeat with_reducible refine And.intro (by first | kernel_rfl | decide) ?_
            refine cutQ _ ?_ ⟨n, Nat.lt_succ_self n, _, _, h4344, rfl⟩
            exact Wk_keep [7, 9, 10, 14, 15, 16, 17, 18, 19, 95, 96, 97, 102, 103, 104, 111, 112, 113] (by kernel_rfl)
           ·refine W_sound tab_ok mixed 31 _ _ _ ?_
            simp -implicitDefEqProofs only [go_sem, Nat.reduceBEq, Nat.reduceLT, Int.reduceLE, Int.reduceToNat, ↓reduceIte, g3386, g3396, g3397, g3398, g3399, h3400, g3403, g3404, h3405, h3407]
            repeat with_reducible refine And.intro (by first | kernel_rfl | decide) ?_
            refine cutQ _ ?_ ⟨n, Nat.lt_succ_self n, _, _, h4344, rfl⟩
            exact Wk_keep [7, 9, 10, 14, 15, 16, 17, 18, 19, 95, 96, 97, 102, 103, 104, 111, 112, 113] (by kernel_rfl)
          ·refine W_sound tab_ok mixed 7 _ _ _ ?_
           simp -implicitDefEqProofs only [go_sem, Nat.reduceBEq, Nat.reduceLT, ↓reduceIte, h3395]
           repeat with_reducible refine And.intro (by first | kernel_rfl | decide) ?_
           obtain rfl := Option.some.inj h4344
           refine cutQ _ ?_ ⟨_, rfl, rfl⟩
           exact Wk_keep [7, 9, 10, 14, 15, 16, 17, 18, 19, 95, 96, 97, 102, 103, 104] (by kernel_rfl)
        ·rintro _ ⟨x3408, rfl, rfl⟩
         replace h4345 := grd_some h4345; obtain ⟨g3409, h4345⟩ := h4345
         replace h4345 := grd_some h4345; obtain ⟨g3410, h4345⟩ := h4345
         replace h4345 := bnd'_some h4345; obtain ⟨p3411, h3412, h4345⟩ := h4345
         refine W_sound tab_ok mixed 7 _ _ _ ?_
         simp -implicitDefEqProofs only [go_sem, Nat.reduceBEq, Nat.reduceLT, g3386, g3409, g3410]
         repeat with_reducible refine And.intro (by first | kernel_rfl | decide) ?_
         refine Wp_callP (c57 N _ _ _ h3412) (by kernel_rfl) rfl rfl rfl rfl (by decide) ?_
         replace h4345 := getB_some h4345; obtain ⟨b3414, h3413, h4345⟩ := h4345
         replace h4345 := brn_some h4345; rcases h4345 with ⟨h3415, h4345⟩ | ⟨h3415, h4345⟩
         ·replace h4345 := bnd'_some h4345; obtain ⟨p3416, h3417, h4345⟩ := h4345
          refine W_sound tab_ok mixed 15 _ _ _ ?_
          simp -implicitDefEqProofs only [go_sem, Nat.reduceBEq, Nat.reduceLT, Int.reduceBNe, ↓reduceIte, h3413, h3415]
          repeat with_reducible refine And.intro (by first | kernel_rfl | decide) ?_
          refine Wp_callP (c45 N _ _ _ h3417) (by kernel_rfl) rfl rfl rfl rfl (by decide) ?_
          replace h4345 := getT2_some h4345; obtain ⟨p3419, p3420, h3418, h4345⟩ := h4345
          replace h4345 := getI_some h4345; obtain ⟨x3422, h3421, h4345⟩ := h4345
          replace h4345 := getI_some h4345; obtain ⟨x3424, h3423, h4345⟩ := h4345
          replace h4345 := bnd'_some h4345; obtain ⟨p3425, h3426, h4345⟩ := h4345
          refine W_sound tab_ok mixed 10 _ _ _ ?_
          simp -implicitDefEqProofs only [go_sem, Nat.reduceBEq, Nat.reduceLT, h3418, h3421, h3423]
          repeat with_reducible refine And.intro (by first | kernel_rfl | decide) ?_
          refine Wp_callP (c47 N _ _ _ h3426) (by kernel_rfl) rfl rfl rfl rfl (by decide) ?_
          replace h4345 := getT2_some h4345; obtain ⟨p3428, p3429, h3427, h4345⟩ := h4345
          replace h4345 := getL_some h4345; obtain ⟨n3431, c3432, h3430, h4345⟩ := h4345
          replace h4345 := getI_some h4345; obtain ⟨x3434, h3433, h4345⟩ := h4345
          replace h4345 := brn_some h4345; rcases h4345 with ⟨h3435, h4345⟩ | ⟨h3435, h4345⟩
          ·replace h4345 := brn_some h4345; rcases h4345 with ⟨h3436, h4345⟩ | ⟨h3436, h4345⟩
           ·replace h4345 := brn_some h4345; rcases h4345 with ⟨h3437, h4345⟩ | ⟨h3437, h4345⟩
            ·replace h4345 := bnd'_some h4345; obtain ⟨p3438, h3439, h4345⟩ := h4345
             refine W_sound tab_ok mixed 22 _ _ _ ?_
             simp -implicitDefEqProofs only [go_sem, Nat.reduceBEq, Nat.reduceLT, Int.reduceLE, Int.reduceToNat, ↓reduceIte, h3427, h3430, h3433, h3435, h3436, h3437]
             repeat with_reducible refine And.intro (by first | kernel_rfl | decide) ?_
             refine Wp_callP (c16 N  _ h3439) (by kernel_rfl) rfl rfl rfl rfl (by decide) ?_
             replace h4345 := getB_some h4345; obtain ⟨b3441, h3440, h4345⟩ := h4345
             refine W_sound tab_ok mixed 5 _ _ _ ?_
             simp -implicitDefEqProofs only [go_sem, Nat.reduceBEq, Nat.reduceLT, h3440]
             repeat with_reducible refine And.intro (by first | kernel_rfl | decide) ?_
             obtain rfl := Option.some.inj h4345
             (try dsimp only at h4342)
             obtain rfl := Option.some.inj h4342
             (try dsimp only at h4339)
             obtain rfl := Option.some.inj h4339
             exact finC [(6, .v (.bool b3441))] [(6, .v (.bool b3441))] (by simp [leE, lk_cons]) (.cons _ _ _ _ _ (.v _ _ (.refl _)) .nil) (by rfl) (by simp [leE, lk_cons]) (by decide) (by decide) rfl (by simp only [go_sem, Nat.reduceBEq, resQ_tmp, resQ_nil, retD_one]; try simp [R.val, retD_one, retD_two, retD_three, retD_none])
            ·refine W_sound tab_ok mixed 28 _ _ _ ?_
             simp -implicitDefEqProofs only [go_sem, Nat.reduceBEq, Nat.reduceLT, Int.reduceLE, Int.reduceToNat, ↓reduceIte, h3427, h3430, h3433, h3435, h3436, h3437]
             repeat with_reducible refine And.intro (by first | kernel_rfl | decide) ?_
             obtain rfl := Option.some.inj h4345
             (try dsimp only at h4342)
             obtain rfl := Option.some.inj h4342
             (try dsimp only at h4339)
             obtain rfl := Option.some.inj h4339
             exact finC [(6, .v (.bool false))] [(6, .v (.bool false))] (by simp [leE, lk_cons]) (.cons _ _ _ _ _ (.v _ _ (.refl _)) .nil) (by rfl) (by simp [leE, lk_cons]) (by decide) (by decide) rfl (by simp only [go_sem, Nat.reduceBEq, resQ_tmp, resQ_nil, retD_one]; try simp [R.val, retD_one, retD_two, retD_three, retD_none])
           ·refine W_sound tab_ok mixed 28 _ _ _ ?_
            simp -implicitDefEqProofs only [go_sem, Nat.reduceBEq, Nat.reduceLT, Int.reduceLE, Int.reduceToNat, ↓reduceIte, h3427, h3430, h3433, h3435, h3436]
            repeat with_reducible refine And.intro (by first | kernel_rfl | decide) ?_
            obtain rfl := Option.some.inj h4345
            (try dsimp only at h4342)
            obtain rfl := Option.some.inj h4342
            (try dsimp only at h4339)
            obtain rfl := Option.some.inj h4339
            exact finC [(6, .v (.bool false))] [(6, .v (.bool false))] (by simp [leE, lk_cons]) (.cons _ _ _ _ _ (.v _ _ (.refl _)) .nil) (by rfl) (by simp [leE, lk_cons]) (by decide) (by decide) rfl (by simp only [go_sem, Nat.reduceBEq, resQ_tmp, resQ_nil, retD_one]; try simp [R.val, retD_one, retD_two, retD_three, retD_none])
          ·refine W_sound tab_ok mixed 28 _ _ _ ?_
           simp -implicitDefEqProofs only [go_sem, Nat.reduceBEq, Nat.reduceLT, Int.reduceLE, Int.reduceToNat, ↓reduceIte, h3427, h3430, h3433, h3435]
           repeat with_reducible refine And.intro (by first | kernel_rfl | decide) ?_
           obtain rfl := Option.some.inj h4345
           (try dsimp only at h4342)
           obtain rfl := Option.some.inj h4342
           (try dsimp only at h4339)
           obtain rfl := Option.some.inj h4339
           exact finC [(6, .v (.bool false))] [(6, .v (.bool false))] (by simp [leE, lk_cons]) (.cons _ _ _ _ _ (.v _ _ (.refl _)) .nil) (by rfl) (by simp [leE, lk_cons]) (by decide) (by decide) rfl (by simp only [go_sem, Nat.reduceBEq, resQ_tmp, resQ_nil, retD_one]; try simp [R.val, retD_one, retD_two, retD_three, retD_none])
         ·replace h4345 := brn_some h4345; rcases h4345 with ⟨h3442, h4345⟩ | ⟨h3442, h4345⟩
          ·replace h4345 := bnd'_some h4345; obtain ⟨p3443, h3444, h4345⟩ := h4345
           refine W_sound tab_ok mixed 13 _ _ _ ?_
           simp -implicitDefEqProofs only [go_sem, Nat.reduceBEq, Nat.reduceLT, ↓reduceIte, h3413, h3415, h3442]
           repeat with_reducible refine And.intro (by first | kernel_rfl | decide) ?_
           refine Wp_callP (c45 N _ _ _ h3444) (by kernel_rfl) rfl rfl rfl rfl (by decide) ?_
           replace h4345 := getT2_some h4345; obtain ⟨p3446, p3447, h3445, h4345⟩ := h4345
           replace h4345 := getI_some h4345; obtain ⟨x3449, h3448, h4345⟩ := h4345
           replace h4345 := getI_some h4345; obtain ⟨x3451, h3450, h4345⟩ := h4345
           replace h4345 := bnd'_some h4345; obtain ⟨p3452, h3453, h4345⟩ := h4345
           refine W_sound tab_ok mixed 10 _ _ _ ?_
           simp -implicitDefEqProofs only [go_sem, Nat.reduceBEq, Nat.reduceLT, h3445, h3448, h3450]
           repeat with_reducible refine And.intro (by first | kernel_rfl | decide) ?_
           refine Wp_callP (c47 N _ _ _ h3453) (by kernel_rfl) rfl rfl rfl rfl (by decide) ?_
           replace h4345 := getT2_some h4345; obtain ⟨p3455, p3456, h3454, h4345⟩ := h4345
           replace h4345 := getL_some h4345; obtain ⟨n3458, c3459, h3457, h4345⟩ := h4345
           replace h4345 := getI_some h4345; obtain ⟨x3461, h3460, h4345⟩ := h4345
           replace h4345 := brn_some h4345; rcases h4345 with ⟨h3462, h4345⟩ | ⟨h3462, h4345⟩
           ·replace h4345 := brn_some h4345; rcases h4345 with ⟨h3463, h4345⟩ | ⟨h3463, h4345⟩
            ·replace h4345 := brn_some h4345; rcases h4345 with ⟨h3464, h4345⟩ | ⟨h3464, h4345⟩
             ·replace h4345 := bnd'_some h4345; obtain ⟨p3465, h3466, h4345⟩ := h4345
              refine W_sound tab_ok mixed 22 _ _ _ ?_
              simp -implicitDefEqProofs only [go_sem, Nat.reduceBEq, Nat.reduceLT, ↓reduceIte, h3454, h3457, h3460, h3462, h3463, h3464]
              repeat with_reducible refine And.intro (by first | kernel_rfl | decide) ?_
              refine Wp_callP (c16 N  _ h3466) (by kernel_rfl) rfl rfl rfl rfl (by decide) ?_
              replace h4345 := getB_some h4345; obtain ⟨b3468, h3467, h4345⟩ := h4345
              refine W_sound tab_ok mixed 5 _ _ _ ?_
              simp -implicitDefEqProofs only [go_sem, Nat.reduceBEq, Nat.reduceLT, h3467]
              repeat with_reducible refine And.intro (by first | kernel_rfl | decide) ?_
              obtain rfl := Option.some.inj h4345
              (try dsimp only at h4342)
              obtain rfl := Option.some.inj h4342
              (try dsimp only at h4339)
              obtain rfl := Option.some.inj h4339
              exact finC [(6, .v (.bool b3468))] [(6, .v (.bool b3468))] (by simp [leE, lk_cons]) (.cons _ _ _ _ _ (.v _ _ (.refl _)) .nil) (by rfl) (by simp [leE, lk_cons]) (by decide) (by decide) rfl (by simp only [go_sem, Nat.reduceBEq, resQ_tmp, resQ_nil, retD_one]; try simp [R.val, retD_one, retD_two, retD_three, retD_none])
             ·refine W_sound tab_ok mixed 28 _ _ _ ?_
              simp -implicitDefEqProofs only [go_sem, Nat.reduceBEq, Nat.reduceLT, ↓reduceIte, h3454, h3457, h3460, h3462, h3463, h3464]
              repeat with_reducible refine And.intro (by first | kernel_rfl | decide) ?_
              obtain rfl := Option.some.inj h4345
              (try dsimp only at h4342)
              obtain rfl := Option.some.inj h4342
              (try dsimp only at h4339)
              obtain rfl := Option.some.inj h4339
              exact finC [(6, .v (.bool false))] [(6, .v (.bool false))] (by simp [leE, lk_cons]) (.cons _ _ _ _ _ (.v _ _ (.refl _)) .nil) (by rfl) (by simp [leE, lk_cons]) (by decide) (by decide) rfl (by simp only [go_sem, Nat.reduceBEq, resQ_tmp, resQ_nil, retD_one]; try simp [R.val, retD_one, retD_two, retD_three, retD_none])
            ·refine W_sound tab_ok mixed 28 _ _ _ ?_
             simp -implicitDefEqProofs only [go_sem, Nat.reduceBEq, Nat.reduceLT, ↓reduceIte, h3454, h3457, h3460, h3462, h3463]
             repeat with_reducible refine And.intro (by first | kernel_rfl | decide) ?_
             obtain rfl := Option.some.inj h4345
             (try dsimp only at h4342)
             obtain rfl := Option.some.inj h4342
             (try dsimp only at h4339)
             obtain rfl := Option.some.inj h4339
             exact finC [(6, .v (.bool false))] [(6, .v (.bool false))] (by simp [leE, lk_cons]) (.cons _ _ _ _ _ (.v _ _ (.refl _)) .nil) (by rfl) (by simp [leE, lk_cons]) (by decide) (by decide) rfl (by simp only [go_sem, Nat.reduceBEq, resQ_tmp, resQ_nil, retD_one]; try simp [R.val, retD_one, retD_two, retD_three, retD_none])
           ·refine W_sound tab_ok mixed 28 _ _ _ ?_
            simp -implicitDefEqProofs only [go_sem, Nat.reduceBEq, Nat.reduceLT, ↓reduceIte, h3454, h3457, h3460, h3462]
            repeat with_reducible refine And.intro (by first | kernel_rfl | decide) ?_
            obtain rfl := Option.some.inj h4345
            (try dsimp only at h4342)
            obtain rfl := Option.some.inj h4342
            (try dsimp only at h4339)
            obtain rfl := Option.some.inj h4339
            exact finC [(6, .v (.bool false))] [(6, .v (.bool false))] (by simp [leE, lk_cons]) (.cons _ _ _ _ _ (.v _ _ (.refl _)) .nil) (by rfl) (by simp [leE, lk_cons]) (by decide) (by decide) rfl (by simp only [go_sem, Nat.reduceBEq, resQ_tmp, resQ_nil, retD_one]; try simp [R.val, retD_one, retD_two, retD_three, retD_none])
          ·refine W_sound tab_ok mixed 15 _ _ _ ?_
           simp -implicitDefEqProofs only [go_sem, Nat.reduceBEq, Nat.reduceLT, Int.reduceLE, Int.reduceToNat, ↓reduceIte, h3413, h3415, h3442]
           repeat with_reducible refine And.intro (by first | kernel_rfl | decide) ?_
           refine cutQ _ ?_ ⟨n, Nat.lt_succ_self n, _, h4345, rfl⟩
           exact Wk_keep [7, 9, 10, 14, 15, 16, 95, 96, 97, 102, 103, 104] (by kernel_rfl)
       ·refine W_sound tab_ok mixed 7 _ _ _ ?_
        simp -implicitDefEqProofs only [go_sem, Nat.reduceBEq, Nat.reduceLT, ↓reduceIte, h3385]
        repeat with_reducible refine And.intro (by first | kernel_rfl | decide) ?_
        obtain rfl := Option.some.inj h4341
        refine cutQ _ ?_ ⟨rfl, rfl⟩
        exact Wk_keep [7, 9, 10, 14, 95, 96, 97] (by kernel_rfl)
     ·rintro _ ⟨rfl, rfl⟩
      (try dsimp only at h4342)
      refine W_sound tab_ok mixed 5 _ _ _ ?_
      simp -implicitDefEqProofs only [go_sem, Nat.reduceBEq, Nat.reduceLT, Int.reduceLE, Int.reduceToNat, ↓reduceIte]
      repeat with_reducible refine And.intro (by first | kernel_rfl | decide) ?_
      refine cutQ _ ?_ ⟨n, Nat.lt_succ_self n, _, h4342, rfl⟩
      exact Wk_keep [7, 9, 10, 14, 95, 96, 97] (by kernel_rfl)
    ·refine W_sound tab_ok mixed 7 _ _ _ ?_
     simp -implicitDefEqProofs only [go_sem, Nat.reduceBEq, Nat.reduceLT, ↓reduceIte, h3377]
     repeat with_reducible refine And.intro (by first | kernel_rfl | decide) ?_
     obtain rfl := Option.some.inj h4338
     refine cutQ _ ?_ ⟨rfl, rfl⟩
     exact Wk_keep [7, 9, 10, 14] (by kernel_rfl)
  ·rintro _ ⟨rfl, rfl⟩
   (try dsimp only at h4339)
   refine W_sound tab_ok mixed 11 _ _ _ ?_
   simp -implicitDefEqProofs only [go_sem, Nat.reduceBEq, Nat.reduceLT, Int.reduceLE, Int.reduceToNat, ↓reduceIte]
   repeat with_reducible refine And.intro (by first | kernel_rfl | decide) ?_
   replace h4339 := bnd'_some h4339; obtain ⟨o4346, h4347, h4348⟩ := h4339
   refine Wp_cut (fun s => ∃ x3531, (.inr x3531) = o4346 ∧ s = ⟨[], [(0, .dead), (1, .dead), (2, .dead), (3, .dead), (5, .dead), (6, .dead), (7, .v (.ipt [(.int .i64 x3110)])), (8, .dead), (9, .v (.ipt [(.int .i64 (Int.tmod (IntKind.i64.wrap x3091) (IntKind.i64.wrap (x3110 + 1))))])), (10, .v (.ipt [(.lst false n3359 c3360)])), (12, .dead), (13, .dead), (14, .v (.int .i64 x3375)), (15, .dead), (16, .dead), (17, .dead), (18, .dead), (19, .dead), (21, .dead), (23, .dead), (25, .dead), (26, .v (.int .i64 x3531)), (27, .dead), (28, .dead), (30, .dead), (31, .dead), (32, .dead), (33, .dead), (34, .dead), (35, .dead), (36, .dead), (37, .dead), (38, .dead), (49, .dead), (50, .dead), (51, .dead), (52, .dead), (69, .dead), (95, .dead), (96, .dead), (97, .dead), (98, .dead), (102, .dead), (103, .dead), (104, .dead), (105, .dead), (111, .dead), (112, .dead), (113, .dead), (114, .dead), (122, .dead), (128, .dead), (130, .dead), (164, .dead), (167, .dead), (168, .dead), (169, .dead), (170, .dead), (175, .dead), (191, .dead), (198, .dead), (221, .dead), (223, .dead)], [], 0, []⟩) ?_ ?_
   ·refine Wp_block ?_
    refine Wp_loopG (fun n s => ∃ x3471, ∃ x3472, m14_L4 N x3091 x3110 n3359 c3360 x3375 n x3471 x3472 = some o4346 ∧ s = ⟨[], [(0, .dead), (1, .dead), (2, .dead), (3, .dead), (5, .dead), (6, .dead), (7, .v (.ipt [(.int .i64 x3110)])), (8, .dead), (9, .v (.ipt [(.int .i64 (Int.tmod (IntKind.i64.wrap x3091) (IntKind.i64.wrap (x3110 + 1))))])), (10, .v (.ipt [(.lst false n3359 c3360)])), (12, .dead), (13, .dead), (14, .v (.int .i64 x3375)), (15, .dead), (16, .dead), (17, .dead), (18, .dead), (19, .dead), (21, .dead), (23, .dead), (25, .dead), (26, .v (.int .i64 x3471)), (27, .v (.int .i64 x3472)), (28, .dead), (30, .dead), (31, .dead), (32, .dead), (33, .dead), (34, .dead), (35, .dead), (36, .dead), (37, .dead), (38, .dead), (49, .dead), (50, .dead), (51, .dead), (52, .dead), (69, .dead), (95, .dead), (96, .dead), (97, .dead), (98, .dead), (102, .dead), (103, .dead), (104, .dead), (105, .dead), (111, .dead), (112, .dead), (113, .dead), (114, .dead), (122, .dead), (128, .dead), (130, .dead), (164, .dead), (167, .dead), (168, .dead), (169, .dead), (170, .dead), (175, .dead), (191, .dead), (198, .dead), (221, .dead), (223, .dead)], [], 0, []⟩) N _ ?_ ⟨_, _, h4347, rfl⟩ ?_
    ·exact Wk_keep [7, 9, 10, 14, 26, 27] (by kernel_rfl)
    clear h4347
    rintro n _ ⟨x3471, x3472, h4347, rfl⟩
    cases n with
    | zero => cases h4347
    | succ n =>
     rw [m14_L4] at h4347
     replace h4347 := brn_some h4347; rcases h4347 with ⟨h3473, h4347⟩ | ⟨h3473, h4347⟩
     ·refine W_sound tab_ok mixed 21 _ _ _ ?_
      simp -implicitDefEqProofs only [go_sem, Nat.reduceBEq, Nat.reduceLT, ↓reduceIte, h3473]
      repeat with_reducible refine And.intro (by first | kernel_rfl | decide) ?_
      replace h4347 := bnd'_some h4347; obtain ⟨o4349, h4350, h4351⟩ := h4347
      refine Wp_cut (fun s => ∃ x3488, x3488 = o4349 ∧ s = ⟨[], [(0, .dead), (1, .dead), (2, .dead), (3, .dead), (5, .dead), (6, .dead), (7, .v (.ipt [(.int .i64 x3110)])), (8, .dead), (9, .v (.ipt [(.int .i64 (Int.tmod (IntKind.i64.wrap x3091) (IntKind.i64.wrap (x3110 + 1))))])), (10, .v (.ipt [(.lst false n3359 c3360)])), (12, .dead), (13, .dead), (14, .v (.int .i64 x3375)), (15, .dead), (16, .dead), (17, .dead), (18, .dead), (19, .dead), (21, .dead), (23, .dead), (25, .dead), (26, .v (.int .i64 x3471)), (27, .v (.int .i64 x3472)), (28, .v (.int .i64 x3488)), (30, .dead), (31, .dead), (32, .dead), (33, .dead), (34, .dead), (35, .dead), (36, .dead), (37, .dead), (38, .dead), (49, .dead), (50, .dead), (51, .dead), (52, .dead), (69, .dead), (95, .dead), (96, .dead), (97, .dead), (98, .dead), (102, .dead), (103, .dead), (104, .dead), (105, .dead), (111, .dead), (112, .dead), (113, .dead), (114, .dead), (122, .dead), (128, .dead), (130, .dead), (164, .dead), (167, .dead), (168, .dead), (169, .dead), (170, .dead), (175, .dead), (191, .dead), (198, .dead), (221, .dead), (223, .dead)], [], 0, []⟩) ?_ ?_
      ·refine Wp_block ?_
       refine Wp_loopG (fun n s => ∃ x3474, ∃ x3475, m14_L5 N x3091 x3110 n3359 c3360 x3375 x3471 x3472 n x3474 x3475 = some o4349 ∧ s = ⟨[], [(0, .dead), (1, .dead), (2, .dead), (3, .dead), (5, .dead), (6, .dead), (7, .v (.ipt [(.int .i64 x3110)])), (8, .dead), (9, .v (.ipt [(.int .i64 (Int.tmod (IntKind.i64.wrap x3091) (IntKind.i64.wrap (x3110 + 1))))])), (10, .v (.ipt [(.lst false n3359 c3360)])), (12, .dead), (13, .dead), (14, .v (.int .i64 x3375)), (15, .dead), (16, .dead), (17, .dead), (18, .dead), (19, .dead), (21, .dead), (23, .dead), (25, .dead), (26, .v (.int .i64 x3471)), (27, .v (.int .i64 x3472)), (28, .v (.int .i64 x3474)), (30, .dead), (31, .dead), (32, .dead), (33, .dead), (34, .dead), (35, .dead), (36, .dead), (37, .dead), (38, .dead), (49, .dead), (50, .dead), (51, .dead), (52, .dead), (69, .dead), (95, .dead), (96, .dead), (97, .dead), (98, .dead), (102, .dead), (103, .dead), (104, .dead), (105, .dead), (111, .dead), (112, .dead), (113, .dead), (114, .dead), (122, .dead), (128, .dead), (130, .dead), (164, .dead), (167, .v (.lst false n3359 c3360)), (168, .v (.int .i64 ((n3359 : Nat) : Int))), (169, .v (.int .i64 x3475)), (170, .dead), (175, .dead), (191, .dead), (198, .dead), (221, .dead), (223, .dead)], [], 0, []⟩) N _ ?_ ⟨_, _, h4350, rfl⟩ ?_
       ·exact Wk_keep [7, 9, 10, 14, 26, 27, 28, 167, 168, 169] (by kernel_rfl)
       clear h4350
       rintro n _ ⟨x3474, x3475, h4350, rfl⟩
       cases n with
       | zero => cases h4350
       | succ n =>
        rw [m14_L5] at h4350
        replace h4350 := brn_some h4350; rcases h4350 with ⟨h3476, h4350⟩ | ⟨h3476, h4350⟩
        ·replace h4350 := grd_some h4350; obtain ⟨⟨g3477, g3478⟩, h4350⟩ := h4350
         replace h4350 := grd_some h4350; obtain ⟨g3479, h4350⟩ := h4350
         replace h4350 := getL_some h4350; obtain ⟨n3481, c3482, h3480, h4350⟩ := h4350
         replace h4350 := bnd'_some h4350; obtain ⟨p3483, h3484, h4350⟩ := h4350
         refine W_sound tab_ok mixed 19 _ _ _ ?_
         simp -implicitDefEqProofs only [go_sem, Nat.reduceBEq, Nat.reduceLT, ↓reduceIte, g3477, g3478, g3479, h3480]
         repeat with_reducible refine And.intro (by first | kernel_rfl | decide) ?_
         refine Wp_callP (c57 N _ _ _ h3484) (by kernel_rfl) rfl rfl rfl rfl (by decide) ?_
         replace h4350 := getB_some h4350; obtain ⟨b3486, h3485, h4350⟩ := h4350
         replace h4350 := brn_some h4350; rcases h4350 with ⟨h3487, h4350⟩ | ⟨h3487, h4350⟩
         ·refine W_sound tab_ok mixed 12 _ _ _ ?_
          simp -implicitDefEqProofs only [go_sem, Nat.reduceBEq, Nat.reduceLT, Int.reduceLE, Int.reduceToNat, ↓reduceIte, h3485, h3487]
          repeat with_reducible refine And.intro (by first | kernel_rfl | decide) ?_
          refine cutQ _ ?_ ⟨n, Nat.lt_succ_self n, _, _, h4350, rfl⟩
          exact Wk_keep [7, 9, 10, 14, 26, 27, 28, 167, 168, 169] (by kernel_rfl)
         ·refine W_sound tab_ok mixed 8 _ _ _ ?_
          simp -implicitDefEqProofs only [go_sem, Nat.reduceBEq, Nat.reduceLT, Int.reduceLE, Int.reduceToNat, ↓reduceIte, h3485, h3487]
          repeat with_reducible refine And.intro (by first | kernel_rfl | decide) ?_
          refine cutQ _ ?_ ⟨n, Nat.lt_succ_self n, _, _, h4350, rfl⟩
          exact Wk_keep [7, 9, 10, 14, 26, 27, 28, 167, 168, 169] (by kernel_rfl)
        ·refine W_sound tab_ok mixed 7 _ _ _ ?_
         simp -implicitDefEqProofs only [go_sem, Nat.reduceBEq, Nat.reduceLT, ↓reduceIte, h3476]
         repeat with_reducible refine And.intro (by first | kernel_rfl | decide) ?_
         obtain rfl := Option.some.inj h4350
         refine cutQ _ ?_ ⟨_, rfl, rfl⟩
         exact Wk_keep [7, 9, 10, 14, 26, 27, 28] (by kernel_rfl)
      ·rintro _ ⟨x3488, rfl, rfl⟩
       replace h4351 := brn_some h4351; rcases h4351 with ⟨h3489, h4351⟩ | ⟨h3489, h4351⟩
       ·replace h4351 := brn_some h4351; rcases h4351 with ⟨h3490, h4351⟩ | ⟨h3490, h4351⟩
        ·replace h4351 := bnd'_some h4351; obtain ⟨p3515, h3516, h4351⟩ := h4351
         refine W_sound tab_ok mixed 32 _ _ _ ?_
         simp -implicitDefEqProofs only [go_sem, Nat.reduceBEq, Nat.reduceLT, ↓reduceIte, h3489, h3490]
         repeat with_reducible refine And.intro (by first | kernel_rfl | decide) ?_
         refine Wp_callP (c51 N _ _ _ _ h3516) (by kernel_rfl) rfl rfl rfl rfl (by decide) ?_
         replace h4351 := getI_some h4351; obtain ⟨x3518, h3517, h4351⟩ := h4351
         replace h4351 := brn_some h4351; rcases h4351 with ⟨h3519, h4351⟩ | ⟨h3519, h4351⟩
         ·refine W_sound tab_ok mixed 10 _ _ _ ?_
          simp -implicitDefEqProofs only [go_sem, Nat.reduceBEq, Nat.reduceLT, ↓reduceIte, h3517, h3519]
          repeat with_reducible refine And.intro (by first | kernel_rfl | decide) ?_
          obtain rfl := Option.some.inj h4351
          (try dsimp only at h4348)
          obtain rfl := Option.some.inj h4348
          exact finC [(6, .v (.bool false))] [(6, .v (.bool false))] (by simp [leE, lk_cons]) (.cons _ _ _ _ _ (.v _ _ (.refl _)) .nil) (by rfl) (by simp [leE, lk_cons]) (by decide) (by decide) rfl (by simp only [go_sem, Nat.reduceBEq, resQ_tmp, resQ_nil, retD_one]; try simp [R.val, retD_one, retD_two, retD_three, retD_none])
         ·refine W_sound tab_ok mixed 11 _ _ _ ?_
          simp -implicitDefEqProofs only [go_sem, Nat.reduceBEq, Nat.reduceLT, Int.reduceLE, Int.reduceToNat, ↓reduceIte, h3517, h3519]
          repeat with_reducible refine And.intro (by first | kernel_rfl | decide) ?_
          refine cutQ _ ?_ ⟨n, Nat.lt_succ_self n, _, _, h4351, rfl⟩
          exact Wk_keep [7, 9, 10, 14, 26, 27] (by kernel_rfl)
        ·replace h4351 := bnd'_some h4351; obtain ⟨p3520, h3521, h4351⟩ := h4351
         refine W_sound tab_ok mixed 28 _ _ _ ?_
         simp -implicitDefEqProofs only [go_sem, Nat.reduceBEq, Nat.reduceLT, ↓reduceIte, h3489, h3490]
         repeat with_reducible refine And.intro (by first | kernel_rfl | decide) ?_
         refine Wp_callP (c51 N _ _ _ _ h3521) (by kernel_rfl) rfl rfl rfl rfl (by decide) ?_
         replace h4351 := getI_some h4351; obtain ⟨x3523, h3522, h4351⟩ := h4351
         replace h4351 := brn_some h4351; rcases h4351 with ⟨h3524, h4351⟩ | ⟨h3524, h4351⟩
         ·refine W_sound tab_ok mixed 10 _ _ _ ?_
          simp -implicitDefEqProofs only [go_sem, Nat.reduceBEq, Nat.reduceLT, Int.reduceLE, Int.reduceToNat, ↓reduceIte, h3522, h3524]
          repeat with_reducible refine And.intro (by first | kernel_rfl | decide) ?_
          obtain rfl := Option.some.inj h4351
          (try dsimp only at h4348)
          obtain rfl := Option.some.inj h4348
          exact finC [(6, .v (.bool false))] [(6, .v (.bool false))] (by simp [leE, lk_cons]) (.cons _ _ _ _ _ (.v _ _ (.refl _)) .nil) (by rfl) (by simp [leE, lk_cons]) (by decide) (by decide) rfl (by simp only [go_sem, Nat.reduceBEq, resQ_tmp, resQ_nil, retD_one]; try simp [R.val, retD_one, retD_two, retD_three, retD_none])
         ·refine W_sound tab_ok mixed 11 _ _ _ ?_
          simp -implicitDefEqProofs only [go_sem, Nat.reduceBEq, Nat.reduceLT, Int.reduceLE, Int.reduceToNat, ↓reduceIte, h3522, h3524]
          repeat with_reducible refine And.intro (by first | kernel_rfl | decide) ?_
          refine cutQ _ ?_ ⟨n, Nat.lt_succ_self n, _, _, h4351, rfl⟩
          exact Wk_keep [7, 9, 10, 14, 26, 27] (by kernel_rfl)
       ·replace h4351 := bnd'_some h4351; obtain ⟨p3525, h3526, h4351⟩ := h4351
        refine W_sound tab_ok mixed 28 _ _ _ ?_
        simp -implicitDefEqProofs only [go_sem, Nat.reduceBEq, Nat.reduceLT, ↓reduceIte, h3489]
        repeat with_reducible refine And.intro (by first | kernel_rfl | decide) ?_
        refine Wp_callP (c51 N _ _ _ _ h3526) (by kernel_rfl) rfl rfl rfl rfl (by decide) ?_
        replace h4351 := getI_some h4351; obtain ⟨x3528, h3527, h4351⟩ := h4351
        replace h4351 := brn_some h4351; rcases h4351 with ⟨h3529, h4351⟩ | ⟨h3529, h4351⟩
        ·refine W_sound tab_ok mixed 10 _ _ _ ?_
         simp -implicitDefEqProofs only [go_sem, Nat.reduceBEq, Nat.reduceLT, Int.reduceLE, Int.reduceToNat, ↓reduceIte, h3527, h3529]
         repeat with_reducible refine And.intro (by first | kernel_rfl | decide) ?_
         obtain rfl := Option.some.inj h4351
         (try dsimp only at h4348)
         obtain rfl := Option.some.inj h4348
         exact finC [(6, .v (.bool false))] [(6, .v (.bool false))] (by simp [leE, lk_cons]) (.cons _ _ _ _ _ (.v _ _ (.refl _)) .nil) (by rfl) (by simp [leE, lk_cons]) (by decide) (by decide) rfl (by simp only [go_sem, Nat.reduceBEq, resQ_tmp, resQ_nil, retD_one]; try simp [R.val, retD_one, retD_two, retD_three, retD_none])
        ·refine W_sound tab_ok mixed 11 _ _ _ ?_
         simp -implicitDefEqProofs only [go_sem, Nat.reduceBEq, Nat.reduceLT, Int.reduceLE, Int.reduceToNat, ↓reduceIte, h3527, h3529]
         repeat with_reducible refine And.intro (by first | kernel_rfl | decide) ?_
         refine cutQ _ ?_ ⟨n, Nat.lt_succ_self n, _, _, h4351, rfl⟩
         exact Wk_keep [7, 9, 10, 14, 26, 27] (by kernel_rfl)
     ·refine W_sound tab_ok mixed 8 _ _ _ ?_
      simp -implicitDefEqProofs only [go_sem, Nat.reduceBEq, Nat.reduceLT, ↓reduceIte, h3473]
      repeat with_reducible refine And.intro (by first | kernel_rfl | decide) ?_
      obtain rfl := Option.some.inj h4347
      refine cutQ _ ?_ ⟨_, rfl, rfl⟩
      exact Wk_keep [7, 9, 10, 14, 26] (by kernel_rfl)
   ·rintro _ ⟨x3531, rfl, rfl⟩
    (try dsimp only at h4348)
    replace h4348 := bnd'_some h4348; obtain ⟨⟨p4276, p4278⟩, h4277, h4348⟩ := h4348
    (try dsimp only at h4348)
    refine W_sound tab_ok mixed 16 _ _ _ ?_
    simp -implicitDefEqProofs only [go_sem, Nat.reduceBEq, Nat.reduceAdd, Nat.reduceLT, Nat.reduceLeDiff]
    repeat with_reducible refine And.intro (by first | kernel_rfl | decide) ?_
    refine Wp_callD [32, 66] (c58 N _ _ _ _ _ _ _ _ h4277) rfl rfl rfl (by first | rfl | (simp only [go_sem, Nat.reduceBEq, Nat.reduceAdd, Nat.reduceSub, Nat.reduceMul, Nat.reduceLT, Nat.reduceLeDiff, Int.reduceLE, Int.reduceLT, Int.reduceToNat, Int.reduceBEq, Int.reduceBNe, ↓reduceIte, Int.reduceAdd, Int.reduceSub, Int.reduceGT, Int.reduceGE, h3093, h3101, h3106, h3109, h3111, g3114, h3358, h3374] <;> rfl)) rfl (by kernel_rfl) ?_
    replace h4348 := getB_some h4348; obtain ⟨b4280, h4279, h4348⟩ := h4348
    replace h4348 := bnd'_some h4348; obtain ⟨p4281, h4282, h4348⟩ := h4348
    refine W_sound tab_ok mixed 6 _ _ _ ?_
    simp -implicitDefEqProofs only [go_sem, Nat.reduceBEq, Nat.reduceAdd, Nat.reduceSub, Nat.reduceMul, Nat.reduceLT, h4279]
    repeat with_reducible refine And.intro (by first | kernel_rfl | decide) ?_
    refine Wp_callP (c45 N _ _ _ h4282) (by kernel_rfl) rfl rfl rfl rfl (by decide) ?_
    replace h4348 := getT2_some h4348; obtain ⟨p4284, p4285, h4283, h4348⟩ := h4348
    replace h4348 := getI_some h4348; obtain ⟨x4287, h4286, h4348⟩ := h4348
    replace h4348 := getI_some h4348; obtain ⟨x4289, h4288, h4348⟩ := h4348
    replace h4348 := bnd'_some h4348; obtain ⟨p4290, h4291, h4348⟩ := h4348
    refine W_sound tab_ok mixed 10 _ _ _ ?_
    simp -implicitDefEqProofs only [go_sem, Nat.reduceBEq, Nat.reduceLT, h4283, h4286, h4288]
    repeat with_reducible refine And.intro (by first | kernel_rfl | decide) ?_
    refine Wp_callP (c47 N _ _ _ h4291) (by kernel_rfl) rfl rfl rfl rfl (by decide) ?_
    replace h4348 := getT2_some h4348; obtain ⟨p4293, p4294, h4292, h4348⟩ := h4348
    replace h4348 := getL_some h4348; obtain ⟨n4296, c4297, h4295, h4348⟩ := h4348
    replace h4348 := getI_some h4348; obtain ⟨x4299, h4298, h4348⟩ := h4348
    replace h4348 := brn_some h4348; rcases h4348 with ⟨h4300, h4348⟩ | ⟨h4300, h4348⟩
    ·refine W_sound tab_ok mixed 25 _ _ _ ?_
     simp -implicitDefEqProofs only [go_sem, Nat.reduceBEq, Nat.reduceLT, ↓reduceIte, h4292, h4295, h4298, h4300]
     repeat with_reducible refine And.intro (by first | kernel_rfl | decide) ?_
     obtain rfl := Option.some.inj h4348
     exact finC [(6, .v (.bool false))] [(6, .v (.bool false))] (by simp [leE, lk_cons]) (.cons _ _ _ _ _ (.v _ _ (.refl _)) .nil) (by rfl) (by simp [leE, lk_cons]) (by decide) (by decide) rfl (by simp only [go_sem, Nat.reduceBEq, resQ_tmp, resQ_nil, retD_one]; try simp [R.val, retD_one, retD_two, retD_three, retD_none])
    ·replace h4348 := brn_some h4348; rcases h4348 with ⟨h4301, h4348⟩ | ⟨h4301, h4348⟩
     ·refine W_sound tab_ok mixed 25 _ _ _ ?_
      simp -implicitDefEqProofs only [go_sem, Nat.reduceBEq, Nat.reduceLT, ↓reduceIte, h4292, h4295, h4298, h4300, h4301]
      repeat with_reducible refine And.intro (by first | kernel_rfl | decide) ?_
      obtain rfl := Option.some.inj h4348
      exact finC [(6, .v (.bool false))] [(6, .v (.bool false))] (by simp [leE, lk_cons]) (.cons _ _ _ _ _ (.v _ _ (.refl _)) .nil) (by rfl) (by simp [leE, lk_cons]) (by decide) (by decide) rfl (by simp only [go_sem, Nat.reduceBEq, resQ_tmp, resQ_nil, retD_one]; try simp [R.val, retD_one, retD_two, retD_three, retD_none])
     ·replace h4348 := brn_some h4348; rcases h4348 with ⟨rfl, h4348⟩ | ⟨rfl, h4348⟩
      ·replace h4348 := brn_some h4348; rcases h4348 with ⟨h4303, h4348⟩ | ⟨h4303, h4348⟩
       ·replace h4348 := brn_some h4348; rcases h4348 with ⟨h4304, h4348⟩ | ⟨h4304, h4348⟩
        ·replace h4348 := bnd'_some h4348; obtain ⟨p4305, h4306, h4348⟩ := h4348
         refine W_sound tab_ok mixed 39 _ _ _ ?_
         simp -implicitDefEqProofs only [go_sem, Nat.reduceBEq, Nat.reduceLT, Int.reduceLE, Int.reduceToNat, ↓reduceIte, h4292, h4295, h4298, h4300, h4301, h4303, h4304]
         repeat with_reducible refine And.intro (by first | kernel_rfl | decide) ?_
         refine Wp_callP (c40 N _ _ _ h4306) (by kernel_rfl) rfl rfl rfl rfl (by decide) ?_
         replace h4348 := getB_some h4348; obtain ⟨b4308, h4307, h4348⟩ := h4348
         replace h4348 := brn_some h4348; rcases h4348 with ⟨h4309, h4348⟩ | ⟨h4309, h4348⟩
         ·replace h4348 := brn_some h4348; rcases h4348 with ⟨h4310, h4348⟩ | ⟨h4310, h4348⟩
          ·replace h4348 := grd_some h4348; obtain ⟨⟨g4311, g4312⟩, h4348⟩ := h4348
           replace h4348 := grd_some h4348; obtain ⟨g4313, h4348⟩ := h4348
           replace h4348 := getL_some h4348; obtain ⟨n4315, c4316, h4314, h4348⟩ := h4348
           replace h4348 := bnd'_some h4348; obtain ⟨p4317, h4318, h4348⟩ := h4348
           refine W_sound tab_ok mixed 13 _ _ _ ?_
           simp -implicitDefEqProofs only [go_sem, Nat.reduceBEq, Nat.reduceLT, ↓reduceIte, h4307, h4309, h4310, g4311, g4312, g4313, h4314]
           repeat with_reducible refine And.intro (by first | kernel_rfl | decide) ?_
           refine Wp_callP (c21 N _ _ _ h4318) (by kernel_rfl) rfl rfl rfl rfl (by decide) ?_
           replace h4348 := getB_some h4348; obtain ⟨b4320, h4319, h4348⟩ := h4348
           replace h4348 := brn_some h4348; rcases h4348 with ⟨h4321, h4348⟩ | ⟨h4321, h4348⟩
           ·replace h4348 := bnd'_some h4348; obtain ⟨p4322, h4323, h4348⟩ := h4348
            refine W_sound tab_ok mixed 2 _ _ _ ?_
            simp -implicitDefEqProofs only [go_sem, Nat.reduceBEq, Nat.reduceLT, h4319, h4321]
            repeat with_reducible refine And.intro (by first | kernel_rfl | decide) ?_
            refine Wp_callP (c16 N  _ h4323) (by kernel_rfl) rfl rfl rfl rfl (by decide) ?_
            replace h4348 := getB_some h4348; obtain ⟨b4325, h4324, h4348⟩ := h4348
            refine W_sound tab_ok mixed 5 _ _ _ ?_
            simp -implicitDefEqProofs only [go_sem, Nat.reduceBEq, Nat.reduceLT, h4324]
            repeat with_reducible refine And.intro (by first | kernel_rfl | decide) ?_
            obtain rfl := Option.some.inj h4348
            exact finC [(6, .v (.bool b4325))] [(6, .v (.bool b4325))] (by simp [leE, lk_cons]) (.cons _ _ _ _ _ (.v _ _ (.refl _)) .nil) (by rfl) (by simp [leE, lk_cons]) (by decide) (by decide) rfl (by simp only [go_sem, Nat.reduceBEq, resQ_tmp, resQ_nil, retD_one]; try simp [R.val, retD_one, retD_two, retD_three, retD_none])
           ·refine W_sound tab_ok mixed 8 _ _ _ ?_
            simp -implicitDefEqProofs only [go_sem, Nat.reduceBEq, Nat.reduceLT, h4319, h4321]
            repeat with_reducible refine And.intro (by first | kernel_rfl | decide) ?_
            obtain rfl := Option.some.inj h4348
            exact finC [(6, .v (.bool false))] [(6, .v (.bool false))] (by simp [leE, lk_cons]) (.cons _ _ _ _ _ (.v _ _ (.refl _)) .nil) (by rfl) (by simp [leE, lk_cons]) (by decide) (by decide) rfl (by simp only [go_sem, Nat.reduceBEq, resQ_tmp, resQ_nil, retD_one]; try simp [R.val, retD_one, retD_two, retD_three, retD_none])
          ·refine W_sound tab_ok mixed 22 _ _ _ ?_
           simp -implicitDefEqProofs only [go_sem, Nat.reduceBEq, Nat.reduceLT, ↓reduceIte, h4307, h4309, h4310]
           repeat with_reducible refine And.intro (by first | kernel_rfl | decide) ?_
           obtain rfl := Option.some.inj h4348
           exact finC [(6, .v (.bool false))] [(6, .v (.bool false))] (by simp [leE, lk_cons]) (.cons _ _ _ _ _ (.v _ _ (.refl _)) .nil) (by rfl) (by simp [leE, lk_cons]) (by decide) (by decide) rfl (by simp only [go_sem, Nat.reduceBEq, resQ_tmp, resQ_nil, retD_one]; try simp [R.val, retD_one, retD_two, retD_three, retD_none])
         ·refine W_sound tab_ok mixed 22 _ _ _ ?_
          simp -implicitDefEqProofs only [go_sem, Nat.reduceBEq, Nat.reduceLT, h4307, h4309]
          repeat with_reducible refine And.intro (by first | kernel_rfl | decide) ?_
          obtain rfl := Option.some.inj h4348
          exact finC [(6, .v (.bool false))] [(6, .v (.bool false))] (by simp [leE, lk_cons]) (.cons _ _ _ _ _ (.v _ _ (.refl _)) .nil) (by rfl) (by simp [leE, lk_cons]) (by decide) (by decide) rfl (by simp only [go_sem, Nat.reduceBEq, resQ_tmp, resQ_nil, retD_one]; try simp [R.val, retD_one, retD_two, retD_three, retD_none])
        ·refine W_sound tab_ok mixed 62 _ _ _ ?_
         simp -implicitDefEqProofs only [go_sem, Nat.reduceBEq, Nat.reduceLT, Int.reduceLE, Int.reduceToNat, ↓reduceIte, h4292, h4295, h4298, h4300, h4301, h4303, h4304]
         repeat with_reducible refine And.intro (by first | kernel_rfl | decide) ?_
         obtain rfl := Option.some.inj h4348
         exact finC [(6, .v (.bool false))] [(6, .v (.bool false))] (by simp [leE, lk_cons]) (.cons _ _ _ _ _ (.v _ _ (.refl _)) .nil) (by rfl) (by simp [leE, lk_cons]) (by decide) (by decide) rfl (by simp only [go_sem, Nat.reduceBEq, resQ_tmp, resQ_nil, retD_one]; try simp [R.val, retD_one, retD_two, retD_three, retD_none])
       ·refine W_sound tab_ok mixed 62 _ _ _ ?_
        simp -implicitDefEqProofs only [go_sem, Nat.reduceBEq, Nat.reduceLT, Int.reduceLE, Int.reduceToNat, ↓reduceIte, h4292, h4295, h4298, h4300, h4301, h4303]
        repeat with_reducible refine And.intro (by first | kernel_rfl | decide) ?_
        obtain rfl := Option.some.inj h4348
        exact finC [(6, .v (.bool false))] [(6, .v (.bool false))] (by simp [leE, lk_cons]) (.cons _ _ _ _ _ (.v _ _ (.refl _)) .nil) (by rfl) (by simp [leE, lk_cons]) (by decide) (by decide) rfl (by simp only [go_sem, Nat.reduceBEq, resQ_tmp, resQ_nil, retD_one]; try simp [R.val, retD_one, retD_two, retD_three, retD_none])
      ·replace h4348 := brn_some h4348; rcases h4348 with ⟨h4326, h4348⟩ | ⟨h4326, h4348⟩
       ·replace h4348 := brn_some h4348; rcases h4348 with ⟨h4327, h4348⟩ | ⟨h4327, h4348⟩
        ·replace h4348 := brn_some h4348; rcases h4348 with ⟨h4328, h4348⟩ | ⟨h4328, h4348⟩
         ·replace h4348 := brn_some h4348; rcases h4348 with ⟨h4329, h4348⟩ | ⟨h4329, h4348⟩
          ·replace h4348 := bnd'_some h4348; obtain ⟨p4330, h4331, h4348⟩ := h4348
           refine W_sound tab_ok mixed 46 _ _ _ ?_
           simp -implicitDefEqProofs only [go_sem, Nat.reduceBEq, Nat.reduceLT, Int.reduceLE, Int.reduceToNat, ↓reduceIte, h4292, h4295, h4298, h4300, h4301, h4326, h4327, h4328, h4329]
           repeat with_reducible refine And.intro (by first | kernel_rfl | decide) ?_
           refine Wp_callP (c16 N  _ h4331) (by kernel_rfl) rfl rfl rfl rfl (by decide) ?_
           replace h4348 := getB_some h4348; obtain ⟨b4333, h4332, h4348⟩ := h4348
           refine W_sound tab_ok mixed 5 _ _ _ ?_
           simp -implicitDefEqProofs only [go_sem, Nat.reduceBEq, Nat.reduceLT, h4332]
           repeat with_reducible refine And.intro (by first | kernel_rfl | decide) ?_
           obtain rfl := Option.some.inj h4348
           exact finC [(6, .v (.bool b4333))] [(6, .v (.bool b4333))] (by simp [leE, lk_cons]) (.cons _ _ _ _ _ (.v _ _ (.refl _)) .nil) (by rfl) (by simp [leE, lk_cons]) (by decide) (by decide) rfl (by simp only [go_sem, Nat.reduceBEq, resQ_tmp, resQ_nil, retD_one]; try simp [R.val, retD_one, retD_two, retD_three, retD_none])
          ·refine W_sound tab_ok mixed 52 _ _ _ ?_
           simp -implicitDefEqProofs only [go_sem, Nat.reduceBEq, Nat.reduceLT, Int.reduceLE, Int.reduceToNat, ↓reduceIte, h4292, h4295, h4298, h4300, h4301, h4326, h4327, h4328, h4329]
           repeat with_reducible refine And.intro (by first | kernel_rfl | decide) ?_
           obtain rfl := Option.some.inj h4348
           exact finC [(6, .v (.bool false))] [(6, .v (.bool false))] (by simp [leE, lk_cons]) (.cons _ _ _ _ _ (.v _ _ (.refl _)) .nil) (by rfl) (by simp [leE, lk_cons]) (by decide) (by decide) rfl (by simp only [go_sem, Nat.reduceBEq, resQ_tmp, resQ_nil, retD_one]; try simp [R.val, retD_one, retD_two, retD_three, retD_none])
         ·refine W_sound tab_ok mixed 52 _ _ _ ?_
          simp -implicitDefEqProofs only [go_sem, Nat.reduceBEq, Nat.reduceLT, Int.reduceLE, Int.reduceToNat, ↓reduceIte, h4292, h4295, h4298, h4300, h4301, h4326, h4327, h4328]
          repeat with_reducible refine And.intro (by first | kernel_rfl | decide) ?_
          obtain rfl := Option.some.inj h4348
          exact finC [(6, .v (.bool false))] [(6, .v (.bool false))] (by simp [leE, lk_cons]) (.cons _ _ _ _ _ (.v _ _ (.refl _)) .nil) (by rfl) (by simp [leE, lk_cons]) (by decide) (by decide) rfl (by simp only [go_sem, Nat.reduceBEq, resQ_tmp, resQ_nil, retD_one]; try simp [R.val, retD_one, retD_two, retD_three, retD_none])
        ·refine W_sound tab_ok mixed 52 _ _ _ ?_
         simp -implicitDefEqProofs only [go_sem, Nat.reduceBEq, Nat.reduceLT, ↓reduceIte, h4292, h4295, h4298, h4300, h4301, h4326, h4327]
         repeat with_reducible refine And.intro (by first | kernel_rfl | decide) ?_
         obtain rfl := Option.some.inj h4348
         exact finC [(6, .v (.bool false))] [(6, .v (.bool false))] (by simp [leE, lk_cons]) (.cons _ _ _ _ _ (.v _ _ (.refl _)) .nil) (by rfl) (by simp [leE, lk_cons]) (by decide) (by decide) rfl (by simp only [go_sem, Nat.reduceBEq, resQ_tmp, resQ_nil, retD_one]; try simp [R.val, retD_one, retD_two, retD_three, retD_none])
       ·refine W_sound tab_ok mixed 52 _ _ _ ?_
        simp -implicitDefEqProofs only [go_sem, Nat.reduceBEq, Nat.reduceLT, ↓reduceIte, h4292, h4295, h4298, h4300, h4301, h4326]
        repeat with_reducible refine And.intro (by first | kernel_rfl | decide) ?_
        obtain rfl := Option.some.inj h4348
        exact finC [(6, .v (.bool false))] [(6, .v (.bool false))] (by simp [leE, lk_cons]) (.cons _ _ _ _ _ (.v _ _ (.refl _)) .nil) (by rfl) (by simp [leE, lk_cons]) (by decide) (by decide) rfl (by simp only [go_sem, Nat.reduceBEq, resQ_tmp, resQ_nil, retD_one]; try simp [R.val, retD_one, retD_two, retD_three, retD_none])
end Go.Proofs.YtcaecfofgdogbaaDoor
