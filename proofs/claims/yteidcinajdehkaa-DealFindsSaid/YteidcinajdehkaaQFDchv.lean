/-
  What the search for the cheapest deal does with one deal.
-/
import Derived.Test.YteidcinajdehkaaQFCstA
import Derived.Test.YteidcinajdehkaaQFEaA
import Derived.Test.YteidcinajdehkaaQFChA
import Derived.Test.YteidcinajdehkaaQFV43
set_option linter.unusedSimpArgs false
set_option linter.unusedVariables false
namespace Go.Proofs.Yteidcinajdehkaa
open Go.V
set_option maxRecDepth 100000
set_option maxHeartbeats 4000000
set_option linter.unusedSimpArgs false
set_option linter.unusedVariables false
attribute [local go_sem] tl1 tl2 tl3 tl4 tl5 tl9 tl17 tl21 tl22 tl23 tl24 tl25 tl26 tl27 tl28 tl29 tl30 tl32 tl33 tl35 tl36 tl37 tl38 tl39 tl40 tl41 tl42 tl43 tl44 tl46 tl48 tl50 tl51 tl52 tl53 tl54 tl56 tl58 tl59 tl60 tl61 tl62 tl63 tl64 tl65 tl66 tl67 tl68 tl69 tl70 tl72 tl74 tl75 tl76 tl77 tl78 tl79 tl80 tl81 tl82 tl83 tl84 tl85 tl86 tl87 tl88 tl89 tl90 tl91 tl92 tl93 tl94 tl95 tl96 tl97 tl98 tl99 tl100 tl101 tl102 tl103 tl104 tl105 tl106 tl107 tl108 tl109 tl110 tl111 tl112 tl113 tl114 tl115 tl116 tl117 tl118 tl119 tl120 tl121 tl122 tl128 tl129 tl133 ne_eq not_false_eq_true Int.le_refl Nat.le_refl Int.cast_ofNat_Int
noncomputable def m22_L0 (N : Nat) (n6229 : Nat) (c6230 : List PV) (n6232 : Nat) (c6233 : List PV) : Nat → Int → Option ((PV ⊕ Unit))
 | 0, _ => none
 | n + 1, x6235 =>
  brn (decide (x6235 < ((n6229 : Nat) : Int))) (
   grd (0 ≤ x6235 ∧ x6235 < ((n6229 : Nat) : Int)) <|
   grd (0 < List.length (List.drop (Int.toNat x6235) c6230)) <|
   getL (gp c6230 (Int.toNat x6235)) fun n6241 c6242 =>
   grd (x6235 < ((n6232 : Nat) : Int)) <|
   grd (0 < List.length (List.drop (Int.toNat x6235) c6233)) <|
   getL (gp c6233 (Int.toNat x6235)) fun n6246 c6247 =>
   bnd' (m37 N (.lst false n6241 c6242) (.lst false n6246 c6247)) fun p6248 =>
   getB p6248 fun b6251 =>
   brn b6251 (
    m22_L0 N n6229 c6230 n6232 c6233 n (IntKind.i64.wrap (x6235 + 1))) (
    some (.inl (.bool false)))) (
   some (.inr ()))
noncomputable def m22 (N : Nat) (p6226 : PV) (p6227 : PV) : Option (PV) :=
 getL p6226 fun n6229 c6230 =>
 getL p6227 fun n6232 c6233 =>
 brn (((n6229 : Nat) : Int) != ((n6232 : Nat) : Int)) (
  some (.bool false)) (
  bnd' (m22_L0 N n6229 c6230 n6232 c6233 N 0) fun o =>
  match o with
  | .inl p6253 =>
   some p6253
  | .inr () =>
   some (.bool true))
theorem c22 (N : Nat) (p6226 : PV) (p6227 : PV) (r : PV)  (h : m22 N p6226 p6227 = some r) : FnP Try.prog 22 [p6226, p6227] r := by
 unfold m22 at h
 refine Fn_of (sz := 27) tab_ok [0, 1, 4, 5, 10, 14, 26] [.tmp 4] Try.func22 rfl rfl rfl (by simp) ?_
 simp only [initSt, initEnv, List.map_cons, List.map_nil, List.getD_cons_zero, List.getD_cons_succ, List.getD_nil]
 replace h := getL_some h; obtain ⟨n6229, c6230, h6228, h⟩ := h
 replace h := getL_some h; obtain ⟨n6232, c6233, h6231, h⟩ := h
 replace h := brn_some h; rcases h with ⟨h6234, h⟩ | ⟨h6234, h⟩
 ·refine W_sound tab_ok mixed 20 _ _ _ ?_
  simp -implicitDefEqProofs only [go_sem, Nat.reduceBEq, Nat.reduceLT, ↓reduceIte, h6228, h6231, h6234]
  repeat with_reducible refine And.intro (by first | kernel_rfl | decide) ?_
  obtain rfl := Option.some.inj h
  exact finC [(4, .v (.bool false))] [(4, .v (.bool false))] (by simp [leE, lk_cons]) (.cons _ _ _ _ _ (.v _ _ (.refl _)) .nil) (by rfl) (by simp [leE, lk_cons]) (by decide) (by decide) rfl (by simp only [go_sem, Nat.reduceBEq, resQ_tmp, resQ_nil, retD_one]; (try simp [R.val, retD_one, retD_two, retD_three, retD_none]); try assumption)
 ·refine W_sound tab_ok mixed 20 _ _ _ ?_
  simp -implicitDefEqProofs only [go_sem, Nat.reduceBEq, Nat.reduceLT, ↓reduceIte, h6228, h6231, h6234]
  repeat with_reducible refine And.intro (by first | kernel_rfl | decide) ?_
  replace h := bnd'_some h; obtain ⟨o6254, h6255, h6256⟩ := h
  refine Wp_cut (fun s => (.inr ()) = o6254 ∧ s = ⟨[], [(0, .dead), (1, .dead), (4, .dead), (5, .dead), (10, .dead), (14, .dead), (26, .dead)], [], 0, []⟩) ?_ ?_
  ·refine Wp_block ?_
   refine Wp_loopG (fun n s => ∃ x6235, m22_L0 N n6229 c6230 n6232 c6233 n x6235 = some o6254 ∧ s = ⟨[], [(0, .v (.lst false n6229 c6230)), (1, .v (.lst false n6232 c6233)), (4, .dead), (5, .v (.int .i64 x6235)), (10, .dead), (14, .dead), (26, .dead)], [], 0, []⟩) N _ ?_ ⟨_, h6255, rfl⟩ ?_
   ·exact Wk_keep [0, 1, 5] (by kernel_rfl)
   clear h6255
   rintro n _ ⟨x6235, h6255, rfl⟩
   cases n with
   | zero => cases h6255
   | succ n =>
    rw [m22_L0] at h6255
    replace h6255 := brn_some h6255; rcases h6255 with ⟨h6236, h6255⟩ | ⟨h6236, h6255⟩
    ·replace h6255 := grd_some h6255; obtain ⟨⟨g6237, g6238⟩, h6255⟩ := h6255
     replace h6255 := grd_some h6255; obtain ⟨g6239, h6255⟩ := h6255
     replace h6255 := getL_some h6255; obtain ⟨n6241, c6242, h6240, h6255⟩ := h6255
     replace h6255 := grd_some h6255; obtain ⟨g6243, h6255⟩ := h6255
     replace h6255 := grd_some h6255; obtain ⟨g6244, h6255⟩ := h6255
     replace h6255 := getL_some h6255; obtain ⟨n6246, c6247, h6245, h6255⟩ := h6255
     replace h6255 := bnd'_some h6255; obtain ⟨p6248, h6249, h6255⟩ := h6255
     refine W_sound tab_ok mixed 22 _ _ _ ?_
     simp -implicitDefEqProofs only [go_sem, Nat.reduceBEq, Nat.reduceLT, ↓reduceIte, g6237, g6238, g6239, h6240, g6243, g6244, h6245]
     repeat with_reducible refine And.intro (by first | kernel_rfl | decide) ?_
     refine Wp_callP (c37 N _ _ _ h6249) (by kernel_rfl) rfl rfl rfl rfl (by decide) ?_
     replace h6255 := getB_some h6255; obtain ⟨b6251, h6250, h6255⟩ := h6255
     replace h6255 := brn_some h6255; rcases h6255 with ⟨h6252, h6255⟩ | ⟨h6252, h6255⟩
     ·refine W_sound tab_ok mixed 10 _ _ _ ?_
      simp -implicitDefEqProofs only [go_sem, Nat.reduceBEq, Nat.reduceLT, Int.reduceLE, Int.reduceToNat, ↓reduceIte, h6250, h6252]
      repeat with_reducible refine And.intro (by first | kernel_rfl | decide) ?_
      refine cutQ _ ?_ ⟨n, Nat.lt_succ_self n, _, h6255, rfl⟩
      exact Wk_keep [0, 1, 5] (by kernel_rfl)
     ·refine W_sound tab_ok mixed 9 _ _ _ ?_
      simp -implicitDefEqProofs only [go_sem, Nat.reduceBEq, Nat.reduceLT, h6250, h6252]
      repeat with_reducible refine And.intro (by first | kernel_rfl | decide) ?_
      obtain rfl := Option.some.inj h6255
      (try dsimp only at h6256)
      obtain rfl := Option.some.inj h6256
      exact finC [(4, .v (.bool false))] [(4, .v (.bool false))] (by simp [leE, lk_cons]) (.cons _ _ _ _ _ (.v _ _ (.refl _)) .nil) (by rfl) (by simp [leE, lk_cons]) (by decide) (by decide) rfl (by simp only [go_sem, Nat.reduceBEq, resQ_tmp, resQ_nil, retD_one]; (try simp [R.val, retD_one, retD_two, retD_three, retD_none]); try assumption)
    ·refine W_sound tab_ok mixed 10 _ _ _ ?_
     simp -implicitDefEqProofs only [go_sem, Nat.reduceBEq, Nat.reduceLT, ↓reduceIte, h6236]
     repeat with_reducible refine And.intro (by first | kernel_rfl | decide) ?_
     obtain rfl := Option.some.inj h6255
     refine cutQ _ ?_ ⟨rfl, rfl⟩
     exact Wk_keep [] (by kernel_rfl)
  ·rintro _ ⟨rfl, rfl⟩
   (try dsimp only at h6256)
   refine W_sound tab_ok mixed 6 _ _ _ ?_
   simp -implicitDefEqProofs only [go_sem, Nat.reduceBEq, Nat.reduceLT]
   repeat with_reducible refine And.intro (by first | kernel_rfl | decide) ?_
   obtain rfl := Option.some.inj h6256
   exact finC [(4, .v (.bool true))] [(4, .v (.bool true))] (by simp [leE, lk_cons]) (.cons _ _ _ _ _ (.v _ _ (.refl _)) .nil) (by rfl) (by simp [leE, lk_cons]) (by decide) (by decide) rfl (by simp only [go_sem, Nat.reduceBEq, resQ_tmp, resQ_nil, retD_one]; (try simp [R.val, retD_one, retD_two, retD_three, retD_none]); try assumption)
noncomputable def m97_L1 (N : Nat) (rec : PV → Int → Option (PV)) (x6290 : Int) (n6292 : Nat) (c6293 : List PV) (x6403 : Int) (n6417 : Nat) (c6418 : List PV) : Nat → Nat → Int → List PV → Option ((Nat × List PV))
 | 0, _, _, _ => none
 | n + 1, n6435, x6436, c6437 =>
  brn (decide (x6436 < ((n6417 : Nat) : Int))) (
   grd (0 ≤ x6436 ∧ x6436 < ((n6417 : Nat) : Int)) <|
   grd (0 < List.length (List.drop (Int.toNat x6436) c6418)) <|
   getL (gp c6418 (Int.toNat x6436)) fun n6443 c6444 =>
   grd (List.length c6444 = n6443) <|
   brn (decide (0 < n6443)) (
    grd ((1 + n6443) ≤ 1099511627776) <|
    grd ((n6435 + 1) ≤ 1099511627776) <|
    grd (List.length c6437 = n6435) <|
    m97_L1 N rec x6290 n6292 c6293 x6403 n6417 c6418 n (n6435 + 1) (IntKind.i64.wrap (x6436 + 1)) (c6437 ++ [(.lst false (1 + n6443) ([(.int .i64 x6403)] ++ c6444))])) (
    grd ((1 + n6443) ≤ 1099511627776) <|
    grd ((n6435 + 1) ≤ 1099511627776) <|
    grd (List.length c6437 = n6435) <|
    m97_L1 N rec x6290 n6292 c6293 x6403 n6417 c6418 n (n6435 + 1) (IntKind.i64.wrap (x6436 + 1)) (c6437 ++ [(.lst false (1 + n6443) ([(.int .i64 x6403)] ++ c6444))]))) (
   some (n6435, c6437))
noncomputable def m97_L0 (N : Nat) (rec : PV → Int → Option (PV)) (x6290 : Int) (n6292 : Nat) (c6293 : List PV) : Nat → Nat → Int → List PV → Option ((Nat × List PV))
 | 0, _, _, _ => none
 | n + 1, n6402, x6403, c6404 =>
  grd (0 < ((n6292 : Nat) : Int)) <|
  grd (0 < List.length c6293) <|
  getI .i64 (gp c6293 0) fun x6408 =>
  brn (decide (x6403 ≤ x6408)) (
   brn (decide (x6403 ≤ x6290)) (
    grd (1 ≤ ((n6292 : Nat) : Int) ∧ 0 < n6292) <|
    grd (List.length c6293 = n6292) <|
    bnd' (rec (.lst false (Int.toNat (((n6292 : Nat) : Int) - 1)) (List.drop 1 c6293)) (IntKind.i64.wrap (x6290 - x6403))) fun p6414 =>
    getL p6414 fun n6417 c6418 =>
    bnd' (m97_L1 N rec x6290 n6292 c6293 x6403 n6417 c6418 N n6402 0 c6404) fun o =>
    match o with
    | (n6453, c6454) =>
     m97_L0 N rec x6290 n6292 c6293 n n6453 (IntKind.i64.wrap (x6403 + 1)) c6454) (
    some (n6402, c6404))) (
   some (n6402, c6404))
noncomputable def m97 (N : Nat) : Nat → PV → Int → Option (PV)
 | 0, _, _ => none
 | fu + 1, p6289, x6290 =>
  getL p6289 fun n6292 c6293 =>
  brn (((n6292 : Nat) : Int) == 0) (
   brn (x6290 == 0) (
    some (.lst false 1 [(.lst false 0 [])])) (
    some (.lst false 0 []))) (
   bnd' (m97_L0 N (m97 N fu) x6290 n6292 c6293 N 0 0 []) fun o =>
   match o with
   | (n6455, c6456) =>
    grd (List.length c6456 = n6455) <|
    some (.lst false n6455 c6456))
theorem c97 (N : Nat) : ∀ (fu : Nat) (p6289 : PV) (x6290 : Int) (r : PV)  (h : m97 N fu p6289 x6290 = some r), FnP Try.prog 97 [p6289, (.int .i64 x6290)] r := by
 intro fu
 induction fu with
 | zero => intro p6289 x6290 r h; cases h
 | succ fu ih =>
  intro p6289 x6290 r h
  rw [m97] at h
  refine Fn_of (sz := 51) tab_ok [0, 1, 4, 5, 6, 7, 8, 11, 13, 25, 37] [.tmp 4] Try.func97 rfl rfl rfl (by simp) ?_
  simp only [initSt, initEnv, List.map_cons, List.map_nil, List.getD_cons_zero, List.getD_cons_succ, List.getD_nil]
  replace h := getL_some h; obtain ⟨n6292, c6293, h6291, h⟩ := h
  replace h := brn_some h; rcases h with ⟨h6294, h⟩ | ⟨h6294, h⟩
  ·replace h := brn_some h; rcases h with ⟨h6295, h⟩ | ⟨h6295, h⟩
   ·refine W_sound tab_ok mixed 27 _ _ _ ?_
    simp -implicitDefEqProofs only [go_sem, Nat.reduceBEq, Nat.reduceAdd, Nat.reduceLT, Nat.reduceLeDiff, ↓reduceIte, h6291, h6294, h6295]
    repeat with_reducible refine And.intro (by first | kernel_rfl | decide) ?_
    refine FinQ_wk (Wk_freeze 14 [] (by rfl) (by decide) (by decide)) ?_
    simp -implicitDefEqProofs only [go_sem, Nat.reduceBEq]
    refine FinQ_wk (Wk_freeze 15 [(.lst true 0 [])] (by rfl) (by decide) (by decide)) ?_
    simp -implicitDefEqProofs only [go_sem, Nat.reduceBEq]
    obtain rfl := Option.some.inj h
    exact finC [(4, .v (.lst true 1 [(.lst true 0 [])]))] [(4, .v (.lst false 1 [(.lst false 0 [])]))] (by simp [leE, lk_cons]) (.cons _ _ _ _ _ (.v _ _ (.lst true false _ _ _ (fun h => by first | exact h | cases h) (.cons _ _ _ _ (.lst true false _ _ _ (fun h => by first | exact h | cases h) (PLes.refl _)) .nil))) .nil) (by rfl) (by simp [leE, lk_cons]) (by decide) (by decide) rfl (by simp only [go_sem, Nat.reduceBEq, resQ_tmp, resQ_nil, retD_one]; (try simp [R.val, retD_one, retD_two, retD_three, retD_none]); try assumption)
   ·refine W_sound tab_ok mixed 26 _ _ _ ?_
    simp -implicitDefEqProofs only [go_sem, Nat.reduceBEq, Nat.reduceLT, ↓reduceIte, h6291, h6294, h6295]
    repeat with_reducible refine And.intro (by first | kernel_rfl | decide) ?_
    obtain rfl := Option.some.inj h
    exact finC [(4, .v .nl)] [(4, .v (.lst false 0 []))] (by simp [leE, lk_cons]) (.cons _ _ _ _ _ (.v _ _ (.nl false)) .nil) (by rfl) (by simp [leE, lk_cons]) (by decide) (by decide) rfl (by simp only [go_sem, Nat.reduceBEq, resQ_tmp, resQ_nil, retD_one]; (try simp [R.val, retD_one, retD_two, retD_three, retD_none]); try assumption)
  ·refine W_sound tab_ok mixed 22 _ _ _ ?_
   simp -implicitDefEqProofs only [go_sem, Nat.reduceBEq, Nat.reduceLT, ↓reduceIte, h6291, h6294]
   repeat with_reducible refine And.intro (by first | kernel_rfl | decide) ?_
   refine Wp_weaken (Wk_ownS 5 1 rfl (by decide) (by decide)) ?_
   simp -implicitDefEqProofs only [go_sem, Nat.reduceBEq]
   replace h := bnd'_some h; obtain ⟨o6458, h6459, h6460⟩ := h
   refine Wp_cut (fun s => ∃ n6455, ∃ c6456, (n6455, c6456) = o6458 ∧ s = ⟨[], [(0, .dead), (1, .dead), (4, .dead), (5, .sl false 0 0 n6455 1), (6, .dead), (7, .dead), (8, .dead), (11, .dead), (13, .dead), (25, .dead), (37, .dead)], [(0, .p c6456)], 1, []⟩) ?_ ?_
   ·refine Wp_block ?_
    refine Wp_loopG (fun n s => ∃ n6402, ∃ x6403, ∃ c6404, m97_L0 N (m97 N fu) x6290 n6292 c6293 n n6402 x6403 c6404 = some o6458 ∧ s = ⟨[], [(0, .v (.lst false n6292 c6293)), (1, .v (.int .i64 x6290)), (4, .dead), (5, .sl false 0 0 n6402 1), (6, .v (.int .i64 x6403)), (7, .dead), (8, .dead), (11, .dead), (13, .dead), (25, .dead), (37, .dead)], [(0, .p c6404)], 1, []⟩) N _ ?_ ⟨_, _, _, h6459, rfl⟩ ?_
    ·exact Wk_keep [0, 1, 5, 6] (by kernel_rfl)
    clear h6459
    rintro n _ ⟨n6402, x6403, c6404, h6459, rfl⟩
    cases n with
    | zero => cases h6459
    | succ n =>
     rw [m97_L0] at h6459
     replace h6459 := grd_some h6459; obtain ⟨g6405, h6459⟩ := h6459
     replace h6459 := grd_some h6459; obtain ⟨g6406, h6459⟩ := h6459
     replace h6459 := getI_some h6459; obtain ⟨x6408, h6407, h6459⟩ := h6459
     replace h6459 := brn_some h6459; rcases h6459 with ⟨h6409, h6459⟩ | ⟨h6409, h6459⟩
     ·replace h6459 := brn_some h6459; rcases h6459 with ⟨h6410, h6459⟩ | ⟨h6410, h6459⟩
      ·replace h6459 := grd_some h6459; obtain ⟨⟨g6411, g6412⟩, h6459⟩ := h6459
       replace h6459 := grd_some h6459; obtain ⟨g6413, h6459⟩ := h6459
       replace h6459 := bnd'_some h6459; obtain ⟨p6414, h6415, h6459⟩ := h6459
       refine W_sound tab_ok mixed 25 _ _ _ ?_
       simp -implicitDefEqProofs only [go_sem, Nat.reduceBEq, Nat.reduceLT, Int.reduceLE, Int.reduceToNat, ↓reduceIte, g6405, h6407, h6409, h6410, g6411, g6412, g6413]
       repeat with_reducible refine And.intro (by first | kernel_rfl | decide) ?_
       refine Wp_callP (ih _ _ _ h6415) (by kernel_rfl) rfl rfl rfl rfl (by decide) ?_
       replace h6459 := getL_some h6459; obtain ⟨n6417, c6418, h6416, h6459⟩ := h6459
       refine W_sound tab_ok mixed 6 _ _ _ ?_
       simp -implicitDefEqProofs only [go_sem, Nat.reduceBEq, Nat.reduceLT, h6416]
       repeat with_reducible refine And.intro (by first | kernel_rfl | decide) ?_
       replace h6459 := bnd'_some h6459; obtain ⟨o6461, h6462, h6463⟩ := h6459
       refine Wp_cut (fun s => ∃ n6453, ∃ c6454, (n6453, c6454) = o6461 ∧ s = ⟨[], [(0, .v (.lst false n6292 c6293)), (1, .v (.int .i64 x6290)), (4, .dead), (5, .sl false 0 0 n6453 1), (6, .v (.int .i64 x6403)), (7, .dead), (8, .dead), (11, .dead), (13, .dead), (25, .dead), (37, .dead)], [(0, .p c6454)], 1, []⟩) ?_ ?_
       ·refine Wp_block ?_
        refine Wp_loopG (fun n s => ∃ n6435, ∃ x6436, ∃ c6437, m97_L1 N (m97 N fu) x6290 n6292 c6293 x6403 n6417 c6418 n n6435 x6436 c6437 = some o6461 ∧ s = ⟨[], [(0, .v (.lst false n6292 c6293)), (1, .v (.int .i64 x6290)), (4, .dead), (5, .sl false 0 0 n6435 1), (6, .v (.int .i64 x6403)), (7, .v (.lst false n6417 c6418)), (8, .v (.int .i64 x6436)), (11, .dead), (13, .dead), (25, .dead), (37, .dead)], [(0, .p c6437)], 1, []⟩) N _ ?_ ⟨_, _, _, h6462, rfl⟩ ?_
        ·exact Wk_keep [0, 1, 5, 6, 7, 8] (by kernel_rfl)
        clear h6462
        rintro n _ ⟨n6435, x6436, c6437, h6462, rfl⟩
        cases n with
        | zero => cases h6462
        | succ n =>
         rw [m97_L1] at h6462
         replace h6462 := brn_some h6462; rcases h6462 with ⟨h6438, h6462⟩ | ⟨h6438, h6462⟩
         ·replace h6462 := grd_some h6462; obtain ⟨⟨g6439, g6440⟩, h6462⟩ := h6462
          replace h6462 := grd_some h6462; obtain ⟨g6441, h6462⟩ := h6462
          replace h6462 := getL_some h6462; obtain ⟨n6443, c6444, h6442, h6462⟩ := h6462
          replace h6462 := grd_some h6462; obtain ⟨g6445, h6462⟩ := h6462
          replace h6462 := brn_some h6462; rcases h6462 with ⟨h6446, h6462⟩ | ⟨h6446, h6462⟩
          ·replace h6462 := grd_some h6462; obtain ⟨g6447, h6462⟩ := h6462
           replace h6462 := grd_some h6462; obtain ⟨g6448, h6462⟩ := h6462
           replace h6462 := grd_some h6462; obtain ⟨g6449, h6462⟩ := h6462
           refine W_sound tab_ok mixed 25 _ _ _ ?_
           simp -implicitDefEqProofs only [go_sem, Nat.reduceBEq, Nat.reduceAdd, Nat.reduceLT, Nat.reduceLeDiff, ↓reduceIte, g6439, g6440, g6441, h6442, g6445, h6446, g6447, g6448, g6449]
           repeat with_reducible refine And.intro (by first | kernel_rfl | decide) ?_
           refine Wp_wkK (Wk_freeze 48 ([(.int .i64 x6403)] ++ c6444) (by rfl) (by decide) (by decide)) rfl ?_
           simp -implicitDefEqProofs only [go_sem, Nat.reduceBEq, g6445]
           refine W_sound tab_ok mixed 6 _ _ _ ?_
           simp -implicitDefEqProofs only [go_sem, Nat.reduceBEq, Nat.reduceLT, Int.reduceLE, Int.reduceToNat, ↓reduceIte]
           repeat with_reducible refine And.intro (by first | kernel_rfl | decide) ?_
           refine cutQ _ ?_ ⟨n, Nat.lt_succ_self n, _, _, _, h6462, rfl⟩
           exact Wk_keep [0, 1, 5, 6, 7, 8] (by kernel_rfl)
          ·replace h6462 := grd_some h6462; obtain ⟨g6450, h6462⟩ := h6462
           replace h6462 := grd_some h6462; obtain ⟨g6451, h6462⟩ := h6462
           replace h6462 := grd_some h6462; obtain ⟨g6452, h6462⟩ := h6462
           refine W_sound tab_ok mixed 25 _ _ _ ?_
           simp -implicitDefEqProofs only [go_sem, Nat.reduceBEq, Nat.reduceAdd, Nat.reduceLT, Nat.reduceLeDiff, ↓reduceIte, g6439, g6440, g6441, h6442, g6445, h6446, g6450, g6451, g6452]
           repeat with_reducible refine And.intro (by first | kernel_rfl | decide) ?_
           refine Wp_wkK (Wk_freeze 48 ([(.int .i64 x6403)] ++ c6444) (by rfl) (by decide) (by decide)) rfl ?_
           simp -implicitDefEqProofs only [go_sem, Nat.reduceBEq, g6445]
           refine W_sound tab_ok mixed 6 _ _ _ ?_
           simp -implicitDefEqProofs only [go_sem, Nat.reduceBEq, Nat.reduceLT, Int.reduceLE, Int.reduceToNat, ↓reduceIte]
           repeat with_reducible refine And.intro (by first | kernel_rfl | decide) ?_
           refine cutQ _ ?_ ⟨n, Nat.lt_succ_self n, _, _, _, h6462, rfl⟩
           exact Wk_keep [0, 1, 5, 6, 7, 8] (by kernel_rfl)
         ·refine W_sound tab_ok mixed 10 _ _ _ ?_
          simp -implicitDefEqProofs only [go_sem, Nat.reduceBEq, Nat.reduceLT, ↓reduceIte, h6438]
          repeat with_reducible refine And.intro (by first | kernel_rfl | decide) ?_
          obtain rfl := Option.some.inj h6462
          refine cutQ _ ?_ ⟨_, _, rfl, rfl⟩
          exact Wk_keep [0, 1, 5, 6] (by kernel_rfl)
       ·rintro _ ⟨n6453, c6454, rfl, rfl⟩
        (try dsimp only at h6463)
        refine W_sound tab_ok mixed 6 _ _ _ ?_
        simp -implicitDefEqProofs only [go_sem, Nat.reduceBEq, Nat.reduceLT, Int.reduceLE, Int.reduceToNat, ↓reduceIte]
        repeat with_reducible refine And.intro (by first | kernel_rfl | decide) ?_
        refine cutQ _ ?_ ⟨n, Nat.lt_succ_self n, _, _, _, h6463, rfl⟩
        exact Wk_keep [0, 1, 5, 6] (by kernel_rfl)
      ·refine W_sound tab_ok mixed 16 _ _ _ ?_
       simp -implicitDefEqProofs only [go_sem, Nat.reduceBEq, Nat.reduceLT, ↓reduceIte, g6405, g6406, h6407, h6409, h6410]
       repeat with_reducible refine And.intro (by first | kernel_rfl | decide) ?_
       obtain rfl := Option.some.inj h6459
       refine cutQ _ ?_ ⟨_, _, rfl, rfl⟩
       exact Wk_keep [5] (by kernel_rfl)
     ·refine W_sound tab_ok mixed 16 _ _ _ ?_
      simp -implicitDefEqProofs only [go_sem, Nat.reduceBEq, Nat.reduceLT, ↓reduceIte, g6405, g6406, h6407, h6409]
      repeat with_reducible refine And.intro (by first | kernel_rfl | decide) ?_
      obtain rfl := Option.some.inj h6459
      refine cutQ _ ?_ ⟨_, _, rfl, rfl⟩
      exact Wk_keep [5] (by kernel_rfl)
   ·rintro _ ⟨n6455, c6456, rfl, rfl⟩
    (try dsimp only at h6460)
    refine W_sound tab_ok mixed 7 _ _ _ ?_
    simp -implicitDefEqProofs only [go_sem, Nat.reduceBEq, Nat.reduceLT]
    repeat with_reducible refine And.intro (by first | kernel_rfl | decide) ?_
    replace h6460 := grd_some h6460; obtain ⟨g6457, h6460⟩ := h6460
    refine FinQ_wk (Wk_freeze 0 c6456 (by rfl) (by decide) (by decide)) ?_
    simp -implicitDefEqProofs only [go_sem, Nat.reduceBEq, g6457]
    obtain rfl := Option.some.inj h6460
    exact finC [(4, .v (.lst false n6455 c6456))] [(4, .v (.lst false n6455 c6456))] (by simp [leE, lk_cons]) (.cons _ _ _ _ _ (.v _ _ (.refl _)) .nil) (by rfl) (by simp [leE, lk_cons]) (by decide) (by decide) rfl (by simp only [go_sem, Nat.reduceBEq, resQ_tmp, resQ_nil, retD_one]; (try simp [R.val, retD_one, retD_two, retD_three, retD_none]); try assumption)
noncomputable def m74_L1 (N : Nat) (rec : PV → PV → Option (PV)) (n6279 : Nat) (c6280 : List PV) (n6282 : Nat) (c6283 : List PV) (n6467 : Nat) (c6468 : List PV) (n6711 : Nat) (x6712 : Int) (c6713 : List PV) : Nat → Nat → Int → List PV → Option ((Nat × List PV))
 | 0, _, _, _ => none
 | n + 1, n6749, x6750, c6751 =>
  brn (decide (x6750 < ((n6282 : Nat) : Int))) (
   grd (0 ≤ x6750 ∧ x6750 < ((n6282 : Nat) : Int)) <|
   grd (0 < List.length (List.drop (Int.toNat x6750) c6283)) <|
   getI .i64 (gp c6283 (Int.toNat x6750)) fun x6757 =>
   grd (0 ≤ x6712 ∧ x6712 < ((n6467 : Nat) : Int)) <|
   grd (0 < List.length (List.drop (Int.toNat x6712) c6468)) <|
   getL (gp c6468 (Int.toNat x6712)) fun n6762 c6763 =>
   grd (x6750 < ((n6762 : Nat) : Int)) <|
   grd (0 < List.length (List.drop (Int.toNat x6750) c6763)) <|
   getI .i64 (gp c6763 (Int.toNat x6750)) fun x6767 =>
   grd ((n6749 + 1) ≤ 1099511627776) <|
   grd (List.length c6751 = n6749) <|
   m74_L1 N rec n6279 c6280 n6282 c6283 n6467 c6468 n6711 x6712 c6713 n (n6749 + 1) (IntKind.i64.wrap (x6750 + 1)) (c6751 ++ [(.int .i64 (IntKind.i64.wrap (x6757 - x6767)))])) (
   some (n6749, c6751))
noncomputable def m74_L2 (N : Nat) (rec : PV → PV → Option (PV)) (n6279 : Nat) (c6280 : List PV) (n6282 : Nat) (c6283 : List PV) (n6467 : Nat) (c6468 : List PV) (x6712 : Int) (n6779 : Nat) (c6780 : List PV) : Nat → Nat → Int → List PV → Option ((Nat × List PV))
 | 0, _, _, _ => none
 | n + 1, n6803, x6804, c6805 =>
  brn (decide (x6804 < ((n6779 : Nat) : Int))) (
   grd (0 ≤ x6712 ∧ x6712 < ((n6467 : Nat) : Int)) <|
   grd (0 < List.length (List.drop (Int.toNat x6712) c6468)) <|
   getL (gp c6468 (Int.toNat x6712)) fun n6811 c6812 =>
   grd (0 ≤ x6804 ∧ x6804 < ((n6779 : Nat) : Int)) <|
   grd (0 < List.length (List.drop (Int.toNat x6804) c6780)) <|
   getL (gp c6780 (Int.toNat x6804)) fun n6817 c6818 =>
   grd (List.length c6818 = n6817) <|
   brn (decide (0 < n6817)) (
    grd ((1 + n6817) ≤ 1099511627776) <|
    grd ((n6803 + 1) ≤ 1099511627776) <|
    grd (List.length c6805 = n6803) <|
    m74_L2 N rec n6279 c6280 n6282 c6283 n6467 c6468 x6712 n6779 c6780 n (n6803 + 1) (IntKind.i64.wrap (x6804 + 1)) (c6805 ++ [(.lst false (1 + n6817) ([(.lst false n6811 c6812)] ++ c6818))])) (
    grd ((1 + n6817) ≤ 1099511627776) <|
    grd ((n6803 + 1) ≤ 1099511627776) <|
    grd (List.length c6805 = n6803) <|
    m74_L2 N rec n6279 c6280 n6282 c6283 n6467 c6468 x6712 n6779 c6780 n (n6803 + 1) (IntKind.i64.wrap (x6804 + 1)) (c6805 ++ [(.lst false (1 + n6817) ([(.lst false n6811 c6812)] ++ c6818))]))) (
   some (n6803, c6805))
noncomputable def m74_L0 (N : Nat) (rec : PV → PV → Option (PV)) (n6279 : Nat) (c6280 : List PV) (n6282 : Nat) (c6283 : List PV) (n6467 : Nat) (c6468 : List PV) : Nat → Nat → Int → List PV → Option ((Nat × List PV))
 | 0, _, _, _ => none
 | n + 1, n6711, x6712, c6713 =>
  brn (decide (x6712 < ((n6467 : Nat) : Int))) (
   bnd' (m74_L1 N rec n6279 c6280 n6282 c6283 n6467 c6468 n6711 x6712 c6713 N 0 0 []) fun o =>
   match o with
   | (n6770, c6771) =>
    grd (List.length c6771 = n6770) <|
    grd (1 ≤ ((n6279 : Nat) : Int) ∧ 0 < n6279) <|
    grd (List.length c6280 = n6279) <|
    bnd' (rec (.lst false (Int.toNat (((n6279 : Nat) : Int) - 1)) (List.drop 1 c6280)) (.lst false n6770 c6771)) fun p6776 =>
    getL p6776 fun n6779 c6780 =>
    bnd' (m74_L2 N rec n6279 c6280 n6282 c6283 n6467 c6468 x6712 n6779 c6780 N n6711 0 c6713) fun o =>
    match o with
    | (n6827, c6828) =>
     m74_L0 N rec n6279 c6280 n6282 c6283 n6467 c6468 n n6827 (IntKind.i64.wrap (x6712 + 1)) c6828) (
   some (n6711, c6713))
noncomputable def m74 (N : Nat) : Nat → PV → PV → Option (PV)
 | 0, _, _ => none
 | fu + 1, p6276, p6277 =>
  getL p6276 fun n6279 c6280 =>
  getL p6277 fun n6282 c6283 =>
  brn (((n6279 : Nat) : Int) == 0) (
   some (.lst false 1 [(.lst false 0 [])])) (
   grd (0 < ((n6279 : Nat) : Int)) <|
   grd (0 < List.length c6280) <|
   getI .i64 (gp c6280 0) fun x6288 =>
   bnd' (m97 N N (.lst false n6282 c6283) x6288) fun p6464 =>
   getL p6464 fun n6467 c6468 =>
   bnd' (m74_L0 N (m74 N fu) n6279 c6280 n6282 c6283 n6467 c6468 N 0 0 []) fun o =>
   match o with
   | (n6829, c6830) =>
    grd (List.length c6830 = n6829) <|
    some (.lst false n6829 c6830))
theorem c74 (N : Nat) : ∀ (fu : Nat) (p6276 : PV) (p6277 : PV) (r : PV)  (h : m74 N fu p6276 p6277 = some r), FnP Try.prog 74 [p6276, p6277] r := by
 intro fu
 induction fu with
 | zero => intro p6276 p6277 r h; cases h
 | succ fu ih =>
  intro p6276 p6277 r h
  rw [m74] at h
  refine Fn_of (sz := 73) tab_ok [0, 1, 4, 5, 6, 7, 8, 9, 10, 11, 14, 25, 31, 56] [.tmp 4] Try.func74 rfl rfl rfl (by simp) ?_
  simp only [initSt, initEnv, List.map_cons, List.map_nil, List.getD_cons_zero, List.getD_cons_succ, List.getD_nil]
  replace h := getL_some h; obtain ⟨n6279, c6280, h6278, h⟩ := h
  replace h := getL_some h; obtain ⟨n6282, c6283, h6281, h⟩ := h
  replace h := brn_some h; rcases h with ⟨h6284, h⟩ | ⟨h6284, h⟩
  ·refine W_sound tab_ok mixed 20 _ _ _ ?_
   simp -implicitDefEqProofs only [go_sem, Nat.reduceBEq, Nat.reduceAdd, Nat.reduceLT, Nat.reduceLeDiff, ↓reduceIte, h6278, h6281, h6284]
   repeat with_reducible refine And.intro (by first | kernel_rfl | decide) ?_
   refine FinQ_wk (Wk_freeze 15 [] (by rfl) (by decide) (by decide)) ?_
   simp -implicitDefEqProofs only [go_sem, Nat.reduceBEq]
   refine FinQ_wk (Wk_freeze 16 [(.lst true 0 [])] (by rfl) (by decide) (by decide)) ?_
   simp -implicitDefEqProofs only [go_sem, Nat.reduceBEq]
   obtain rfl := Option.some.inj h
   exact finC [(4, .v (.lst true 1 [(.lst true 0 [])]))] [(4, .v (.lst false 1 [(.lst false 0 [])]))] (by simp [leE, lk_cons]) (.cons _ _ _ _ _ (.v _ _ (.lst true false _ _ _ (fun h => by first | exact h | cases h) (.cons _ _ _ _ (.lst true false _ _ _ (fun h => by first | exact h | cases h) (PLes.refl _)) .nil))) .nil) (by rfl) (by simp [leE, lk_cons]) (by decide) (by decide) rfl (by simp only [go_sem, Nat.reduceBEq, resQ_tmp, resQ_nil, retD_one]; (try simp [R.val, retD_one, retD_two, retD_three, retD_none]); try assumption)
  ·replace h := grd_some h; obtain ⟨g6285, h⟩ := h
   replace h := grd_some h; obtain ⟨g6286, h⟩ := h
   replace h := getI_some h; obtain ⟨x6288, h6287, h⟩ := h
   replace h := bnd'_some h; obtain ⟨p6464, h6465, h⟩ := h
   refine W_sound tab_ok mixed 23 _ _ _ ?_
   simp -implicitDefEqProofs only [go_sem, Nat.reduceBEq, Nat.reduceLT, ↓reduceIte, h6278, h6281, h6284, g6285, g6286, h6287]
   repeat with_reducible refine And.intro (by first | kernel_rfl | decide) ?_
   refine Wp_callP (c97 N N _ _ _ h6465) (by kernel_rfl) rfl rfl rfl rfl (by decide) ?_
   replace h := getL_some h; obtain ⟨n6467, c6468, h6466, h⟩ := h
   refine W_sound tab_ok mixed 7 _ _ _ ?_
   simp -implicitDefEqProofs only [go_sem, Nat.reduceBEq, Nat.reduceLT, h6466]
   repeat with_reducible refine And.intro (by first | kernel_rfl | decide) ?_
   refine Wp_weaken (Wk_ownS 5 1 rfl (by decide) (by decide)) ?_
   simp -implicitDefEqProofs only [go_sem, Nat.reduceBEq]
   replace h := bnd'_some h; obtain ⟨o6832, h6833, h6834⟩ := h
   refine Wp_cut (fun s => ∃ n6829, ∃ c6830, (n6829, c6830) = o6832 ∧ s = ⟨[], [(0, .dead), (1, .dead), (4, .dead), (5, .sl false 0 0 n6829 1), (6, .dead), (7, .dead), (8, .dead), (9, .dead), (10, .dead), (11, .dead), (14, .dead), (25, .dead), (31, .dead), (56, .dead)], [(0, .p c6830)], 1, []⟩) ?_ ?_
   ·refine Wp_block ?_
    refine Wp_loopG (fun n s => ∃ n6711, ∃ x6712, ∃ c6713, m74_L0 N (m74 N fu) n6279 c6280 n6282 c6283 n6467 c6468 n n6711 x6712 c6713 = some o6832 ∧ s = ⟨[], [(0, .v (.lst false n6279 c6280)), (1, .v (.lst false n6282 c6283)), (4, .dead), (5, .sl false 0 0 n6711 1), (6, .v (.lst false n6467 c6468)), (7, .v (.int .i64 x6712)), (8, .dead), (9, .dead), (10, .dead), (11, .dead), (14, .dead), (25, .dead), (31, .dead), (56, .dead)], [(0, .p c6713)], 1, []⟩) N _ ?_ ⟨_, _, _, h6833, rfl⟩ ?_
    ·exact Wk_keep [0, 1, 5, 6, 7] (by kernel_rfl)
    clear h6833
    rintro n _ ⟨n6711, x6712, c6713, h6833, rfl⟩
    cases n with
    | zero => cases h6833
    | succ n =>
     rw [m74_L0] at h6833
     replace h6833 := brn_some h6833; rcases h6833 with ⟨h6714, h6833⟩ | ⟨h6714, h6833⟩
     ·refine W_sound tab_ok mixed 21 _ _ _ ?_
      simp -implicitDefEqProofs only [go_sem, Nat.reduceBEq, Nat.reduceLT, ↓reduceIte, h6714]
      repeat with_reducible refine And.intro (by first | kernel_rfl | decide) ?_
      refine Wp_weaken (Wk_ownS 8 1 rfl (by decide) (by decide)) ?_
      simp -implicitDefEqProofs only [go_sem, Nat.reduceBEq, Nat.reduceAdd]
      replace h6833 := bnd'_some h6833; obtain ⟨o6835, h6836, h6837⟩ := h6833
      refine Wp_cut (fun s => ∃ n6770, ∃ c6771, (n6770, c6771) = o6835 ∧ s = ⟨[], [(0, .v (.lst false n6279 c6280)), (1, .v (.lst false n6282 c6283)), (4, .dead), (5, .sl false 0 0 n6711 1), (6, .v (.lst false n6467 c6468)), (7, .v (.int .i64 x6712)), (8, .sl false 1 0 n6770 1), (9, .dead), (10, .dead), (11, .dead), (14, .dead), (25, .dead), (31, .dead), (56, .dead)], [(0, .p c6713), (1, .p c6771)], 2, []⟩) ?_ ?_
      ·refine Wp_block ?_
       refine Wp_loopG (fun n s => ∃ n6749, ∃ x6750, ∃ c6751, m74_L1 N (m74 N fu) n6279 c6280 n6282 c6283 n6467 c6468 n6711 x6712 c6713 n n6749 x6750 c6751 = some o6835 ∧ s = ⟨[], [(0, .v (.lst false n6279 c6280)), (1, .v (.lst false n6282 c6283)), (4, .dead), (5, .sl false 0 0 n6711 1), (6, .v (.lst false n6467 c6468)), (7, .v (.int .i64 x6712)), (8, .sl false 1 0 n6749 1), (9, .v (.int .i64 x6750)), (10, .dead), (11, .dead), (14, .dead), (25, .dead), (31, .dead), (56, .dead)], [(0, .p c6713), (1, .p c6751)], 2, []⟩) N _ ?_ ⟨_, _, _, h6836, rfl⟩ ?_
       ·exact Wk_keep [0, 1, 5, 6, 7, 8, 9] (by kernel_rfl)
       clear h6836
       rintro n _ ⟨n6749, x6750, c6751, h6836, rfl⟩
       cases n with
       | zero => cases h6836
       | succ n =>
        rw [m74_L1] at h6836
        replace h6836 := brn_some h6836; rcases h6836 with ⟨h6752, h6836⟩ | ⟨h6752, h6836⟩
        ·replace h6836 := grd_some h6836; obtain ⟨⟨g6753, g6754⟩, h6836⟩ := h6836
         replace h6836 := grd_some h6836; obtain ⟨g6755, h6836⟩ := h6836
         replace h6836 := getI_some h6836; obtain ⟨x6757, h6756, h6836⟩ := h6836
         replace h6836 := grd_some h6836; obtain ⟨⟨g6758, g6759⟩, h6836⟩ := h6836
         replace h6836 := grd_some h6836; obtain ⟨g6760, h6836⟩ := h6836
         replace h6836 := getL_some h6836; obtain ⟨n6762, c6763, h6761, h6836⟩ := h6836
         replace h6836 := grd_some h6836; obtain ⟨g6764, h6836⟩ := h6836
         replace h6836 := grd_some h6836; obtain ⟨g6765, h6836⟩ := h6836
         replace h6836 := getI_some h6836; obtain ⟨x6767, h6766, h6836⟩ := h6836
         replace h6836 := grd_some h6836; obtain ⟨g6768, h6836⟩ := h6836
         replace h6836 := grd_some h6836; obtain ⟨g6769, h6836⟩ := h6836
         refine W_sound tab_ok mixed 36 _ _ _ ?_
         simp -implicitDefEqProofs only [go_sem, Nat.reduceBEq, Nat.reduceAdd, Nat.reduceLT, Nat.reduceLeDiff, Int.reduceLE, Int.reduceToNat, ↓reduceIte, g6753, g6754, g6755, h6756, g6758, g6759, g6760, h6761, g6764, g6765, h6766, g6768, g6769]
         repeat with_reducible refine And.intro (by first | kernel_rfl | decide) ?_
         refine cutQ _ ?_ ⟨n, Nat.lt_succ_self n, _, _, _, h6836, rfl⟩
         exact Wk_keep [0, 1, 5, 6, 7, 8, 9] (by kernel_rfl)
        ·refine W_sound tab_ok mixed 10 _ _ _ ?_
         simp -implicitDefEqProofs only [go_sem, Nat.reduceBEq, Nat.reduceLT, ↓reduceIte, h6752]
         repeat with_reducible refine And.intro (by first | kernel_rfl | decide) ?_
         obtain rfl := Option.some.inj h6836
         refine cutQ _ ?_ ⟨_, _, rfl, rfl⟩
         exact Wk_keep [0, 1, 5, 6, 7, 8] (by kernel_rfl)
      ·rintro _ ⟨n6770, c6771, rfl, rfl⟩
       (try dsimp only at h6837)
       refine W_sound tab_ok mixed 1 _ _ _ ?_
       simp -implicitDefEqProofs only [go_sem]
       repeat with_reducible refine And.intro (by first | kernel_rfl | decide) ?_
       replace h6837 := grd_some h6837; obtain ⟨g6772, h6837⟩ := h6837
       refine Wp_wkK (Wk_freeze 1 c6771 (by rfl) (by decide) (by decide)) rfl ?_
       simp -implicitDefEqProofs only [go_sem, Nat.reduceBEq, g6772]
       replace h6837 := grd_some h6837; obtain ⟨⟨g6773, g6774⟩, h6837⟩ := h6837
       replace h6837 := grd_some h6837; obtain ⟨g6775, h6837⟩ := h6837
       replace h6837 := bnd'_some h6837; obtain ⟨p6776, h6777, h6837⟩ := h6837
       refine W_sound tab_ok mixed 4 _ _ _ ?_
       simp -implicitDefEqProofs only [go_sem, Nat.reduceBEq, Nat.reduceLT, Int.reduceLE, Int.reduceToNat, g6773, g6775]
       repeat with_reducible refine And.intro (by first | kernel_rfl | decide) ?_
       refine Wp_callP (ih _ _ _ h6777) (by kernel_rfl) rfl rfl rfl rfl (by decide) ?_
       replace h6837 := getL_some h6837; obtain ⟨n6779, c6780, h6778, h6837⟩ := h6837
       refine W_sound tab_ok mixed 6 _ _ _ ?_
       simp -implicitDefEqProofs only [go_sem, Nat.reduceBEq, Nat.reduceLT, h6778]
       repeat with_reducible refine And.intro (by first | kernel_rfl | decide) ?_
       replace h6837 := bnd'_some h6837; obtain ⟨o6838, h6839, h6840⟩ := h6837
       refine Wp_cut (fun s => ∃ n6827, ∃ c6828, (n6827, c6828) = o6838 ∧ s = ⟨[], [(0, .v (.lst false n6279 c6280)), (1, .v (.lst false n6282 c6283)), (4, .dead), (5, .sl false 0 0 n6827 1), (6, .v (.lst false n6467 c6468)), (7, .v (.int .i64 x6712)), (8, .dead), (9, .dead), (10, .dead), (11, .dead), (14, .dead), (25, .dead), (31, .dead), (56, .dead)], [(0, .p c6828)], 1, []⟩) ?_ ?_
       ·refine Wp_block ?_
        refine Wp_loopG (fun n s => ∃ n6803, ∃ x6804, ∃ c6805, m74_L2 N (m74 N fu) n6279 c6280 n6282 c6283 n6467 c6468 x6712 n6779 c6780 n n6803 x6804 c6805 = some o6838 ∧ s = ⟨[], [(0, .v (.lst false n6279 c6280)), (1, .v (.lst false n6282 c6283)), (4, .dead), (5, .sl false 0 0 n6803 1), (6, .v (.lst false n6467 c6468)), (7, .v (.int .i64 x6712)), (8, .dead), (9, .dead), (10, .v (.lst false n6779 c6780)), (11, .v (.int .i64 x6804)), (14, .dead), (25, .dead), (31, .dead), (56, .dead)], [(0, .p c6805)], 1, []⟩) N _ ?_ ⟨_, _, _, h6839, rfl⟩ ?_
        ·exact Wk_keep [0, 1, 5, 6, 7, 10, 11] (by kernel_rfl)
        clear h6839
        rintro n _ ⟨n6803, x6804, c6805, h6839, rfl⟩
        cases n with
        | zero => cases h6839
        | succ n =>
         rw [m74_L2] at h6839
         replace h6839 := brn_some h6839; rcases h6839 with ⟨h6806, h6839⟩ | ⟨h6806, h6839⟩
         ·replace h6839 := grd_some h6839; obtain ⟨⟨g6807, g6808⟩, h6839⟩ := h6839
          replace h6839 := grd_some h6839; obtain ⟨g6809, h6839⟩ := h6839
          replace h6839 := getL_some h6839; obtain ⟨n6811, c6812, h6810, h6839⟩ := h6839
          replace h6839 := grd_some h6839; obtain ⟨⟨g6813, g6814⟩, h6839⟩ := h6839
          replace h6839 := grd_some h6839; obtain ⟨g6815, h6839⟩ := h6839
          replace h6839 := getL_some h6839; obtain ⟨n6817, c6818, h6816, h6839⟩ := h6839
          replace h6839 := grd_some h6839; obtain ⟨g6819, h6839⟩ := h6839
          replace h6839 := brn_some h6839; rcases h6839 with ⟨h6820, h6839⟩ | ⟨h6820, h6839⟩
          ·replace h6839 := grd_some h6839; obtain ⟨g6821, h6839⟩ := h6839
           replace h6839 := grd_some h6839; obtain ⟨g6822, h6839⟩ := h6839
           replace h6839 := grd_some h6839; obtain ⟨g6823, h6839⟩ := h6839
           refine W_sound tab_ok mixed 28 _ _ _ ?_
           simp -implicitDefEqProofs only [go_sem, Nat.reduceBEq, Nat.reduceAdd, Nat.reduceLT, Nat.reduceLeDiff, ↓reduceIte, g6807, g6808, g6809, h6810, g6813, g6814, g6815, h6816, g6819, h6820, g6821, g6822, g6823]
           repeat with_reducible refine And.intro (by first | kernel_rfl | decide) ?_
           refine Wp_wkK (Wk_freeze 70 ([(.lst false n6811 c6812)] ++ c6818) (by rfl) (by decide) (by decide)) rfl ?_
           simp -implicitDefEqProofs only [go_sem, Nat.reduceBEq, g6819]
           refine W_sound tab_ok mixed 6 _ _ _ ?_
           simp -implicitDefEqProofs only [go_sem, Nat.reduceBEq, Nat.reduceLT, Int.reduceLE, Int.reduceToNat, ↓reduceIte]
           repeat with_reducible refine And.intro (by first | kernel_rfl | decide) ?_
           refine cutQ _ ?_ ⟨n, Nat.lt_succ_self n, _, _, _, h6839, rfl⟩
           exact Wk_keep [0, 1, 5, 6, 7, 10, 11] (by kernel_rfl)
          ·replace h6839 := grd_some h6839; obtain ⟨g6824, h6839⟩ := h6839
           replace h6839 := grd_some h6839; obtain ⟨g6825, h6839⟩ := h6839
           replace h6839 := grd_some h6839; obtain ⟨g6826, h6839⟩ := h6839
           refine W_sound tab_ok mixed 28 _ _ _ ?_
           simp -implicitDefEqProofs only [go_sem, Nat.reduceBEq, Nat.reduceAdd, Nat.reduceLT, Nat.reduceLeDiff, ↓reduceIte, g6807, g6808, g6809, h6810, g6813, g6814, g6815, h6816, g6819, h6820, g6824, g6825, g6826]
           repeat with_reducible refine And.intro (by first | kernel_rfl | decide) ?_
           refine Wp_wkK (Wk_freeze 70 ([(.lst false n6811 c6812)] ++ c6818) (by rfl) (by decide) (by decide)) rfl ?_
           simp -implicitDefEqProofs only [go_sem, Nat.reduceBEq, g6819]
           refine W_sound tab_ok mixed 6 _ _ _ ?_
           simp -implicitDefEqProofs only [go_sem, Nat.reduceBEq, Nat.reduceLT, Int.reduceLE, Int.reduceToNat, ↓reduceIte]
           repeat with_reducible refine And.intro (by first | kernel_rfl | decide) ?_
           refine cutQ _ ?_ ⟨n, Nat.lt_succ_self n, _, _, _, h6839, rfl⟩
           exact Wk_keep [0, 1, 5, 6, 7, 10, 11] (by kernel_rfl)
         ·refine W_sound tab_ok mixed 10 _ _ _ ?_
          simp -implicitDefEqProofs only [go_sem, Nat.reduceBEq, Nat.reduceLT, ↓reduceIte, h6806]
          repeat with_reducible refine And.intro (by first | kernel_rfl | decide) ?_
          obtain rfl := Option.some.inj h6839
          refine cutQ _ ?_ ⟨_, _, rfl, rfl⟩
          exact Wk_keep [0, 1, 5, 6, 7] (by kernel_rfl)
       ·rintro _ ⟨n6827, c6828, rfl, rfl⟩
        (try dsimp only at h6840)
        refine W_sound tab_ok mixed 6 _ _ _ ?_
        simp -implicitDefEqProofs only [go_sem, Nat.reduceBEq, Nat.reduceLT, Int.reduceLE, Int.reduceToNat, ↓reduceIte]
        repeat with_reducible refine And.intro (by first | kernel_rfl | decide) ?_
        refine cutQ _ ?_ ⟨n, Nat.lt_succ_self n, _, _, _, h6840, rfl⟩
        exact Wk_keep [0, 1, 5, 6, 7] (by kernel_rfl)
     ·refine W_sound tab_ok mixed 10 _ _ _ ?_
      simp -implicitDefEqProofs only [go_sem, Nat.reduceBEq, Nat.reduceLT, ↓reduceIte, h6714]
      repeat with_reducible refine And.intro (by first | kernel_rfl | decide) ?_
      obtain rfl := Option.some.inj h6833
      refine cutQ _ ?_ ⟨_, _, rfl, rfl⟩
      exact Wk_keep [5] (by kernel_rfl)
   ·rintro _ ⟨n6829, c6830, rfl, rfl⟩
    (try dsimp only at h6834)
    refine W_sound tab_ok mixed 7 _ _ _ ?_
    simp -implicitDefEqProofs only [go_sem, Nat.reduceBEq, Nat.reduceLT]
    repeat with_reducible refine And.intro (by first | kernel_rfl | decide) ?_
    replace h6834 := grd_some h6834; obtain ⟨g6831, h6834⟩ := h6834
    refine FinQ_wk (Wk_freeze 0 c6830 (by rfl) (by decide) (by decide)) ?_
    simp -implicitDefEqProofs only [go_sem, Nat.reduceBEq, g6831]
    obtain rfl := Option.some.inj h6834
    exact finC [(4, .v (.lst false n6829 c6830))] [(4, .v (.lst false n6829 c6830))] (by simp [leE, lk_cons]) (.cons _ _ _ _ _ (.v _ _ (.refl _)) .nil) (by rfl) (by simp [leE, lk_cons]) (by decide) (by decide) rfl (by simp only [go_sem, Nat.reduceBEq, resQ_tmp, resQ_nil, retD_one]; (try simp [R.val, retD_one, retD_two, retD_three, retD_none]); try assumption)
noncomputable def m28_L0 (N : Nat) (n6260 : Nat) (c6261 : List PV) (n6844 : Nat) (c6845 : List PV) : Nat → PV → Int → Option (PV)
 | 0, _, _ => none
 | n + 1, p6868, x6869 =>
  getL p6868 fun n6871 c6872 =>
  brn (decide (x6869 < ((n6844 : Nat) : Int))) (
   grd (0 ≤ x6869 ∧ x6869 < ((n6844 : Nat) : Int)) <|
   grd (0 < List.length (List.drop (Int.toNat x6869) c6845)) <|
   getL (gp c6845 (Int.toNat x6869)) fun n6878 c6879 =>
   bnd' (m71 N (.lst false n6260 c6261) (.lst false n6878 c6879)) fun p6880 =>
   getI .i64 p6880 fun x6883 =>
   bnd' (m71 N (.lst false n6260 c6261) (.lst false n6871 c6872)) fun p6884 =>
   getI .i64 p6884 fun x6887 =>
   brn (decide (x6883 < x6887)) (
    m28_L0 N n6260 c6261 n6844 c6845 n (.lst false n6878 c6879) (IntKind.i64.wrap (x6869 + 1))) (
    m28_L0 N n6260 c6261 n6844 c6845 n (.lst false n6871 c6872) (IntKind.i64.wrap (x6869 + 1)))) (
   some (.lst false n6871 c6872))
noncomputable def m28 (N : Nat) (p6257 : PV) (p6258 : PV) : Option (PV) :=
 getL p6257 fun n6260 c6261 =>
 getA2 p6258 fun p6263 p6264 =>
 bnd' (m26 N (.lst false n6260 c6261) (.agg [p6263, p6264])) fun p6265 =>
 getI .i64 p6265 fun x6268 =>
 brn (x6268 != 0) (
  some (.tup [(.lst false 0 []), (.int .i64 x6268)])) (
  getL p6263 fun n6271 c6272 =>
  getL p6264 fun n6274 c6275 =>
  bnd' (m74 N N (.lst false n6271 c6272) (.lst false n6274 c6275)) fun p6841 =>
  getL p6841 fun n6844 c6845 =>
  grd (0 < ((n6844 : Nat) : Int)) <|
  grd (0 < List.length c6845) <|
  getL (gp c6845 0) fun n6849 c6850 =>
  bnd' (m28_L0 N n6260 c6261 n6844 c6845 N (.lst false n6849 c6850) 1) fun p6889 =>
  getL p6889 fun n6891 c6892 =>
  some (.tup [(.lst false n6891 c6892), (.int .i64 0)]))
theorem c28 (N : Nat) (p6257 : PV) (p6258 : PV) (r : PV)  (h : m28 N p6257 p6258 = some r) : FnP Try.prog 28 [p6257, p6258] r := by
 unfold m28 at h
 refine Fn_of (sz := 45) tab_ok [0, 1, 3, 4, 5, 6, 7, 8, 9, 14, 27, 39] [.tmp 4, .tmp 5] Try.func28 rfl rfl rfl (by simp) ?_
 simp only [initSt, initEnv, List.map_cons, List.map_nil, List.getD_cons_zero, List.getD_cons_succ, List.getD_nil]
 replace h := getL_some h; obtain ⟨n6260, c6261, h6259, h⟩ := h
 replace h := getA2_some h; obtain ⟨p6263, p6264, h6262, h⟩ := h
 replace h := bnd'_some h; obtain ⟨p6265, h6266, h⟩ := h
 refine W_sound tab_ok mixed 10 _ _ _ ?_
 simp -implicitDefEqProofs only [go_sem, Nat.reduceBEq, Nat.reduceAdd, Nat.reduceLT, Nat.reduceLeDiff, h6259, h6262]
 repeat with_reducible refine And.intro (by first | kernel_rfl | decide) ?_
 refine Wp_callP (c26 N _ _ _ h6266) (by kernel_rfl) rfl rfl rfl rfl (by decide) ?_
 replace h := getI_some h; obtain ⟨x6268, h6267, h⟩ := h
 replace h := brn_some h; rcases h with ⟨h6269, h⟩ | ⟨h6269, h⟩
 ·refine W_sound tab_ok mixed 17 _ _ _ ?_
  simp -implicitDefEqProofs only [go_sem, Nat.reduceBEq, Nat.reduceLT, ↓reduceIte, h6267, h6269]
  repeat with_reducible refine And.intro (by first | kernel_rfl | decide) ?_
  obtain rfl := Option.some.inj h
  exact finC [(4, .v .nl), (5, .v (.int .i64 x6268))] [(4, .v (.lst false 0 [])), (5, .v (.int .i64 x6268))] (by simp [leE, lk_cons]) (.cons _ _ _ _ _ (.v _ _ (.nl false)) (.cons _ _ _ _ _ (.v _ _ (.refl _)) .nil)) (by rfl) (by simp [leE, lk_cons]) (by decide) (by decide) rfl (by simp only [go_sem, Nat.reduceBEq, resQ_tmp, resQ_nil, retD_two]; (try simp [R.val, retD_one, retD_two, retD_three, retD_none]); try assumption)
 ·replace h := getL_some h; obtain ⟨n6271, c6272, h6270, h⟩ := h
  replace h := getL_some h; obtain ⟨n6274, c6275, h6273, h⟩ := h
  replace h := bnd'_some h; obtain ⟨p6841, h6842, h⟩ := h
  refine W_sound tab_ok mixed 16 _ _ _ ?_
  simp -implicitDefEqProofs only [go_sem, Nat.reduceBEq, Nat.reduceAdd, Nat.reduceLT, Nat.reduceLeDiff, ↓reduceIte, h6267, h6269, h6270, h6273]
  repeat with_reducible refine And.intro (by first | kernel_rfl | decide) ?_
  refine Wp_callP (c74 N N _ _ _ h6842) (by kernel_rfl) rfl rfl rfl rfl (by decide) ?_
  replace h := getL_some h; obtain ⟨n6844, c6845, h6843, h⟩ := h
  replace h := grd_some h; obtain ⟨g6846, h⟩ := h
  replace h := grd_some h; obtain ⟨g6847, h⟩ := h
  replace h := getL_some h; obtain ⟨n6849, c6850, h6848, h⟩ := h
  refine W_sound tab_ok mixed 14 _ _ _ ?_
  simp -implicitDefEqProofs only [go_sem, Nat.reduceBEq, Nat.reduceLT, h6843, g6846, g6847, h6848]
  repeat with_reducible refine And.intro (by first | kernel_rfl | decide) ?_
  replace h := bnd'_some h; obtain ⟨o6893, h6894, h6895⟩ := h
  refine Wp_cut (fun s => ∃ p6889, p6889 = o6893 ∧ s = ⟨[], [(0, .dead), (1, .dead), (3, .dead), (4, .dead), (5, .dead), (6, .dead), (7, .dead), (8, .v p6889), (9, .dead), (14, .dead), (27, .dead), (39, .dead)], [], 0, []⟩) ?_ ?_
  ·refine Wp_block ?_
   refine Wp_loopG (fun n s => ∃ p6868, ∃ x6869, m28_L0 N n6260 c6261 n6844 c6845 n p6868 x6869 = some o6893 ∧ s = ⟨[], [(0, .v (.lst false n6260 c6261)), (1, .dead), (3, .dead), (4, .dead), (5, .dead), (6, .dead), (7, .v (.lst false n6844 c6845)), (8, .v p6868), (9, .v (.int .i64 x6869)), (14, .dead), (27, .dead), (39, .dead)], [], 0, []⟩) N _ ?_ ⟨_, _, h6894, rfl⟩ ?_
   ·exact Wk_keep [0, 7, 8, 9] (by kernel_rfl)
   clear h6894
   rintro n _ ⟨p6868, x6869, h6894, rfl⟩
   cases n with
   | zero => cases h6894
   | succ n =>
    rw [m28_L0] at h6894
    replace h6894 := getL_some h6894; obtain ⟨n6871, c6872, h6870, h6894⟩ := h6894
    replace h6894 := brn_some h6894; rcases h6894 with ⟨h6873, h6894⟩ | ⟨h6873, h6894⟩
    ·replace h6894 := grd_some h6894; obtain ⟨⟨g6874, g6875⟩, h6894⟩ := h6894
     replace h6894 := grd_some h6894; obtain ⟨g6876, h6894⟩ := h6894
     replace h6894 := getL_some h6894; obtain ⟨n6878, c6879, h6877, h6894⟩ := h6894
     replace h6894 := bnd'_some h6894; obtain ⟨p6880, h6881, h6894⟩ := h6894
     refine W_sound tab_ok mixed 19 _ _ _ ?_
     simp -implicitDefEqProofs only [go_sem, Nat.reduceBEq, Nat.reduceLT, ↓reduceIte, h6870, g6874, g6875, g6876, h6877]
     repeat with_reducible refine And.intro (by first | kernel_rfl | decide) ?_
     refine Wp_callP (c71 N _ _ _ h6881) (by kernel_rfl) rfl rfl rfl rfl (by decide) ?_
     replace h6894 := getI_some h6894; obtain ⟨x6883, h6882, h6894⟩ := h6894
     replace h6894 := bnd'_some h6894; obtain ⟨p6884, h6885, h6894⟩ := h6894
     refine W_sound tab_ok mixed 2 _ _ _ ?_
     simp -implicitDefEqProofs only [go_sem, Nat.reduceBEq, Nat.reduceLT, h6882]
     repeat with_reducible refine And.intro (by first | kernel_rfl | decide) ?_
     refine Wp_callP (c71 N _ _ _ h6885) (by kernel_rfl) rfl rfl rfl rfl (by decide) ?_
     replace h6894 := getI_some h6894; obtain ⟨x6887, h6886, h6894⟩ := h6894
     replace h6894 := brn_some h6894; rcases h6894 with ⟨h6888, h6894⟩ | ⟨h6888, h6894⟩
     ·refine W_sound tab_ok mixed 16 _ _ _ ?_
      simp -implicitDefEqProofs only [go_sem, Nat.reduceBEq, Nat.reduceLT, Int.reduceLE, Int.reduceToNat, ↓reduceIte, g6874, g6875, g6876, h6877, h6886, h6888]
      repeat with_reducible refine And.intro (by first | kernel_rfl | decide) ?_
      refine cutQ _ ?_ ⟨n, Nat.lt_succ_self n, _, _, h6894, rfl⟩
      exact Wk_keep [0, 7, 8, 9] (by kernel_rfl)
     ·refine W_sound tab_ok mixed 10 _ _ _ ?_
      simp -implicitDefEqProofs only [go_sem, Nat.reduceBEq, Nat.reduceLT, Int.reduceLE, Int.reduceToNat, ↓reduceIte, h6886, h6888]
      repeat with_reducible refine And.intro (by first | kernel_rfl | decide) ?_
      refine cutQ _ ?_ ⟨n, Nat.lt_succ_self n, _, _, h6894, rfl⟩
      exact Wk_keep [0, 7, 8, 9] (by kernel_rfl)
    ·refine W_sound tab_ok mixed 10 _ _ _ ?_
     simp -implicitDefEqProofs only [go_sem, Nat.reduceBEq, Nat.reduceLT, ↓reduceIte, h6870, h6873]
     repeat with_reducible refine And.intro (by first | kernel_rfl | decide) ?_
     obtain rfl := Option.some.inj h6894
     refine cutQ _ ?_ ⟨_, rfl, rfl⟩
     exact Wk_keep [8] (by kernel_rfl)
  ·rintro _ ⟨p6889, rfl, rfl⟩
   replace h6895 := getL_some h6895; obtain ⟨n6891, c6892, h6890, h6895⟩ := h6895
   refine W_sound tab_ok mixed 8 _ _ _ ?_
   simp -implicitDefEqProofs only [go_sem, Nat.reduceBEq, Nat.reduceLT, h6890]
   repeat with_reducible refine And.intro (by first | kernel_rfl | decide) ?_
   obtain rfl := Option.some.inj h6895
   exact finC [(4, .v (.lst false n6891 c6892)), (5, .v (.int .i64 0))] [(4, .v (.lst false n6891 c6892)), (5, .v (.int .i64 0))] (by simp [leE, lk_cons]) (.cons _ _ _ _ _ (.v _ _ (.refl _)) (.cons _ _ _ _ _ (.v _ _ (.refl _)) .nil)) (by rfl) (by simp [leE, lk_cons]) (by decide) (by decide) rfl (by simp only [go_sem, Nat.reduceBEq, resQ_tmp, resQ_nil, retD_two]; (try simp [R.val, retD_one, retD_two, retD_three, retD_none]); try assumption)
noncomputable def m30 (N : Nat) (p6896 : PV) (p6897 : PV) : Option (PV) :=
 getL p6896 fun n6899 c6900 =>
 getA2 p6897 fun p6902 p6903 =>
 bnd' (m26 N (.lst false n6899 c6900) (.agg [p6902, p6903])) fun p6904 =>
 getI .i64 p6904 fun x6907 =>
 brn (x6907 != 0) (
  some (.tup [(.int .i64 0), (.int .i64 x6907)])) (
  getL p6902 fun n6910 c6911 =>
  getL p6903 fun n6913 c6914 =>
  bnd' (m74 N N (.lst false n6910 c6911) (.lst false n6913 c6914)) fun p6915 =>
  getL p6915 fun n6918 c6919 =>
  some (.tup [(.int .i64 ((n6918 : Nat) : Int)), (.int .i64 0)]))
theorem c30 (N : Nat) (p6896 : PV) (p6897 : PV) (r : PV)  (h : m30 N p6896 p6897 = some r) : FnP Try.prog 30 [p6896, p6897] r := by
 unfold m30 at h
 refine Fn_of (sz := 19) tab_ok [0, 1, 3, 4, 5, 6, 11] [.tmp 4, .tmp 5] Try.func30 rfl rfl rfl (by simp) ?_
 simp only [initSt, initEnv, List.map_cons, List.map_nil, List.getD_cons_zero, List.getD_cons_succ, List.getD_nil]
 replace h := getL_some h; obtain ⟨n6899, c6900, h6898, h⟩ := h
 replace h := getA2_some h; obtain ⟨p6902, p6903, h6901, h⟩ := h
 replace h := bnd'_some h; obtain ⟨p6904, h6905, h⟩ := h
 refine W_sound tab_ok mixed 10 _ _ _ ?_
 simp -implicitDefEqProofs only [go_sem, Nat.reduceBEq, Nat.reduceAdd, Nat.reduceLT, Nat.reduceLeDiff, h6898, h6901]
 repeat with_reducible refine And.intro (by first | kernel_rfl | decide) ?_
 refine Wp_callP (c26 N _ _ _ h6905) (by kernel_rfl) rfl rfl rfl rfl (by decide) ?_
 replace h := getI_some h; obtain ⟨x6907, h6906, h⟩ := h
 replace h := brn_some h; rcases h with ⟨h6908, h⟩ | ⟨h6908, h⟩
 ·refine W_sound tab_ok mixed 17 _ _ _ ?_
  simp -implicitDefEqProofs only [go_sem, Nat.reduceBEq, Nat.reduceLT, ↓reduceIte, h6906, h6908]
  repeat with_reducible refine And.intro (by first | kernel_rfl | decide) ?_
  obtain rfl := Option.some.inj h
  exact finC [(4, .v (.int .i64 0)), (5, .v (.int .i64 x6907))] [(4, .v (.int .i64 0)), (5, .v (.int .i64 x6907))] (by simp [leE, lk_cons]) (.cons _ _ _ _ _ (.v _ _ (.refl _)) (.cons _ _ _ _ _ (.v _ _ (.refl _)) .nil)) (by rfl) (by simp [leE, lk_cons]) (by decide) (by decide) rfl (by simp only [go_sem, Nat.reduceBEq, resQ_tmp, resQ_nil, retD_two]; (try simp [R.val, retD_one, retD_two, retD_three, retD_none]); try assumption)
 ·replace h := getL_some h; obtain ⟨n6910, c6911, h6909, h⟩ := h
  replace h := getL_some h; obtain ⟨n6913, c6914, h6912, h⟩ := h
  replace h := bnd'_some h; obtain ⟨p6915, h6916, h⟩ := h
  refine W_sound tab_ok mixed 16 _ _ _ ?_
  simp -implicitDefEqProofs only [go_sem, Nat.reduceBEq, Nat.reduceAdd, Nat.reduceLT, Nat.reduceLeDiff, ↓reduceIte, h6906, h6908, h6909, h6912]
  repeat with_reducible refine And.intro (by first | kernel_rfl | decide) ?_
  refine Wp_callP (c74 N N _ _ _ h6916) (by kernel_rfl) rfl rfl rfl rfl (by decide) ?_
  replace h := getL_some h; obtain ⟨n6918, c6919, h6917, h⟩ := h
  refine W_sound tab_ok mixed 6 _ _ _ ?_
  simp -implicitDefEqProofs only [go_sem, Nat.reduceBEq, Nat.reduceLT, h6917]
  repeat with_reducible refine And.intro (by first | kernel_rfl | decide) ?_
  obtain rfl := Option.some.inj h
  exact finC [(4, .v (.int .i64 ((n6918 : Nat) : Int))), (5, .v (.int .i64 0))] [(4, .v (.int .i64 ((n6918 : Nat) : Int))), (5, .v (.int .i64 0))] (by simp [leE, lk_cons]) (.cons _ _ _ _ _ (.v _ _ (.refl _)) (.cons _ _ _ _ _ (.v _ _ (.refl _)) .nil)) (by rfl) (by simp [leE, lk_cons]) (by decide) (by decide) rfl (by simp only [go_sem, Nat.reduceBEq, resQ_tmp, resQ_nil, retD_two]; (try simp [R.val, retD_one, retD_two, retD_three, retD_none]); try assumption)
noncomputable def m4 (N : Nat) (p6920 : PV) (p6921 : PV) : Option (PV) :=
 getL p6920 fun n6923 c6924 =>
 getA2 p6921 fun p6926 p6927 =>
 bnd' (m15 N (.lst false n6923 c6924)) fun p6928 =>
 getB p6928 fun b6931 =>
 brn b6931 (
  bnd' (m17 N ) fun p6933 =>
  getB p6933 fun b6936 =>
  some (.bool b6936)) (
  bnd' (m16 N (.agg [p6926, p6927])) fun p6937 =>
  getB p6937 fun b6940 =>
  brn b6940 (
   bnd' (m17 N ) fun p6942 =>
   getB p6942 fun b6945 =>
   some (.bool b6945)) (
   bnd' (m27 N (.lst false n6923 c6924) (.agg [p6926, p6927])) fun p6946 =>
   getT2 p6946 fun p6949 p6950 =>
   getL p6949 fun n6952 c6953 =>
   getI .i64 p6950 fun x6955 =>
   bnd' (m28 N (.lst false n6923 c6924) (.agg [p6926, p6927])) fun p6956 =>
   getT2 p6956 fun p6959 p6960 =>
   getL p6959 fun n6962 c6963 =>
   getI .i64 p6960 fun x6965 =>
   bnd' (m29 N (.lst false n6923 c6924) (.agg [p6926, p6927])) fun p6966 =>
   getT2 p6966 fun p6969 p6970 =>
   getI .i64 p6969 fun x6972 =>
   getI .i64 p6970 fun x6974 =>
   bnd' (m30 N (.lst false n6923 c6924) (.agg [p6926, p6927])) fun p6975 =>
   getT2 p6975 fun p6978 p6979 =>
   getI .i64 p6978 fun x6981 =>
   getI .i64 p6979 fun x6983 =>
   bnd' (m22 N (.lst false n6952 c6953) (.lst false n6962 c6963)) fun p6984 =>
   getB p6984 fun b6987 =>
   brn b6987 (
    brn (x6955 == x6965) (
     brn (x6972 == x6981) (
      brn (x6974 == x6983) (
       bnd' (m17 N ) fun p6992 =>
       getB p6992 fun b6995 =>
       some (.bool b6995)) (
       some (.bool false))) (
      some (.bool false))) (
     some (.bool false))) (
    some (.bool false))))
theorem c4 (N : Nat) (p6920 : PV) (p6921 : PV) (r : PV)  (h : m4 N p6920 p6921 = some r) : FnP Try.prog 4 [p6920, p6921] r := by
 unfold m4 at h
 refine Fn_of (sz := 67) tab_ok [0, 1, 3, 4, 5, 6, 7, 8, 9, 10, 11, 12, 13, 19] [.tmp 4] Try.func4 rfl rfl rfl (by simp) ?_
 simp only [initSt, initEnv, List.map_cons, List.map_nil, List.getD_cons_zero, List.getD_cons_succ, List.getD_nil]
 replace h := getL_some h; obtain ⟨n6923, c6924, h6922, h⟩ := h
 replace h := getA2_some h; obtain ⟨p6926, p6927, h6925, h⟩ := h
 replace h := bnd'_some h; obtain ⟨p6928, h6929, h⟩ := h
 refine W_sound tab_ok mixed 9 _ _ _ ?_
 simp -implicitDefEqProofs only [go_sem, Nat.reduceBEq, Nat.reduceAdd, Nat.reduceLT, Nat.reduceLeDiff, h6922, h6925]
 repeat with_reducible refine And.intro (by first | kernel_rfl | decide) ?_
 refine Wp_callP (c15 N _ _ h6929) (by kernel_rfl) rfl rfl rfl rfl (by decide) ?_
 replace h := getB_some h; obtain ⟨b6931, h6930, h⟩ := h
 replace h := brn_some h; rcases h with ⟨h6932, h⟩ | ⟨h6932, h⟩
 ·replace h := bnd'_some h; obtain ⟨p6933, h6934, h⟩ := h
  refine W_sound tab_ok mixed 8 _ _ _ ?_
  simp -implicitDefEqProofs only [go_sem, Nat.reduceBEq, Nat.reduceLT, h6930, h6932]
  repeat with_reducible refine And.intro (by first | kernel_rfl | decide) ?_
  refine Wp_callP (c17 N  _ h6934) (by kernel_rfl) rfl rfl rfl rfl (by decide) ?_
  replace h := getB_some h; obtain ⟨b6936, h6935, h⟩ := h
  refine W_sound tab_ok mixed 4 _ _ _ ?_
  simp -implicitDefEqProofs only [go_sem, Nat.reduceBEq, Nat.reduceLT, h6935]
  repeat with_reducible refine And.intro (by first | kernel_rfl | decide) ?_
  obtain rfl := Option.some.inj h
  exact finC [(4, .v (.bool b6936))] [(4, .v (.bool b6936))] (by simp [leE, lk_cons]) (.cons _ _ _ _ _ (.v _ _ (.refl _)) .nil) (by rfl) (by simp [leE, lk_cons]) (by decide) (by decide) rfl (by simp only [go_sem, Nat.reduceBEq, resQ_tmp, resQ_nil, retD_one]; (try simp [R.val, retD_one, retD_two, retD_three, retD_none]); try assumption)
 ·replace h := bnd'_some h; obtain ⟨p6937, h6938, h⟩ := h
  refine W_sound tab_ok mixed 2 _ _ _ ?_
  simp -implicitDefEqProofs only [go_sem, Nat.reduceBEq, Nat.reduceAdd, Nat.reduceLT, h6930, h6932]
  repeat with_reducible refine And.intro (by first | kernel_rfl | decide) ?_
  refine Wp_callP (c16 N _ _ h6938) (by kernel_rfl) rfl rfl rfl rfl (by decide) ?_
  replace h := getB_some h; obtain ⟨b6940, h6939, h⟩ := h
  replace h := brn_some h; rcases h with ⟨h6941, h⟩ | ⟨h6941, h⟩
  ·replace h := bnd'_some h; obtain ⟨p6942, h6943, h⟩ := h
   refine W_sound tab_ok mixed 5 _ _ _ ?_
   simp -implicitDefEqProofs only [go_sem, Nat.reduceBEq, Nat.reduceLT, h6939, h6941]
   repeat with_reducible refine And.intro (by first | kernel_rfl | decide) ?_
   refine Wp_callP (c17 N  _ h6943) (by kernel_rfl) rfl rfl rfl rfl (by decide) ?_
   replace h := getB_some h; obtain ⟨b6945, h6944, h⟩ := h
   refine W_sound tab_ok mixed 4 _ _ _ ?_
   simp -implicitDefEqProofs only [go_sem, Nat.reduceBEq, Nat.reduceLT, h6944]
   repeat with_reducible refine And.intro (by first | kernel_rfl | decide) ?_
   obtain rfl := Option.some.inj h
   exact finC [(4, .v (.bool b6945))] [(4, .v (.bool b6945))] (by simp [leE, lk_cons]) (.cons _ _ _ _ _ (.v _ _ (.refl _)) .nil) (by rfl) (by simp [leE, lk_cons]) (by decide) (by decide) rfl (by simp only [go_sem, Nat.reduceBEq, resQ_tmp, resQ_nil, retD_one]; (try simp [R.val, retD_one, retD_two, retD_three, retD_none]); try assumption)
  ·replace h := bnd'_some h; obtain ⟨p6946, h6947, h⟩ := h
   refine W_sound tab_ok mixed 14 _ _ _ ?_
   simp -implicitDefEqProofs only [go_sem, Nat.reduceBEq, Nat.reduceAdd, Nat.reduceLT, Nat.reduceLeDiff, h6939, h6941]
   repeat with_reducible refine And.intro (by first | kernel_rfl | decide) ?_
   refine Wp_callP (c27 N _ _ _ h6947) (by kernel_rfl) rfl rfl rfl rfl (by decide) ?_
   replace h := getT2_some h; obtain ⟨p6949, p6950, h6948, h⟩ := h
   replace h := getL_some h; obtain ⟨n6952, c6953, h6951, h⟩ := h
   replace h := getI_some h; obtain ⟨x6955, h6954, h⟩ := h
   replace h := bnd'_some h; obtain ⟨p6956, h6957, h⟩ := h
   refine W_sound tab_ok mixed 10 _ _ _ ?_
   simp -implicitDefEqProofs only [go_sem, Nat.reduceBEq, Nat.reduceAdd, Nat.reduceLT, h6948, h6951, h6954]
   repeat with_reducible refine And.intro (by first | kernel_rfl | decide) ?_
   refine Wp_callP (c28 N _ _ _ h6957) (by kernel_rfl) rfl rfl rfl rfl (by decide) ?_
   replace h := getT2_some h; obtain ⟨p6959, p6960, h6958, h⟩ := h
   replace h := getL_some h; obtain ⟨n6962, c6963, h6961, h⟩ := h
   replace h := getI_some h; obtain ⟨x6965, h6964, h⟩ := h
   replace h := bnd'_some h; obtain ⟨p6966, h6967, h⟩ := h
   refine W_sound tab_ok mixed 10 _ _ _ ?_
   simp -implicitDefEqProofs only [go_sem, Nat.reduceBEq, Nat.reduceAdd, Nat.reduceLT, h6958, h6961, h6964]
   repeat with_reducible refine And.intro (by first | kernel_rfl | decide) ?_
   refine Wp_callP (c29 N _ _ _ h6967) (by kernel_rfl) rfl rfl rfl rfl (by decide) ?_
   replace h := getT2_some h; obtain ⟨p6969, p6970, h6968, h⟩ := h
   replace h := getI_some h; obtain ⟨x6972, h6971, h⟩ := h
   replace h := getI_some h; obtain ⟨x6974, h6973, h⟩ := h
   replace h := bnd'_some h; obtain ⟨p6975, h6976, h⟩ := h
   refine W_sound tab_ok mixed 10 _ _ _ ?_
   simp -implicitDefEqProofs only [go_sem, Nat.reduceBEq, Nat.reduceAdd, Nat.reduceLT, h6968, h6971, h6973]
   repeat with_reducible refine And.intro (by first | kernel_rfl | decide) ?_
   refine Wp_callP (c30 N _ _ _ h6976) (by kernel_rfl) rfl rfl rfl rfl (by decide) ?_
   replace h := getT2_some h; obtain ⟨p6978, p6979, h6977, h⟩ := h
   replace h := getI_some h; obtain ⟨x6981, h6980, h⟩ := h
   replace h := getI_some h; obtain ⟨x6983, h6982, h⟩ := h
   replace h := bnd'_some h; obtain ⟨p6984, h6985, h⟩ := h
   refine W_sound tab_ok mixed 10 _ _ _ ?_
   simp -implicitDefEqProofs only [go_sem, Nat.reduceBEq, Nat.reduceLT, h6977, h6980, h6982]
   repeat with_reducible refine And.intro (by first | kernel_rfl | decide) ?_
   refine Wp_callP (c22 N _ _ _ h6985) (by kernel_rfl) rfl rfl rfl rfl (by decide) ?_
   replace h := getB_some h; obtain ⟨b6987, h6986, h⟩ := h
   replace h := brn_some h; rcases h with ⟨h6988, h⟩ | ⟨h6988, h⟩
   ·replace h := brn_some h; rcases h with ⟨h6989, h⟩ | ⟨h6989, h⟩
    ·replace h := brn_some h; rcases h with ⟨h6990, h⟩ | ⟨h6990, h⟩
     ·replace h := brn_some h; rcases h with ⟨h6991, h⟩ | ⟨h6991, h⟩
      ·replace h := bnd'_some h; obtain ⟨p6992, h6993, h⟩ := h
       refine W_sound tab_ok mixed 16 _ _ _ ?_
       simp -implicitDefEqProofs only [go_sem, Nat.reduceBEq, Nat.reduceLT, ↓reduceIte, h6986, h6988, h6989, h6990, h6991]
       repeat with_reducible refine And.intro (by first | kernel_rfl | decide) ?_
       refine Wp_callP (c17 N  _ h6993) (by kernel_rfl) rfl rfl rfl rfl (by decide) ?_
       replace h := getB_some h; obtain ⟨b6995, h6994, h⟩ := h
       refine W_sound tab_ok mixed 5 _ _ _ ?_
       simp -implicitDefEqProofs only [go_sem, Nat.reduceBEq, Nat.reduceLT, h6994]
       repeat with_reducible refine And.intro (by first | kernel_rfl | decide) ?_
       obtain rfl := Option.some.inj h
       exact finC [(4, .v (.bool b6995))] [(4, .v (.bool b6995))] (by simp [leE, lk_cons]) (.cons _ _ _ _ _ (.v _ _ (.refl _)) .nil) (by rfl) (by simp [leE, lk_cons]) (by decide) (by decide) rfl (by simp only [go_sem, Nat.reduceBEq, resQ_tmp, resQ_nil, retD_one]; (try simp [R.val, retD_one, retD_two, retD_three, retD_none]); try assumption)
      ·refine W_sound tab_ok mixed 22 _ _ _ ?_
       simp -implicitDefEqProofs only [go_sem, Nat.reduceBEq, Nat.reduceLT, ↓reduceIte, h6986, h6988, h6989, h6990, h6991]
       repeat with_reducible refine And.intro (by first | kernel_rfl | decide) ?_
       obtain rfl := Option.some.inj h
       exact finC [(4, .v (.bool false))] [(4, .v (.bool false))] (by simp [leE, lk_cons]) (.cons _ _ _ _ _ (.v _ _ (.refl _)) .nil) (by rfl) (by simp [leE, lk_cons]) (by decide) (by decide) rfl (by simp only [go_sem, Nat.reduceBEq, resQ_tmp, resQ_nil, retD_one]; (try simp [R.val, retD_one, retD_two, retD_three, retD_none]); try assumption)
     ·refine W_sound tab_ok mixed 22 _ _ _ ?_
      simp -implicitDefEqProofs only [go_sem, Nat.reduceBEq, Nat.reduceLT, ↓reduceIte, h6986, h6988, h6989, h6990]
      repeat with_reducible refine And.intro (by first | kernel_rfl | decide) ?_
      obtain rfl := Option.some.inj h
      exact finC [(4, .v (.bool false))] [(4, .v (.bool false))] (by simp [leE, lk_cons]) (.cons _ _ _ _ _ (.v _ _ (.refl _)) .nil) (by rfl) (by simp [leE, lk_cons]) (by decide) (by decide) rfl (by simp only [go_sem, Nat.reduceBEq, resQ_tmp, resQ_nil, retD_one]; (try simp [R.val, retD_one, retD_two, retD_three, retD_none]); try assumption)
    ·refine W_sound tab_ok mixed 22 _ _ _ ?_
     simp -implicitDefEqProofs only [go_sem, Nat.reduceBEq, Nat.reduceLT, ↓reduceIte, h6986, h6988, h6989]
     repeat with_reducible refine And.intro (by first | kernel_rfl | decide) ?_
     obtain rfl := Option.some.inj h
     exact finC [(4, .v (.bool false))] [(4, .v (.bool false))] (by simp [leE, lk_cons]) (.cons _ _ _ _ _ (.v _ _ (.refl _)) .nil) (by rfl) (by simp [leE, lk_cons]) (by decide) (by decide) rfl (by simp only [go_sem, Nat.reduceBEq, resQ_tmp, resQ_nil, retD_one]; (try simp [R.val, retD_one, retD_two, retD_three, retD_none]); try assumption)
   ·refine W_sound tab_ok mixed 22 _ _ _ ?_
    simp -implicitDefEqProofs only [go_sem, Nat.reduceBEq, Nat.reduceLT, h6986, h6988]
    repeat with_reducible refine And.intro (by first | kernel_rfl | decide) ?_
    obtain rfl := Option.some.inj h
    exact finC [(4, .v (.bool false))] [(4, .v (.bool false))] (by simp [leE, lk_cons]) (.cons _ _ _ _ _ (.v _ _ (.refl _)) .nil) (by rfl) (by simp [leE, lk_cons]) (by decide) (by decide) rfl (by simp only [go_sem, Nat.reduceBEq, resQ_tmp, resQ_nil, retD_one]; (try simp [R.val, retD_one, retD_two, retD_three, retD_none]); try assumption)
end Go.Proofs.Yteidcinajdehkaa
namespace Go.Proofs.Yteidcinajdehkaa
open Go.V
theorem brn_t {α : Type} {b : Bool} {x y : Option α} (h : b = true) : brn b x y = x := by subst h; rfl
theorem brn_f {α : Type} {b : Bool} {x y : Option α} (h : b = false) : brn b x y = y := by subst h; rfl
theorem grd_t {α : Type} {p : Prop} [Decidable p] {k : Option α} (h : p) : grd p k = k := by simp [grd, h]
theorem wrapN {n : Nat} (h : n ≤ 100000) : IntKind.i64.wrap ((n : Int) + 1) = ((n + 1 : Nat) : Int) := by
  rw [wrap64 (by omega) (by omega)]; omega
theorem toNatN (n : Nat) : Int.toNat (n : Int) = n := by omega
theorem eq0_t {n : Nat} (h : n = 0) : ((n : Int) == 0) = true := by subst h; rfl
theorem eq0_f {n : Nat} (h : n ≠ 0) : ((n : Int) == 0) = false := by
  rw [beq_eq_false_iff_ne]; omega
theorem range'_step {i n : Nat} (h : i < n) : List.range' i (n - i) = i :: List.range' (i + 1) (n - (i + 1)) := by
  rw [show n - i = (n - (i + 1)) + 1 by omega, List.range'_succ]
def iL (X : List Int) : List PV := X.map (PV.int .i64)
theorem iL_len (X : List Int) : (iL X).length = X.length := by simp [iL]
def en (X : List Int) (i : Nat) : Int := X.getD i 0
theorem iL_gp {X : List Int} {i : Nat} (h : i < X.length) : gp (iL X) i = .int .i64 (en X i) := by
  simp [iL, gp, en, List.getD, h]
def nL (X : List Nat) : List PV := X.map fun (k : Nat) => PV.int .i64 (k : Int)
theorem nL_len (X : List Nat) : (nL X).length = X.length := by simp [nL]
def nn (X : List Nat) (i : Nat) : Nat := X.getD i 0
theorem nL_gp {X : List Nat} {i : Nat} (h : i < X.length) : gp (nL X) i = .int .i64 (nn X i : Int) := by
  simp [nL, gp, nn, List.getD, h]
theorem nn_mem {X : List Nat} {i : Nat} (h : i < X.length) : nn X i ∈ X := by
  simp [nn, List.getD, h]
def rwP (r : List Int) : PV := .lst false r.length (iL r)
def rwN (r : List Nat) : PV := .lst false r.length (nL r)
def rwsP (L : List (List Int)) : List PV := L.map rwP
theorem rws_len (L : List (List Int)) : (rwsP L).length = L.length := by simp [rwsP]
def ro (L : List (List Int)) (i : Nat) : List Int := L.getD i []
theorem rws_gp {L : List (List Int)} {i : Nat} (h : i < L.length) : gp (rwsP L) i = .lst false (ro L i).length (iL (ro L i)) := by
  simp [rwsP, gp, ro, rwP, List.getD, h]
theorem ro_mem {L : List (List Int)} {i : Nat} (h : i < L.length) : ro L i ∈ L := by
  simp [ro, List.getD, h]
theorem en_mem {X : List Int} {i : Nat} (h : i < X.length) : en X i ∈ X := by
  simp [en, List.getD, h]
theorem drop_ro {L : List (List Int)} {i : Nat} (h : i < L.length) : L.drop i = ro L i :: L.drop (i + 1) := by
  rw [List.drop_eq_getElem_cons h]; simp [ro, List.getD, h]
theorem drop_en {L : List Int} {i : Nat} (h : i < L.length) : L.drop i = en L i :: L.drop (i + 1) := by
  rw [List.drop_eq_getElem_cons h]; simp [en, List.getD, h]
def lgL (L : List (List Int)) : Bool := decide (20 < L.length) || L.any fun r => decide (20 < r.length)
theorem large_L (N : Nat) (L : List (List Int)) (hL : L.length ≤ 20) : ∀ (r i fuel : Nat), L.length - i = r → r < fuel →
    m15_L0 N L.length (rwsP L) fuel (i : Int) = some (if (L.drop i).any (fun r => decide (20 < r.length)) then .inl (.bool true) else .inr ())
  | r, i, 0, _, h => by omega
  | r, i, f + 1, hr, hf => by
    have hl := rws_len L
    rw [m15_L0]
    by_cases hi : i < L.length
    · have ih := large_L N L hL (r - 1) (i + 1) f (by omega) (by omega)
      rw [brn_t (by simp; omega), toNatN, grd_t ⟨by omega, by omega⟩, grd_t (by simp only [List.length_drop]; omega), rws_gp hi, drop_ro hi]
      simp only [getL, List.any_cons]
      by_cases h : 20 < (ro L i).length
      · rw [brn_t (by simp; omega)]; simp [h]
      · rw [brn_f (by simp; omega), wrapN (by omega), ih]; simp [h]
    · rw [brn_f (by simp; omega), List.drop_eq_nil_of_le (by omega)]; rfl
theorem large_ok (N : Nat) (hN : 100 ≤ N) (L : List (List Int)) : m15 N (.lst false L.length (rwsP L)) = some (.bool (lgL L)) := by
  simp only [m15, getL]
  by_cases h : 20 < L.length
  · rw [brn_t (by simp; omega)]; simp [lgL, h]
  · have := large_L N L (by omega) L.length 0 N (by omega) (by omega)
    rw [brn_f (by simp; omega), show m15_L0 N L.length (rwsP L) N 0 = _ from this, List.drop_zero]
    simp only [lgL, h, decide_false, Bool.false_or]
    cases L.any fun r => decide (20 < r.length) <;> rfl
def bad (lo hi n : Int) : Bool := decide (n < lo) || decide (n > hi)
theorem wrong_L (N : Nat) (lo hi : Int) (X : List Int) (hX : X.length ≤ 1000) : ∀ (r i fuel : Nat), X.length - i = r → r < fuel →
    ∃ o, m103_L0 N lo hi X.length (iL X) fuel (i : Int) = some o ∧ ((X.drop i).any (bad lo hi) = true → ∃ k : Nat, o = .inl (.int .i64 (k : Int))) ∧ ((X.drop i).any (bad lo hi) = false → o = .inr ())
  | r, i, 0, _, h => by omega
  | r, i, f + 1, hr, hf => by
    have hl := iL_len X
    rw [m103_L0]
    by_cases hi' : i < X.length
    · obtain ⟨o, o1, o2, o3⟩ := wrong_L N lo hi X hX (r - 1) (i + 1) f (by omega) (by omega)
      have hb : m93 N (en X i) lo hi = some (.bool (bad lo hi (en X i))) := by
        unfold m93 bad
        by_cases h : en X i < lo
        · rw [brn_t (by simpa using h)]; simp [h]
        · rw [brn_f (by simpa using h)]; simp [h]
      rw [brn_t (by simp; omega), toNatN, grd_t ⟨by omega, by omega⟩, grd_t (by simp only [List.length_drop]; omega), iL_gp hi', drop_en hi']
      simp only [getI, if_true, hb, bnd', getB, List.any_cons]
      cases h : bad lo hi (en X i) with
      | true => rw [brn_t rfl]; exact ⟨_, rfl, fun _ => ⟨i, rfl⟩, fun h => by simp at h⟩
      | false =>
        rw [brn_f rfl, wrapN (by omega)]
        exact ⟨o, o1, fun h => o2 (by simpa using h), fun h => o3 (by simpa using h)⟩
    · rw [brn_f (by simp; omega), List.drop_eq_nil_of_le (by omega)]
      exact ⟨_, rfl, fun h => by simp at h, fun _ => rfl⟩
theorem wrong_ok (N : Nat) (hN : 2000 ≤ N) (lo hi : Int) (X : List Int) (hX : X.length ≤ 1000) : m68 N (.lst false X.length (iL X)) lo hi = some (.bool (X.any (bad lo hi))) := by
  obtain ⟨o, o1, o2, o3⟩ := wrong_L N lo hi X hX X.length 0 N (by omega) (by omega)
  rw [List.drop_zero] at o2 o3
  simp only [m68, m92, m103, getL]
  rw [show m103_L0 N lo hi X.length (iL X) N 0 = some o from o1]
  cases h : X.any (bad lo hi) with
  | true =>
    obtain ⟨k, hk⟩ := o2 h
    rw [hk]; simp [bnd', getI, getB]
  | false => rw [o3 h]; simp [bnd', getI, getB]
def selF : Bool → PV ⊕ Unit
  | true => .inl (.bool false)
  | false => .inr ()
theorem within_L (N : Nat) (lo hi : Int) (X : List Int) (hX : X.length ≤ 1000) : ∀ (r i fuel : Nat), X.length - i = r → r < fuel →
    m70_L0 N lo hi X.length (iL X) fuel (i : Int) = some (selF ((X.drop i).any (bad lo hi)))
  | r, i, 0, _, h => by omega
  | r, i, f + 1, hr, hf => by
    have hl := iL_len X
    rw [m70_L0]
    by_cases hi' : i < X.length
    · have ih := within_L N lo hi X hX (r - 1) (i + 1) f (by omega) (by omega)
      have hb : m94 N (en X i) lo hi = some (.bool (!bad lo hi (en X i))) := by
        unfold m94 bad
        by_cases h : en X i < lo
        · rw [brn_f (by simp; omega)]; simp [h]
        · rw [brn_t (by simp; omega)]
          by_cases h2 : en X i > hi
          · have : ¬ en X i ≤ hi := by omega
            simp [h, h2, this]
          · have : en X i ≤ hi := by omega
            simp [h, h2, this]
      rw [brn_t (by simp; omega), toNatN, grd_t ⟨by omega, by omega⟩, grd_t (by simp only [List.length_drop]; omega), iL_gp hi', drop_en hi']
      simp only [getI, if_true, hb, bnd', getB, List.any_cons]
      rcases Bool.eq_false_or_eq_true (bad lo hi (en X i)) with h | h
      · rw [h, Bool.not_true, brn_f rfl, Bool.true_or]; rfl
      · rw [h, Bool.not_false, brn_t rfl, wrapN (by omega), ih, Bool.false_or]
    · rw [brn_f (by simp; omega), List.drop_eq_nil_of_le (by omega)]; rfl
theorem within_ok (N : Nat) (hN : 2000 ≤ N) (lo hi : Int) (X : List Int) (hX : X.length ≤ 1000) : m70 N (.lst false X.length (iL X)) lo hi = some (.bool (!X.any (bad lo hi))) := by
  have := within_L N lo hi X hX X.length 0 N (by omega) (by omega)
  simp only [m70, getL]
  rw [show m70_L0 N lo hi X.length (iL X) N 0 = _ from this, List.drop_zero]
  cases X.any (bad lo hi) <;> rfl
def chR (c : Nat) : List (List Int) → Int
  | [] => 0
  | r :: rs => if r.length ≠ c then 5 else if r.any (bad 0 20) then 1 else chR c rs
def chk (L : List (List Int)) : Int :=
  if L.length = 0 then 4 else if (ro L 0).length = 0 then 4 else if 3 < L.length then 3 else if 4 < (ro L 0).length then 3 else chR (ro L 0).length L
def outE (e : Int) : PV ⊕ Unit := if e = 0 then .inr () else .inl (.int .i64 e)
theorem check_L (N : Nat) (hN : 2000 ≤ N) (L : List (List Int)) (hL : L.length ≤ 20) (hr20 : ∀ r ∈ L, r.length ≤ 20) (c : Nat) : ∀ (r i fuel : Nat), L.length - i = r → r < fuel →
    m23_L0 N L.length (rwsP L) c fuel (i : Int) = some (outE (chR c (L.drop i))) ∧ m24_L0 N L.length (rwsP L) c fuel (i : Int) = some (outE (chR c (L.drop i)))
  | r, i, 0, _, h => by omega
  | r, i, f + 1, hr, hf => by
    have hl := rws_len L
    rw [m23_L0, m24_L0]
    by_cases hi : i < L.length
    · obtain ⟨i1, i2⟩ := check_L N hN L hL hr20 c (r - 1) (i + 1) f (by omega) (by omega)
      have hm := hr20 _ (ro_mem hi)
      have q1 : ∀ {α : Type} (y z : Option α), brn (decide ((i : Int) < (L.length : Int))) y z = y := fun y z => brn_t (by simp; omega)
      rw [q1, q1, toNatN, grd_t ⟨by omega, by omega⟩, grd_t (by simp only [List.length_drop]; omega), grd_t ⟨by omega, by omega⟩, grd_t (by simp only [List.length_drop]; omega), rws_gp hi, drop_ro hi]
      simp only [getL, wrong_ok N hN 0 20 (ro L i) (by omega), within_ok N hN 0 20 (ro L i) (by omega), bnd', getB, chR]
      by_cases h : (ro L i).length = c
      · have q2 : ∀ {α : Type} (y z : Option α), brn (((ro L i).length : Int) != (c : Int)) y z = z := fun y z => brn_f (by simp; omega)
        rw [q2, q2, if_neg (by simpa using h)]
        cases hb : (ro L i).any (bad 0 20) with
        | true => rw [brn_t rfl, if_pos rfl]; exact ⟨rfl, rfl⟩
        | false =>
          rw [brn_f rfl, wrapN (by omega), if_neg (by simp)]
          exact ⟨i1, i2⟩
      · have q2 : ∀ {α : Type} (y z : Option α), brn (((ro L i).length : Int) != (c : Int)) y z = y := fun y z => brn_t (by simp; omega)
        rw [q2, q2, if_pos h]
        exact ⟨rfl, rfl⟩
    · have q1 : ∀ {α : Type} (y z : Option α), brn (decide ((i : Int) < (L.length : Int))) y z = z := fun y z => brn_f (by simp; omega)
      rw [q1, q1, List.drop_eq_nil_of_le (by omega)]
      exact ⟨rfl, rfl⟩
theorem outE_end {x : Int} : (match outE x with | .inl p => some p | .inr () => some (PV.int .i64 0)) = some (.int .i64 x) := by
  unfold outE
  by_cases h : x = 0
  · rw [if_pos h, h]
  · rw [if_neg h]
theorem check_ok (N : Nat) (hN : 2000 ≤ N) (L : List (List Int)) (hL : lgL L = false) : m23 N (.lst false L.length (rwsP L)) = some (.int .i64 (chk L)) ∧ m24 N (.lst false L.length (rwsP L)) = some (.int .i64 (chk L)) := by
  simp only [lgL, Bool.or_eq_false_iff, decide_eq_false_iff_not] at hL
  have hL1 : L.length ≤ 20 := by omega
  have hr20 : ∀ r ∈ L, r.length ≤ 20 := fun r hr => by
    have h := hL.2
    rw [List.any_eq_false] at h
    have := h r hr
    simp at this; exact this
  have hl := rws_len L
  simp only [m23, m24, getL]
  unfold chk
  by_cases h0 : L.length = 0
  · have q : ∀ {α : Type} (y z : Option α), brn ((L.length : Int) == 0) y z = y := fun y z => brn_t (eq0_t h0)
    rw [q, q, if_pos h0]; exact ⟨rfl, rfl⟩
  · have q : ∀ {α : Type} (y z : Option α), brn ((L.length : Int) == 0) y z = z := fun y z => brn_f (eq0_f h0)
    rw [q, q, if_neg h0, grd_t (by omega), grd_t (by omega), grd_t (by omega), grd_t (by omega), rws_gp (by omega)]
    simp only []
    by_cases h1 : (ro L 0).length = 0
    · have q : ∀ {α : Type} (y z : Option α), brn (((ro L 0).length : Int) == 0) y z = y := fun y z => brn_t (eq0_t h1)
      rw [q, q, if_pos h1]; exact ⟨rfl, rfl⟩
    · have q : ∀ {α : Type} (y z : Option α), brn (((ro L 0).length : Int) == 0) y z = z := fun y z => brn_f (eq0_f h1)
      rw [q, q, if_neg h1]
      by_cases h2 : 3 < L.length
      · have q : ∀ {α : Type} (y z : Option α), brn (decide ((L.length : Int) > 3)) y z = y := fun y z => brn_t (by simp; omega)
        rw [q, q, if_pos h2]; exact ⟨rfl, rfl⟩
      · have q : ∀ {α : Type} (y z : Option α), brn (decide ((L.length : Int) > 3)) y z = z := fun y z => brn_f (by simp; omega)
        rw [q, q, if_neg h2]
        by_cases h3 : 4 < (ro L 0).length
        · have q : ∀ {α : Type} (y z : Option α), brn (decide (((ro L 0).length : Int) > 4)) y z = y := fun y z => brn_t (by simp; omega)
          rw [q, q, if_pos h3]; exact ⟨rfl, rfl⟩
        · have q : ∀ {α : Type} (y z : Option α), brn (decide (((ro L 0).length : Int) > 4)) y z = z := fun y z => brn_f (by simp; omega)
          obtain ⟨e1, e2⟩ := check_L N hN L hL1 hr20 (ro L 0).length L.length 0 N (by omega) (by omega)
          rw [List.drop_zero] at e1 e2
          rw [q, q, if_neg h3, show m23_L0 N L.length (rwsP L) (ro L 0).length N 0 = _ from e1, show m24_L0 N L.length (rwsP L) (ro L 0).length N 0 = _ from e2]
          simp only [bnd']
          exact ⟨outE_end, outE_end⟩
structure Okc (L : List (List Int)) (c : Nat) : Prop where
  r1 : 1 ≤ L.length
  r3 : L.length ≤ 3
  c1 : 1 ≤ c
  c4 : c ≤ 4
  row : ∀ i, i < L.length → (ro L i).length = c
  val : ∀ i j, i < L.length → j < c → 0 ≤ en (ro L i) j ∧ en (ro L i) j ≤ 20
theorem chR_zero {c : Nat} : ∀ {L : List (List Int)}, chR c L = 0 → ∀ r ∈ L, r.length = c ∧ r.any (bad 0 20) = false
  | [], _, _, h => by simp at h
  | r :: rs, h, x, hx => by
    unfold chR at h
    split at h
    · cases h
    · rename_i h1
      split at h
      · cases h
      · rename_i h2
        rcases List.mem_cons.1 hx with rfl | hx
        · exact ⟨by omega, by simpa using h2⟩
        · exact chR_zero h x hx
theorem chk_zero {L : List (List Int)} (h : chk L = 0) : Okc L (ro L 0).length := by
  unfold chk at h
  split at h
  · cases h
  · split at h
    · cases h
    · split at h
      · cases h
      · split at h
        · cases h
        · have hz := chR_zero h
          refine ⟨by omega, by omega, by omega, by omega, fun i hi => (hz _ (ro_mem hi)).1, fun i j hi hj => ?_⟩
          obtain ⟨h1, h2⟩ := hz _ (ro_mem hi)
          rw [List.any_eq_false] at h2
          have := h2 _ (en_mem (X := ro L i) (i := j) (by omega))
          simp only [bad, Bool.or_eq_true, decide_eq_true_eq, not_or] at this
          omega
def cst (L : List (List Int)) (i j : Nat) : Int := en (ro L i) j
end Go.Proofs.Yteidcinajdehkaa
namespace Go.Proofs.Yteidcinajdehkaa
open Go.V
set_option linter.unusedSectionVars false
theorem bnd_t {α β : Type} {x : α} {f : α → Option β} : bnd' (some x) f = f x := rfl
theorem getI_t {α : Type} {k : IntKind} {x : Int} {f : Int → Option α} : getI k (.int k x) f = f x := by simp [getI]
theorem getB_t {α : Type} {b : Bool} {f : Bool → Option α} : getB (.bool b) f = f b := rfl
theorem getL_t {α : Type} {n : Nat} {c : List PV} {f : Nat → List PV → Option α} : getL (.lst false n c) f = f n c := rfl
theorem getA2_t {α : Type} {a b : PV} {f : PV → PV → Option α} : getA2 (.agg [a, b]) f = f a b := rfl
theorem getT2_t {α : Type} {a b : PV} {f : PV → PV → Option α} : getT2 (.tup [a, b]) f = f a b := rfl
theorem any_bad {lo hi : Int} {X : List Int} (h : X.any (bad lo hi) = false) {i : Nat} (hi' : i < X.length) : lo ≤ en X i ∧ en X i ≤ hi := by
  rw [List.any_eq_false] at h
  have := h _ (en_mem hi')
  simp only [bad, Bool.or_eq_true, decide_eq_true_eq, not_or] at this
  omega
theorem sum_L (N : Nat) (X : List Int) (hX : X.length ≤ 20) (h5 : X.any (bad 0 5) = false) : ∀ (r i fuel : Nat) (a : Int), X.length - i = r → r < fuel → 0 ≤ a → a ≤ 5 * i →
    m69_L0 N X.length (iL X) fuel a (i : Int) = some (a + (X.drop i).sum) ∧ m64_L0 N X.length (iL X) fuel a (i : Int) = some (a + (X.drop i).sum)
  | r, i, 0, _, _, h, _, _ => by omega
  | r, i, f + 1, a, hr, hf, h0, h1 => by
    by_cases h : i < X.length
    · have b := any_bad h5 h
      obtain ⟨e1, e2⟩ := sum_L N X hX h5 (r - 1) (i + 1) f (a + en X i) (by omega) (by omega) (by omega) (by omega)
      have hl := iL_len X
      have e3 : a + (X.drop i).sum = a + en X i + (X.drop (i + 1)).sum := by rw [drop_en h, List.sum_cons]; omega
      rw [e3, ← e1]
      constructor
      · rw [m69_L0, brn_t (decide_eq_true (by omega)), grd_t ⟨by omega, by omega⟩, toNatN, grd_t (by rw [List.length_drop]; omega), iL_gp h, getI_t, wrap64 (n := a + en X i) (by omega) (by omega), wrapN (by omega)]
      · rw [m64_L0, brn_t (decide_eq_true (by omega)), grd_t ⟨by omega, by omega⟩, toNatN, grd_t (by rw [List.length_drop]; omega), iL_gp h, getI_t, wrap64 (n := a + en X i) (by omega) (by omega), wrapN (by omega), e1, e2]
    · rw [m69_L0, m64_L0, brn_f (decide_eq_false (by omega)), brn_f (decide_eq_false (by omega)), List.drop_eq_nil_of_le (by omega)]
      simp
theorem sum_ok (N : Nat) (hN : 2000 ≤ N) (X : List Int) (hX : X.length ≤ 20) (h5 : X.any (bad 0 5) = false) : m69 N (rwP X) = some (.int .i64 X.sum) ∧ m64 N (rwP X) = some (.int .i64 X.sum) := by
  obtain ⟨e1, e2⟩ := sum_L N X hX h5 X.length 0 N 0 (by omega) (by omega) (by omega) (by omega)
  rw [List.drop_zero, Int.zero_add] at e1 e2
  unfold rwP
  rw [m69, m64, getL_t, getL_t, show m69_L0 N _ _ N 0 0 = _ from e1, show m64_L0 N _ _ N 0 0 = _ from e2]
  exact ⟨rfl, rfl⟩
def ldE (L : List (List Int)) (H W : List Int) : Int :=
  if chk L ≠ 0 then chk L else if H.length ≠ L.length then 5 else if W.length ≠ (ro L 0).length then 5 else if H.any (bad 0 5) then 1 else if W.any (bad 0 5) then 1 else if H.sum ≠ W.sum then 17 else 0
theorem loaded_ok (N : Nat) (hN : 2000 ≤ N) (L : List (List Int)) (hL : lgL L = false) (H W : List Int) (hH : H.length ≤ 20) (hW : W.length ≤ 20) :
    m25 N (.lst false L.length (rwsP L)) (.agg [rwP H, rwP W]) = some (.int .i64 (ldE L H W)) ∧ m26 N (.lst false L.length (rwsP L)) (.agg [rwP H, rwP W]) = some (.int .i64 (ldE L H W)) := by
  obtain ⟨c1, c2⟩ := check_ok N hN L hL
  have w1 := wrong_ok N hN 0 5 H (by omega)
  have w2 := wrong_ok N hN 0 5 W (by omega)
  have v1 := within_ok N hN 0 5 H (by omega)
  have v2 := within_ok N hN 0 5 W (by omega)
  constructor
  · rw [m25, getL_t, getA2_t, c1, bnd_t, getI_t]
    unfold ldE
    by_cases h : chk L = 0
    · have ok := chk_zero h
      have r1 := ok.r1
      rw [h, brn_f (b := ((0 : Int) != 0)) rfl, if_neg (show ¬ ((0 : Int) ≠ 0) by simp)]
      unfold rwP
      rw [getL_t]
      by_cases h1 : H.length = L.length
      · rw [brn_f (bne_eq_false_iff_eq.2 (by omega)), if_neg (by simpa using h1), getL_t, grd_t (by omega), grd_t (by rw [rws_len]; omega), rws_gp (by omega), getL_t]
        by_cases h2 : W.length = (ro L 0).length
        · rw [brn_f (bne_eq_false_iff_eq.2 (by omega)), if_neg (by simpa using h2), w1, bnd_t, getB_t]
          cases h3 : H.any (bad 0 5) with
          | true => rfl
          | false =>
            rw [brn_f rfl, w2, bnd_t, getB_t]
            cases h4 : W.any (bad 0 5) with
            | true => rfl
            | false =>
              have s1 := (sum_ok N hN H hH h3).1
              have t1 := (sum_ok N hN W hW h4).1
              unfold rwP at s1 t1
              rw [brn_f rfl, s1, bnd_t, getI_t, t1, bnd_t, getI_t]
              by_cases h5 : H.sum = W.sum
              · rw [brn_f (by simp [h5])]; simp [h5]
              · rw [brn_t (by simp [h5])]; simp [h5]
        · rw [brn_t (bne_iff_ne.2 (by omega)), if_pos h2]
      · rw [brn_t (bne_iff_ne.2 (by omega)), if_pos h1]
    · rw [brn_t (by simpa using h), if_pos h]
  · rw [m26, getL_t, getA2_t, c2, bnd_t, getI_t]
    unfold ldE
    by_cases h : chk L = 0
    · have ok := chk_zero h
      have r1 := ok.r1
      rw [h, brn_f (b := ((0 : Int) != 0)) rfl, if_neg (show ¬ ((0 : Int) ≠ 0) by simp)]
      unfold rwP
      rw [getL_t]
      by_cases h1 : H.length = L.length
      · rw [brn_f (bne_eq_false_iff_eq.2 (by omega)), if_neg (by simpa using h1), getL_t, grd_t (by omega), grd_t (by rw [rws_len]; omega), rws_gp (by omega), getL_t]
        by_cases h2 : W.length = (ro L 0).length
        · rw [brn_f (bne_eq_false_iff_eq.2 (by omega)), if_neg (by simpa using h2), v1, bnd_t, getB_t]
          cases h3 : H.any (bad 0 5) with
          | true => rfl
          | false =>
            rw [brn_t (b := !false) rfl, v2, bnd_t, getB_t]
            cases h4 : W.any (bad 0 5) with
            | true => rfl
            | false =>
              have s1 := (sum_ok N hN H hH h3).2
              have t1 := (sum_ok N hN W hW h4).2
              unfold rwP at s1 t1
              rw [brn_t (b := !false) rfl, s1, bnd_t, getI_t, t1, bnd_t, getI_t]
              by_cases h5 : H.sum = W.sum
              · rw [brn_f (by simp [h5])]; simp [h5]
              · rw [brn_t (by simp [h5])]; simp [h5]
        · rw [brn_t (bne_iff_ne.2 (by omega)), if_pos h2]
      · rw [brn_t (bne_iff_ne.2 (by omega)), if_pos h1]
    · rw [brn_t (by simpa using h), if_pos h]
def rcF (L : List (List Int)) (i : Nat) (r : List Int) (c j : Nat) : Int := ((List.range' j (c - j)).map fun k => en r k * cst L i k).sum
theorem mul_b {a b : Int} (h1 : 0 ≤ a) (h2 : a ≤ 5) (h3 : 0 ≤ b) (h4 : b ≤ 20) : 0 ≤ a * b ∧ a * b ≤ 100 :=
  ⟨Int.mul_nonneg h1 h3, Int.le_trans (Int.mul_le_mul h2 h4 h3 (by omega)) (by decide)⟩
theorem rcF_b {L : List (List Int)} {c : Nat} (hL : Okc L c) {i : Nat} (hi : i < L.length) {x : List Int} (hx : x.length = c) (h5 : x.any (bad 0 5) = false) : ∀ (r j : Nat), c - j = r → 0 ≤ rcF L i x c j ∧ rcF L i x c j ≤ 100 * r
  | 0, j, h => by unfold rcF; rw [h]; simp
  | r + 1, j, h => by
    have hj : j < c := by omega
    have ih := rcF_b hL hi hx h5 r (j + 1) (by omega)
    have bx := any_bad h5 (i := j) (by omega)
    have bc := hL.val i j hi hj
    have hm := mul_b bx.1 bx.2 bc.1 bc.2
    have e : rcF L i x c j = en x j * en (ro L i) j + rcF L i x c (j + 1) := by
      unfold rcF
      rw [range'_step hj, List.map_cons, List.sum_cons]; rfl
    omega
def cF (L : List (List Int)) (c : Nat) : Nat → List (List Int) → Int
  | _, [] => 0
  | i, r :: rs => rcF L i r c 0 + cF L c (i + 1) rs
theorem ldE_zero {L : List (List Int)} {H W : List Int} (h : ldE L H W = 0) : Okc L W.length ∧ H.length = L.length ∧ H.any (bad 0 5) = false ∧ W.any (bad 0 5) = false ∧ H.sum = W.sum := by
  unfold ldE at h
  by_cases h1 : chk L = 0
  · rw [if_neg (by simpa using h1)] at h
    split at h
    · cases h
    · rename_i h2
      split at h
      · cases h
      · rename_i h3
        split at h
        · cases h
        · rename_i h4
          split at h
          · cases h
          · rename_i h5
            split at h
            · cases h
            · rename_i h6
              have h3 : W.length = (ro L 0).length := by omega
              exact ⟨h3 ▸ chk_zero h1, by omega, by simpa using h4, by simpa using h5, by omega⟩
  · rw [if_pos h1] at h; exact absurd h h1
def e2 (n : Int) : PV := .tup [.int .i64 0, .int .i64 n]
section
end
theorem rc_L (N : Nat) (L : List (List Int)) (c : Nat) (hL : Okc L c) (D : List (List Int)) (hD : D.length = L.length) (i : Nat) (hi : i < L.length) (hx : (ro D i).length = c) (h5 : (ro D i).any (bad 0 5) = false) :
    ∀ (r j fuel : Nat) (a : Int), c - j = r → r < fuel → 0 ≤ a → a ≤ 100 * 4 * i + 100 * j → j ≤ c →
    m71_L1 N L.length (rwsP L) D.length (rwsP D) (i : Int) fuel a (j : Int) = some (a + rcF L i (ro D i) c j)
  | r, j, 0, _, _, h, _, _, _ => by omega
  | r, j, f + 1, a, hr, hf, h0, h1, hj => by
    have hc4 := hL.c4
    have hr3 := hL.r3
    have ll := rws_len L
    have ld := rws_len D
    have lr := hL.row i hi
    have lri := iL_len (ro L i)
    have ldi := iL_len (ro D i)
    rw [m71_L1, grd_t ⟨by omega, by omega⟩, toNatN, grd_t (by rw [List.length_drop]; omega), rws_gp hi, getL_t]
    by_cases h : j < c
    · have bx := any_bad h5 (i := j) (by omega)
      have bc := hL.val i j hi h
      have hm := mul_b bx.1 bx.2 bc.1 bc.2
      rw [Int.mul_comm] at hm
      rw [brn_t (decide_eq_true (by omega)), grd_t ⟨by omega, by omega⟩, toNatN, grd_t (by rw [List.length_drop]; omega), iL_gp (by omega), getI_t, grd_t (by omega), grd_t (by rw [List.length_drop]; omega), rws_gp (by omega), getL_t, grd_t (by omega), grd_t (by rw [List.length_drop]; omega), iL_gp (by omega), getI_t]
      rw [wrap64 (n := en (ro L i) j * en (ro D i) j) (by omega) (by omega), wrap64 (n := a + en (ro L i) j * en (ro D i) j) (by omega) (by omega), wrapN (by omega)]
      have ih := rc_L N L c hL D hD i hi hx h5 (r - 1) (j + 1) f (a + en (ro L i) j * en (ro D i) j) (by omega) (by omega) (by omega) (by omega) (by omega)
      rw [ih]
      have e : rcF L i (ro D i) c j = en (ro D i) j * en (ro L i) j + rcF L i (ro D i) c (j + 1) := by
        unfold rcF
        rw [range'_step h, List.map_cons, List.sum_cons]; rfl
      rw [e, Int.mul_comm (en (ro D i) j), Int.add_assoc]
    · rw [brn_f (decide_eq_false (by omega))]
      unfold rcF
      rw [Nat.sub_eq_zero_of_le (by omega)]
      simp
theorem rc_L0 (N : Nat) (hN : 2000 ≤ N) (L : List (List Int)) (c : Nat) (hL : Okc L c) (D : List (List Int)) (hD : D.length = L.length) (hr : ∀ r ∈ D, r.length = c ∧ r.any (bad 0 5) = false) :
    ∀ (s i fuel : Nat) (a : Int), L.length - i = s → s < fuel → 0 ≤ a → a ≤ 400 * i → m71_L0 N L.length (rwsP L) D.length (rwsP D) fuel a (i : Int) = some (a + cF L c i (D.drop i))
  | s, i, 0, _, _, h, _, _ => by omega
  | s, i, f + 1, a, hs, hf, h0, h1 => by
    have hc4 := hL.c4
    have hr3 := hL.r3
    rw [m71_L0]
    by_cases h : i < L.length
    · obtain ⟨r1, r2⟩ := hr _ (ro_mem (L := D) (i := i) (by omega))
      have R := rc_L N L c hL D hD i h r1 r2 c 0 N a (by omega) (by omega) h0 (by omega) (by omega)
      have rb := rcF_b hL (i := i) h r1 r2 c 0 (by omega)
      rw [brn_t (decide_eq_true (by omega)), show m71_L1 N L.length (rwsP L) D.length (rwsP D) (i : Int) N a 0 = _ from R, bnd_t, wrapN (by omega), rc_L0 N hN L c hL D hD hr (s - 1) (i + 1) f (a + rcF L i (ro D i) c 0) (by omega) (by omega) (by omega) (by omega), drop_ro (L := D) (i := i) (by omega), cF, Int.add_assoc]
    · rw [brn_f (decide_eq_false (by omega)), List.drop_eq_nil_of_le (by omega)]
      simp [cF]
end Go.Proofs.Yteidcinajdehkaa
namespace Go.Proofs.Yteidcinajdehkaa
set_option linter.unusedSimpArgs false
set_option linter.unusedVariables false
def rowsN : List Nat → Nat → List (List Nat)
  | [], n => if n = 0 then [[]] else []
  | m :: ms, n => (List.range (min m n + 1)).flatMap fun x => (rowsN ms (n - x)).map (x :: ·)
def lst : List Nat → Nat → List Nat × Nat
  | [], n => ([], n)
  | m :: ms, n => (min (lst ms n).2 m :: (lst ms n).1, (lst ms n).2 - m)
def aft : List Nat → List Nat → List (List Nat)
  | x :: r, m :: ms => (aft r ms).map (x :: ·) ++ (List.range' (x + 1) (min m (x + r.sum) - x)).flatMap fun y => (rowsN ms (x + r.sum - y)).map (y :: ·)
  | _, _ => []
def nxt : List Nat → List Nat → Option (List Nat)
  | x :: r, m :: ms => match nxt r ms with
    | some r' => some (x :: r')
    | none => if 0 < r.sum ∧ x < m then some ((x + 1) :: (lst ms (r.sum - 1)).1) else none
  | _, _ => none
def leL : List Nat → List Nat → Prop
  | [], [] => True
  | x :: r, m :: ms => x ≤ m ∧ leL r ms
  | _, _ => False
theorem leL.len : ∀ {r ms : List Nat}, leL r ms → r.length = ms.length
  | [], [], _ => rfl
  | _ :: _, _ :: _, h => by simp [h.2.len]
  | [], _ :: _, h => h.elim
  | _ :: _, [], h => h.elim
theorem leL.sum : ∀ {r ms : List Nat}, leL r ms → r.sum ≤ ms.sum
  | [], [], _ => Nat.le_refl _
  | x :: r, m :: ms, h => by
    have h1 := h.1
    have h2 := h.2.sum
    simp only [List.sum_cons]; omega
  | [], _ :: _, h => h.elim
  | _ :: _, [], h => h.elim
theorem leL.refl : ∀ (ms : List Nat), leL ms ms
  | [] => trivial
  | _ :: ms => ⟨Nat.le_refl _, leL.refl ms⟩
theorem lst_full : ∀ (ms : List Nat) (n : Nat), ms.sum ≤ n → lst ms n = (ms, n - ms.sum)
  | [], n, _ => rfl
  | m :: ms, n, h => by
    simp only [List.sum_cons] at h
    rw [lst, lst_full ms n (by omega)]
    simp only [List.sum_cons, Prod.mk.injEq, List.cons.injEq, and_true]
    omega
theorem lst_low : ∀ (ms : List Nat) (n : Nat), n ≤ ms.sum → (lst ms n).2 = 0 ∧ (lst ms n).1.sum = n ∧ leL (lst ms n).1 ms
  | [], n, h => by simp at h; subst h; exact ⟨rfl, rfl, trivial⟩
  | m :: ms, n, h => by
    simp only [List.sum_cons] at h
    rw [lst]
    by_cases g : n ≤ ms.sum
    · obtain ⟨h1, h2, h3⟩ := lst_low ms n g
      exact ⟨by simp [h1], by simp [h1, h2], ⟨by simp [h1], h3⟩⟩
    · rw [lst_full ms n (by omega)]
      refine ⟨?_, ?_, ⟨?_, leL.refl ms⟩⟩ <;> simp only [List.sum_cons] <;> omega
theorem rowsN_nil : ∀ (ms : List Nat) (n : Nat), ms.sum < n → rowsN ms n = []
  | [], n, h => by simp at h; rw [rowsN, if_neg (by omega)]
  | m :: ms, n, h => by
    simp only [List.sum_cons] at h
    rw [rowsN, List.flatMap_eq_nil_iff]
    intro x hx
    have hx := List.mem_range.1 hx
    rw [rowsN_nil ms (n - x) (by omega)]; rfl
theorem rng_split {a b : Nat} (h : a ≤ b) : List.range b = List.range a ++ List.range' a (b - a) := by
  have := List.range'_append_1 (s := 0) (m := a) (n := b - a)
  rw [Nat.zero_add, show a + (b - a) = b by omega] at this
  rw [List.range_eq_range', List.range_eq_range', this]
theorem rows_first : ∀ (ms : List Nat) (n : Nat), n ≤ ms.sum → rowsN ms n = (lst ms n).1 :: aft (lst ms n).1 ms
  | [], n, h => by simp at h; subst h; rfl
  | m :: ms, n, h => by
    simp only [List.sum_cons] at h
    rw [rowsN, lst]
    by_cases g : n ≤ ms.sum
    · obtain ⟨h1, h2, h3⟩ := lst_low ms n g
      simp only [h1, Nat.zero_min]
      rw [rng_split (a := 1) (by omega), aft, h2, Nat.zero_add]
      have e : List.range 1 = [0] := rfl
      rw [e, List.flatMap_append, List.flatMap_cons, List.flatMap_nil, List.append_nil, Nat.sub_zero, rows_first ms n g, List.map_cons, List.cons_append]
      rw [show min m n + 1 - 1 = min m n - 0 by omega]
    · rw [lst_full ms n (by omega)]
      have hx : min (n - ms.sum) m = n - ms.sum := by omega
      simp only [hx]
      rw [rng_split (a := n - ms.sum) (by omega), List.flatMap_append]
      have e : (List.range (n - ms.sum)).flatMap (fun x => (rowsN ms (n - x)).map (x :: ·)) = [] := by
        rw [List.flatMap_eq_nil_iff]
        intro x hx
        have hx := List.mem_range.1 hx
        rw [rowsN_nil ms (n - x) (by omega)]; rfl
      rw [e, List.nil_append, show min m n + 1 - (n - ms.sum) = (min m n - (n - ms.sum)) + 1 by omega, List.range'_succ, List.flatMap_cons, aft]
      have i := rows_first ms ms.sum (Nat.le_refl _)
      rw [lst_full ms ms.sum (Nat.le_refl _)] at i
      rw [show n - (n - ms.sum) = ms.sum by omega, i, List.map_cons, List.cons_append, show n - ms.sum + ms.sum = n by omega]
theorem nxt_ok : ∀ (r ms : List Nat), leL r ms → (match nxt r ms with | none => aft r ms = [] | some r' => aft r ms = r' :: aft r' ms ∧ leL r' ms ∧ r'.sum = r.sum)
  | [], [], _ => rfl
  | x :: r, m :: ms, h => by
    obtain ⟨hx, h⟩ := h
    have hs := h.sum
    have ih := nxt_ok r ms h
    rw [nxt]
    cases e : nxt r ms with
    | some r' =>
      rw [e] at ih
      obtain ⟨i1, i2, i3⟩ := ih
      refine ⟨?_, ⟨hx, i2⟩, by simp [i3]⟩
      rw [aft, aft, i1, i3, List.map_cons, List.cons_append]
    | none =>
      rw [e] at ih
      have ih : aft r ms = [] := ih
      by_cases g : 0 < r.sum ∧ x < m
      · simp only [if_pos g]
        obtain ⟨g1, g2⟩ := g
        obtain ⟨l1, l2, l3⟩ := lst_low ms (r.sum - 1) (by omega)
        refine ⟨?_, ⟨by omega, l3⟩, ?_⟩
        · rw [aft, aft, ih, List.map_nil, List.nil_append, l2]
          rw [show min m (x + r.sum) - x = (min m (x + 1 + (r.sum - 1)) - (x + 1)) + 1 by omega, List.range'_succ, List.flatMap_cons]
          rw [show x + r.sum - (x + 1) = r.sum - 1 by omega, rows_first ms (r.sum - 1) (by omega), List.map_cons, List.cons_append, show x + 1 + (r.sum - 1) = x + r.sum by omega]
        · simp only [List.sum_cons, l2]; omega
      · simp only [if_neg g]
        rw [aft, ih, List.map_nil, List.nil_append, show min m (x + r.sum) - x = 0 by omega]
        rfl
  | [], _ :: _, h => h.elim
  | _ :: _, [], h => h.elim
theorem nxt_drop (r ms : List Nat) : ∀ (j : Nat) (q : List Nat), nxt (r.drop j) (ms.drop j) = some q → nxt r ms = some (r.take j ++ q)
  | 0, q, h => by simpa using h
  | j + 1, q, h => by
    cases r with
    | nil => simp [nxt] at h
    | cons x r =>
      cases ms with
      | nil => simp [nxt] at h
      | cons m ms =>
        simp only [List.drop_succ_cons] at h
        have := nxt_drop r ms j q h
        rw [nxt, this]
        rfl
def subN (w r : List Nat) : List Nat := List.zipWith (· - ·) w r
theorem subN_len {w r : List Nat} (h : r.length = w.length) : (subN w r).length = w.length := by simp [subN, h]
theorem subN_sum : ∀ {w r : List Nat}, leL r w → (subN w r).sum = w.sum - r.sum
  | [], [], _ => rfl
  | m :: w, x :: r, h => by
    have ih := subN_sum h.2
    have h1 := h.1
    have h2 := h.2.sum
    simp only [subN, List.zipWith_cons_cons, List.sum_cons] at ih ⊢
    omega
  | [], _ :: _, h => h.elim
  | _ :: _, [], h => h.elim
def dealsN : List Nat → List Nat → List (List (List Nat))
  | [], _ => [[]]
  | h :: hs, w => (rowsN w h).flatMap fun r => (dealsN hs (subN w r)).map (r :: ·)
theorem rowsN_mem : ∀ (ms : List Nat) (n : Nat) (r : List Nat), r ∈ rowsN ms n → leL r ms ∧ r.sum = n
  | [], n, r, h => by
    rw [rowsN] at h
    split at h
    · simp at h; subst h; exact ⟨trivial, by simp; omega⟩
    · simp at h
  | m :: ms, n, r, h => by
    rw [rowsN, List.mem_flatMap] at h
    obtain ⟨x, hx, h⟩ := h
    have hx := List.mem_range.1 hx
    obtain ⟨r', hr, rfl⟩ := List.mem_map.1 h
    obtain ⟨h1, h2⟩ := rowsN_mem ms (n - x) r' hr
    exact ⟨⟨by omega, h1⟩, by simp only [List.sum_cons]; omega⟩
theorem fm_len {α β : Type} (k : Nat) (f : α → List β) : ∀ (l : List α), (∀ x ∈ l, (f x).length ≤ k) → (l.flatMap f).length ≤ l.length * k
  | [], _ => by simp
  | x :: l, h => by
    have ih := fm_len k f l fun y hy => h y (.tail _ hy)
    have := h x (.head _)
    rw [List.flatMap_cons, List.length_append, List.length_cons, Nat.succ_mul]; omega
theorem rowsN_len : ∀ (ms : List Nat) (n : Nat), n ≤ 5 → (rowsN ms n).length ≤ 6 ^ ms.length
  | [], n, h => by rw [rowsN]; split <;> simp
  | m :: ms, n, h => by
    rw [rowsN]
    have := fm_len (6 ^ ms.length) (fun x => (rowsN ms (n - x)).map (x :: ·)) (List.range (min m n + 1)) fun x hx => by
      rw [List.length_map]; exact rowsN_len ms (n - x) (by omega)
    rw [List.length_range] at this
    refine Nat.le_trans this ?_
    rw [List.length_cons, Nat.pow_succ, Nat.mul_comm]
    exact Nat.mul_le_mul_left _ (by omega)
end Go.Proofs.Yteidcinajdehkaa
namespace Go.Proofs.Yteidcinajdehkaa
set_option linter.unusedSimpArgs false
set_option linter.unusedVariables false
set_option linter.unusedSectionVars false
set_option maxRecDepth 100000
theorem foldl_fm {α β γ : Type} (f : γ → β → γ) (g : α → List β) : ∀ (l : List α) (a : γ), (l.flatMap g).foldl f a = l.foldl (fun a x => (g x).foldl f a) a
  | [], _ => rfl
  | x :: l, a => by rw [List.flatMap_cons, List.foldl_append, foldl_fm f g l]; rfl
structure Ldn (H W : List Nat) : Prop where
  sum : H.sum = W.sum
  h5 : ∀ x ∈ H, x ≤ 5
  w5 : ∀ x ∈ W, x ≤ 5
  w4 : W.length ≤ 4
  w1 : 1 ≤ W.length
theorem rows_le {ms : List Nat} {n : Nat} (hm : ms.length ≤ 4) (hn : n ≤ 5) : (rowsN ms n).length ≤ 1296 := by
  have h := rowsN_len ms n hn
  have : 6 ^ ms.length ≤ 6 ^ 4 := Nat.pow_le_pow_right (by omega) hm
  have e : 6 ^ 4 = 1296 := rfl
  omega
theorem ar1 {n g l : Nat} (h : 1300 * (n + 1 + 1) ≤ g + l + 1) (b : l ≤ 1296) : 1300 * (n + 1) ≤ g := by omega
section three
variable {A Res : Type} (W : List Nat) (h0 h1 h2 : Nat) (hL : Ldn [h0, h1, h2] W) (V : List (List Nat) → A → A) (ret : A → Res) (L0 : Nat → Nat → A → List Nat → List Nat → List Nat → List Nat → List Nat → Option Res)
def f3 (V : List (List Nat) → A → A) (W : List Nat) (h2 : Nat) (R0 : List Nat) (a : A) (R1 : List Nat) : A := (rowsN (subN (subN W R0) R1) h2).foldl (fun a R2 => V [R0, R1, R2] a) a
def g3 (V : List (List Nat) → A → A) (W : List Nat) (h1 h2 : Nat) (a : A) (R0 : List Nat) : A := (rowsN (subN W R0) h1).foldl (f3 V W h2 R0) a
structure Eq3 : Prop where
  e2 : ∀ f a R0 R1 X, leL R0 W → R0.sum = h0 → leL R1 (subN W R0) → R1.sum = h1 → X.length = W.length → ∃ X', X'.length = W.length ∧
    L0 (f + 1) 2 a (subN W R0) (subN (subN W R0) R1) R0 R1 X = match nxt R1 (subN W R0) with
      | some R1' => L0 f 2 (f3 V W h2 R0 a R1) (subN W R0) (subN (subN W R0) R1') R0 R1' X'
      | none => match nxt R0 W with
        | some R0' => L0 f 1 (f3 V W h2 R0 a R1) (subN W R0') (subN (subN W R0) R1) R0' R1 X'
        | none => some (ret (f3 V W h2 R0 a R1))
  e1 : ∀ f a R0 W2 Y X, leL R0 W → R0.sum = h0 → Y.length = W.length → X.length = W.length →
    L0 (f + 1) 1 a (subN W R0) W2 R0 Y X = L0 f 2 a (subN W R0) (subN (subN W R0) (lst (subN W R0) h1).1) R0 (lst (subN W R0) h1).1 X
  e0 : ∀ f a W1 W2 Z Y X, Z.length = W.length → Y.length = W.length → X.length = W.length →
    L0 (f + 1) 0 a W1 W2 Z Y X = L0 f 1 a (subN W (lst W h0).1) W2 (lst W h0).1 Y X
variable (E : Eq3 W h0 h1 h2 V ret L0)
include hL E
theorem lv1 (R0 : List Nat) (k0 : leL R0 W) (k1 : R0.sum = h0) : ∀ (n : Nat) (R1 : List Nat) (f : Nat) (a : A) (X : List Nat), (aft R1 (subN W R0)).length = n → leL R1 (subN W R0) → R1.sum = h1 → X.length = W.length →
    ∃ W2 Y' X', Y'.length = W.length ∧ X'.length = W.length ∧ L0 (f + n + 1) 2 a (subN W R0) (subN (subN W R0) R1) R0 R1 X = match nxt R0 W with
      | some R0' => L0 f 1 ((R1 :: aft R1 (subN W R0)).foldl (f3 V W h2 R0) a) (subN W R0') W2 R0' Y' X'
      | none => some (ret ((R1 :: aft R1 (subN W R0)).foldl (f3 V W h2 R0) a)) := by
  have kl := subN_len k0.len
  intro n
  induction n with
  | zero =>
    intro R1 f a X hln l1 s1 hX
    have hn := nxt_ok R1 (subN W R0) l1
    obtain ⟨X', hX', e⟩ := E.e2 f a R0 R1 X k0 k1 l1 s1 hX
    cases q : nxt R1 (subN W R0) with
    | some R1' => rw [q] at hn; rw [hn.1] at hln; simp at hln
    | none =>
      rw [q] at hn e
      have hn : aft R1 (subN W R0) = [] := hn
      refine ⟨subN (subN W R0) R1, R1, X', by rw [l1.len, kl], hX', ?_⟩
      rw [Nat.add_zero, e, hn]
      rfl
  | succ n ih =>
    intro R1 f a X hln l1 s1 hX
    have hn := nxt_ok R1 (subN W R0) l1
    obtain ⟨X', hX', e⟩ := E.e2 (f + n + 1) a R0 R1 X k0 k1 l1 s1 hX
    cases q : nxt R1 (subN W R0) with
    | none =>
      rw [q] at hn
      have hn : aft R1 (subN W R0) = [] := hn
      rw [hn] at hln; simp at hln
    | some R1' =>
      rw [q] at hn e
      obtain ⟨n1, n2, n3⟩ := hn
      rw [n1] at hln ⊢
      obtain ⟨W2, Y', X'', p1, p2, p3⟩ := ih R1' f (f3 V W h2 R0 a R1) X' (by simpa using hln) n2 (by omega) hX'
      refine ⟨W2, Y', X'', p1, p2, ?_⟩
      rw [show f + (n + 1) + 1 = f + n + 1 + 1 by omega, e]
      exact p3
theorem lv1' (R0 : List Nat) (k0 : leL R0 W) (k1 : R0.sum = h0) (f : Nat) (a : A) (W2 Y X : List Nat) (hY : Y.length = W.length) (hX : X.length = W.length) :
    ∃ W2' Y' X', Y'.length = W.length ∧ X'.length = W.length ∧ L0 (f + (rowsN (subN W R0) h1).length + 1) 1 a (subN W R0) W2 R0 Y X = match nxt R0 W with
      | some R0' => L0 f 1 (g3 V W h1 h2 a R0) (subN W R0') W2' R0' Y' X'
      | none => some (ret (g3 V W h1 h2 a R0)) := by
  have hs := hL.sum
  simp only [List.sum_cons, List.sum_nil] at hs
  have s1 := subN_sum k0
  obtain ⟨l1, l2, l3⟩ := lst_low (subN W R0) h1 (by omega)
  have hf := rows_first (subN W R0) h1 (by omega)
  obtain ⟨W2', Y', X', p1, p2, p3⟩ := lv1 W h0 h1 h2 hL V ret L0 E R0 k0 k1 _ (lst (subN W R0) h1).1 f a X rfl l3 l2 hX
  refine ⟨W2', Y', X', p1, p2, ?_⟩
  rw [E.e1 _ a R0 W2 Y X k0 k1 hY hX]
  unfold g3
  rw [hf, List.length_cons, ← Nat.add_assoc]
  exact p3
theorem lv0 : ∀ (n : Nat) (R0 : List Nat) (f : Nat) (a : A) (W2 Y X : List Nat), (aft R0 W).length = n → leL R0 W → R0.sum = h0 → 1300 * (n + 1) ≤ f → Y.length = W.length → X.length = W.length →
    L0 f 1 a (subN W R0) W2 R0 Y X = some (ret ((R0 :: aft R0 W).foldl (g3 V W h1 h2) a)) := by
  have h5 := hL.h5 h1 (by simp)
  have w4 := hL.w4
  intro n
  induction n with
  | zero =>
    intro R0 f a W2 Y X hn l0 s0 hf hY hX
    have hb := rows_le (ms := subN W R0) (n := h1) (by rw [subN_len l0.len]; omega) h5
    obtain ⟨g, rfl⟩ : ∃ g, f = g + (rowsN (subN W R0) h1).length + 1 := ⟨f - (rowsN (subN W R0) h1).length - 1, by omega⟩
    obtain ⟨W2', Y', X', p1, p2, p3⟩ := lv1' W h0 h1 h2 hL V ret L0 E R0 l0 s0 g a W2 Y X hY hX
    have hx := nxt_ok R0 W l0
    rw [p3]
    cases q : nxt R0 W with
    | some R0' => rw [q] at hx; rw [hx.1] at hn; simp at hn
    | none =>
      rw [q] at hx
      have hx : aft R0 W = [] := hx
      rw [hx]; rfl
  | succ n ih =>
    intro R0 f a W2 Y X hn l0 s0 hf hY hX
    have hb := rows_le (ms := subN W R0) (n := h1) (by rw [subN_len l0.len]; omega) h5
    obtain ⟨g, rfl⟩ : ∃ g, f = g + (rowsN (subN W R0) h1).length + 1 := ⟨f - (rowsN (subN W R0) h1).length - 1, by omega⟩
    obtain ⟨W2', Y', X', p1, p2, p3⟩ := lv1' W h0 h1 h2 hL V ret L0 E R0 l0 s0 g a W2 Y X hY hX
    have hx := nxt_ok R0 W l0
    rw [p3]
    cases q : nxt R0 W with
    | none =>
      rw [q] at hx
      have hx : aft R0 W = [] := hx
      rw [hx] at hn; simp at hn
    | some R0' =>
      rw [q] at hx
      obtain ⟨n1, n2, n3⟩ := hx
      rw [n1] at hn ⊢
      have hs : R0'.sum = h0 := n3.trans s0
      have hg : 1300 * (n + 1) ≤ g := ar1 hf hb
      exact ih R0' g _ W2' Y' X' (by simpa using hn) n2 hs hg p1 p2
theorem each3 (f : Nat) (a : A) (W1 W2 Z Y X : List Nat) (hf : 2000000 ≤ f) (hZ : Z.length = W.length) (hY : Y.length = W.length) (hX : X.length = W.length) :
    L0 f 0 a W1 W2 Z Y X = some (ret ((dealsN [h0, h1, h2] W).foldl (fun a d => V d a) a)) := by
  have hs := hL.sum
  simp only [List.sum_cons, List.sum_nil] at hs
  have h5 := hL.h5 h0 (by simp)
  obtain ⟨l1, l2, l3⟩ := lst_low W h0 (by omega)
  have hr := rows_first W h0 (by omega)
  have hb := rows_le (ms := W) (n := h0) hL.w4 h5
  rw [hr, List.length_cons] at hb
  obtain ⟨g, rfl⟩ : ∃ g, f = g + 1 := ⟨f - 1, by omega⟩
  rw [E.e0 g a W1 W2 Z Y X hZ hY hX, lv0 W h0 h1 h2 hL V ret L0 E _ (lst W h0).1 g a W2 Y X rfl l3 l2 (by omega) hY hX, ← hr]
  congr 2
  simp only [dealsN, foldl_fm, List.foldl_map, List.map_cons, List.map_nil, List.foldl_cons, List.foldl_nil]
  rfl
end three
section two
variable {A Res : Type} (W : List Nat) (h0 h1 : Nat) (hL : Ldn [h0, h1] W) (V : List (List Nat) → A → A) (ret : A → Res) (L0 : Nat → Nat → A → List Nat → List Nat → List Nat → Option Res)
def f2 (V : List (List Nat) → A → A) (W : List Nat) (h1 : Nat) (a : A) (R0 : List Nat) : A := (rowsN (subN W R0) h1).foldl (fun a R1 => V [R0, R1] a) a
structure Eq2 : Prop where
  e1 : ∀ f a R0 X, leL R0 W → R0.sum = h0 → X.length = W.length → ∃ X', X'.length = W.length ∧
    L0 (f + 1) 1 a (subN W R0) R0 X = match nxt R0 W with
      | some R0' => L0 f 1 (f2 V W h1 a R0) (subN W R0') R0' X'
      | none => some (ret (f2 V W h1 a R0))
  e0 : ∀ f a W1 Z X, Z.length = W.length → X.length = W.length →
    L0 (f + 1) 0 a W1 Z X = L0 f 1 a (subN W (lst W h0).1) (lst W h0).1 X
variable (E : Eq2 W h0 h1 V ret L0)
include hL E
theorem lw0 : ∀ (n : Nat) (R0 : List Nat) (f : Nat) (a : A) (X : List Nat), (aft R0 W).length = n → leL R0 W → R0.sum = h0 → n + 1 ≤ f → X.length = W.length →
    L0 f 1 a (subN W R0) R0 X = some (ret ((R0 :: aft R0 W).foldl (f2 V W h1) a)) := by
  intro n
  induction n with
  | zero =>
    intro R0 f a X hn l0 s0 hf hX
    obtain ⟨g, rfl⟩ : ∃ g, f = g + 1 := ⟨f - 1, by omega⟩
    obtain ⟨X', p2, p3⟩ := E.e1 g a R0 X l0 s0 hX
    have hx := nxt_ok R0 W l0
    rw [p3]
    cases q : nxt R0 W with
    | some R0' => rw [q] at hx; rw [hx.1] at hn; simp at hn
    | none =>
      rw [q] at hx
      have hx : aft R0 W = [] := hx
      rw [hx]; rfl
  | succ n ih =>
    intro R0 f a X hn l0 s0 hf hX
    obtain ⟨g, rfl⟩ : ∃ g, f = g + 1 := ⟨f - 1, by omega⟩
    obtain ⟨X', p2, p3⟩ := E.e1 g a R0 X l0 s0 hX
    have hx := nxt_ok R0 W l0
    rw [p3]
    cases q : nxt R0 W with
    | none =>
      rw [q] at hx
      have hx : aft R0 W = [] := hx
      rw [hx] at hn; simp at hn
    | some R0' =>
      rw [q] at hx
      obtain ⟨n1, n2, n3⟩ := hx
      rw [n1] at hn ⊢
      exact ih R0' g _ X' (by simpa using hn) n2 (by omega) (by omega) p2
theorem each2 (f : Nat) (a : A) (W1 Z X : List Nat) (hf : 2000000 ≤ f) (hZ : Z.length = W.length) (hX : X.length = W.length) :
    L0 f 0 a W1 Z X = some (ret ((dealsN [h0, h1] W).foldl (fun a d => V d a) a)) := by
  have hs := hL.sum
  simp only [List.sum_cons, List.sum_nil] at hs
  have h5 := hL.h5 h0 (by simp)
  obtain ⟨l1, l2, l3⟩ := lst_low W h0 (by omega)
  have hr := rows_first W h0 (by omega)
  have hb := rows_le (ms := W) (n := h0) hL.w4 h5
  rw [hr, List.length_cons] at hb
  obtain ⟨g, rfl⟩ : ∃ g, f = g + 1 := ⟨f - 1, by omega⟩
  rw [E.e0 g a W1 Z X hZ hX, lw0 W h0 h1 hL V ret L0 E _ (lst W h0).1 g a X rfl l3 l2 (by omega) hX, ← hr]
  congr 2
  simp only [dealsN, foldl_fm, List.foldl_map, List.map_cons, List.map_nil, List.foldl_cons, List.foldl_nil]
  rfl
end two
theorem foldl_one {A : Type} (V : List (List Nat) → A → A) (W : List Nat) (h0 : Nat) (a : A) : (dealsN [h0] W).foldl (fun a d => V d a) a = (rowsN W h0).foldl (fun a R => V [R] a) a := by
  simp only [dealsN, foldl_fm, List.foldl_map, List.map_cons, List.map_nil, List.foldl_cons, List.foldl_nil]
end Go.Proofs.Yteidcinajdehkaa
namespace Go.Proofs.Yteidcinajdehkaa
open Go.V
set_option linter.unusedSimpArgs false
set_option linter.unusedVariables false
theorem nL_set (X : List Nat) (i x : Nat) : (nL X).set i (.int .i64 (x : Int)) = nL (X.set i x) := by simp [nL, List.map_set]
theorem nL_ap (X Y : List Nat) : nL (X ++ Y) = nL X ++ nL Y := by simp [nL]
theorem gN {α : Type} {X : List Nat} {i : Nat} {f : Int → Option α} (h : i < X.length) : getI .i64 (gp (nL X) i) f = f (nn X i : Int) := by
  rw [nL_gp h]; simp [getI]
theorem nn_ap1 {P S : List Nat} {i : Nat} (h : i < P.length) : nn (P ++ S) i = nn P i := by
  simp [nn, List.getD, List.getElem?_append_left h]
theorem nn_ap2 {P S : List Nat} {i j : Nat} (h : i = P.length + j) : nn (P ++ S) i = nn S j := by
  subst h
  simp only [nn, List.getD]
  rw [List.getElem?_append_right (by omega), show P.length + j - P.length = j by omega]
theorem set_ap2 {P S : List Nat} {i j x : Nat} (h : i = P.length + j) : (P ++ S).set i x = P ++ S.set j x := by
  subst h
  rw [List.set_append_right _ _ (by omega), show P.length + j - P.length = j by omega]
theorem nn_zero (x : Nat) (X : List Nat) : nn (x :: X) 0 = x := rfl
theorem minN (a b : Nat) : minI (a : Int) (b : Int) = ((min a b : Nat) : Int) := by
  unfold minI; split <;> omega
theorem drop_nn' {P : List Nat} {k : Nat} (h : k < P.length) : P.drop k = nn P k :: P.drop (k + 1) := by
  rw [List.drop_eq_getElem_cons h]; simp [nn, List.getD, h]
theorem take_nn {P : List Nat} {k : Nat} (h : k < P.length) : P.take (k + 1) = P.take k ++ [nn P k] := by
  rw [List.take_add_one]
  simp [nn, List.getD, h]
theorem lst_len : ∀ (ms : List Nat) (n : Nat), (lst ms n).1.length = ms.length
  | [], _ => rfl
  | m :: ms, n => by rw [lst]; simp [lst_len ms n]
theorem lst_le : ∀ (ms : List Nat) (n : Nat), (lst ms n).2 ≤ n
  | [], _ => Nat.le_refl _
  | m :: ms, n => by
    have := lst_le ms n
    rw [lst]; simp only; omega
theorem least_L (N : Nat) (M P S R : List Nat) (n0 : Nat) (hn : n0 ≤ 1000) (hM : M.length ≤ 1000) (hR : R.length = M.length) : ∀ (t fuel : Nat), t ≤ M.length → t < fuel →
    m95_L0 N P.length M.length M.length (nL M) fuel ((lst (M.drop t) n0).2 : Int) ((t : Int) - 1) (nL (P ++ (R.take t ++ (lst (M.drop t) n0).1) ++ S)) = some (nL (P ++ (lst M n0).1 ++ S))
  | t, 0, _, h => by omega
  | 0, f + 1, _, _ => by
    rw [m95_L0, brn_f (by simp)]
    simp
  | t + 1, f + 1, ht, hf => by
    have ih := least_L N M P S R n0 hn hM hR t f (by omega) (by omega)
    have hl := nL_len M
    have hd := drop_nn' (P := M) (k := t) (by omega)
    have hle := lst_le (M.drop (t + 1)) n0
    have hll := lst_len (M.drop (t + 1)) n0
    have htk := take_nn (P := R) (k := t) (by omega)
    generalize hq : lst (M.drop (t + 1)) n0 = q at ih hle hll ⊢
    have e1 : lst (M.drop t) n0 = (min q.2 (nn M t) :: q.1, q.2 - nn M t) := by rw [hd, lst, hq]
    rw [e1] at ih
    have hrl : (R.take t).length = t := by rw [List.length_take]; omega
    have hlen : (P ++ (R.take (t + 1) ++ q.1) ++ S).length = P.length + (t + 1) + q.1.length + S.length := by
      simp only [List.length_append, List.length_take]; omega
    have es : (P ++ (R.take (t + 1) ++ q.1) ++ S).set (P.length + t) (min q.2 (nn M t)) = P ++ (R.take t ++ (min q.2 (nn M t) :: q.1)) ++ S := by
      rw [htk, List.append_assoc, List.append_assoc, List.append_assoc]
      rw [set_ap2 (j := t) rfl, set_ap2 (j := 0) (by omega)]
      simp
    rw [m95_L0, show ((t + 1 : Nat) : Int) - 1 = (t : Int) by omega, brn_t (by simp), toNatN, grd_t ⟨by omega, by omega⟩, grd_t (by simp only [List.length_drop]; omega), gN (by omega), grd_t (by omega)]
    rw [nL_len, grd_t (by omega), grd_t (by omega), minN, nL_set, es, gN (by simp only [List.length_append, List.length_cons]; omega)]
    rw [List.append_assoc, nn_ap2 (j := t) rfl, List.append_assoc, nn_ap2 (j := 0) (by omega), List.cons_append, nn_zero]
    rw [wrap64 (n := (q.2 : Int) - ((min q.2 (nn M t) : Nat) : Int)) (by omega) (by omega), wrap64 (n := (t : Int) - 1) (by omega) (by omega)]
    rw [show (q.2 : Int) - ((min q.2 (nn M t) : Nat) : Int) = ((q.2 - nn M t : Nat) : Int) by omega]
    rw [← List.cons_append, ← List.append_assoc (R.take t), ← List.append_assoc P]
    exact ih
theorem least_ok (N : Nat) (hN : 2000 ≤ N) (M P S R : List Nat) (n0 : Nat) (hn : n0 ≤ 1000) (hM : M.length ≤ 1000) (hR : R.length = M.length) :
    m95 N P.length M.length (rwN M) (n0 : Int) (nL (P ++ R ++ S)) = some (.tup [], nL (P ++ (lst M n0).1 ++ S)) := by
  have h := least_L N M P S R n0 hn hM hR M.length N (Nat.le_refl _) (by omega)
  rw [List.drop_length, lst, List.append_nil, List.take_of_length_le (by omega)] at h
  simp only [m95, rwN, getL]
  rw [wrap64 (n := (M.length : Int) - 1) (by omega) (by omega), h]
  rfl
def onx (P S : List Nat) : Option (List Nat) → Option ((PV × List PV) ⊕ Unit)
  | some q => some (.inl (.bool true, nL (P ++ q ++ S)))
  | none => some (.inr ())
theorem next_L (N : Nat) (hN : 2000 ≤ N) (M P S R : List Nat) (hM : M.length ≤ 100) (hR : R.length = M.length) (hv : ∀ x ∈ R, x ≤ 100) (hs : R.sum ≤ 1000) : ∀ (t fuel : Nat), t ≤ M.length → t < fuel → nxt (R.drop t) (M.drop t) = none →
    m96_L0 N P.length M.length (nL (P ++ R ++ S)) M.length (nL M) fuel ((R.drop t).sum : Int) ((t : Int) - 1) = onx P S (nxt R M)
  | t, 0, _, h, _ => by omega
  | 0, f + 1, _, _, hx => by
    rw [m96_L0, brn_f (by simp)]
    rw [List.drop_zero, List.drop_zero] at hx
    rw [hx]; rfl
  | t + 1, f + 1, ht, hf, hx => by
    have ih := next_L N hN M P S R hM hR hv hs t f (by omega) (by omega)
    have hl := nL_len M
    have hd := drop_nn' (P := M) (k := t) (by omega)
    have hr := drop_nn' (P := R) (k := t) (by omega)
    have hlen : (P ++ R ++ S).length = P.length + R.length + S.length := by
      simp only [List.length_append]
    have hrv := hv _ (nn_mem (X := R) (i := t) (by omega))
    have hsum : (R.drop (t + 1)).sum + nn R t ≤ 1000 := by
      have : R.sum = (R.take t).sum + (R.drop t).sum := by rw [← List.sum_append, List.take_append_drop]
      rw [hr, List.sum_cons] at this; omega
    have hgp : nn (P ++ R ++ S) (P.length + t) = nn R t := by
      rw [List.append_assoc, nn_ap2 (j := t) rfl, nn_ap1 (by omega)]
    rw [m96_L0, show ((t + 1 : Nat) : Int) - 1 = (t : Int) by omega, brn_t (by simp), toNatN, nL_len]
    have nx : nxt (R.drop t) (M.drop t) = if 0 < (R.drop (t + 1)).sum ∧ nn R t < nn M t then some ((nn R t + 1) :: (lst (M.drop (t + 1)) ((R.drop (t + 1)).sum - 1)).1) else none := by
      rw [hr, hd, nxt, hx]
    have hsm : (R.drop t).sum = nn R t + (R.drop (t + 1)).sum := by rw [hr, List.sum_cons]
    have back : ¬ (0 < (R.drop (t + 1)).sum ∧ nn R t < nn M t) → m96_L0 N P.length M.length (nL (P ++ R ++ S)) M.length (nL M) f (IntKind.i64.wrap (((R.drop (t + 1)).sum : Int) + (nn R t : Int))) (IntKind.i64.wrap ((t : Int) - 1)) = onx P S (nxt R M) := fun hc => by
      rw [if_neg hc] at nx
      rw [wrap64 (by omega) (by omega), wrap64 (by omega) (by omega), show ((R.drop (t + 1)).sum : Int) + (nn R t : Int) = ((R.drop t).sum : Int) by omega]
      exact ih nx
    by_cases hb : 0 < (R.drop (t + 1)).sum
    · rw [brn_t (by simp; omega), grd_t ⟨by omega, by omega⟩, grd_t (by omega), gN (by omega), hgp, grd_t (by omega), grd_t (by simp only [List.length_drop]; omega), gN (by omega)]
      by_cases hc : nn R t < nn M t
      · rw [if_pos ⟨hb, hc⟩] at nx
        have hnx := nxt_drop R M t _ nx
        have hrl : (R.take t).length = t := by rw [List.length_take]; omega
        have es : (P ++ R ++ S).set (P.length + t) (nn R t + 1) = (P ++ R.take t ++ [nn R t + 1]) ++ R.drop (t + 1) ++ S := by
          have e0 : P ++ R ++ S = P ++ (R.take t ++ (nn R t :: (R.drop (t + 1) ++ S))) := by
            rw [show (nn R t :: (R.drop (t + 1) ++ S)) = (nn R t :: R.drop (t + 1)) ++ S from rfl, ← hr, ← List.append_assoc (R.take t), List.take_append_drop, List.append_assoc]
          rw [e0, set_ap2 (j := t) rfl, set_ap2 (j := 0) (by omega)]
          simp
        have hle := least_ok N hN (M.drop (t + 1)) (P ++ R.take t ++ [nn R t + 1]) S (R.drop (t + 1)) ((R.drop (t + 1)).sum - 1) (by omega) (by rw [List.length_drop]; omega) (by rw [List.length_drop, List.length_drop]; omega)
        have e1 : (P ++ R.take t ++ [nn R t + 1]).length = P.length + (t + 1) := by simp only [List.length_append, List.length_cons, List.length_nil]; omega
        have hmd := nL_len (M.drop (t + 1))
        rw [e1, List.length_drop] at hle
        rw [brn_t (by simp; omega), grd_t (by omega), wrapN (by omega), grd_t ⟨by omega, by omega⟩, grd_t (by omega), grd_t (by omega), toNatN, wrap64 (n := ((R.drop (t + 1)).sum : Int) - 1) (by omega) (by omega)]
        rw [show ((nn R t : Int) + 1) = ((nn R t + 1 : Nat) : Int) by omega, wrap64 (n := ((nn R t + 1 : Nat) : Int)) (by omega) (by omega), nL_set, es]
        rw [show ((R.drop (t + 1)).sum : Int) - 1 = (((R.drop (t + 1)).sum - 1 : Nat) : Int) by omega, show Int.toNat ((M.length : Int) - ((t + 1 : Nat) : Int)) = M.length - (t + 1) by omega]
        have e2 : PV.lst false (M.length - (t + 1)) (List.drop (t + 1) (nL M)) = rwN (M.drop (t + 1)) := by simp [rwN, nL]
        rw [e2, hle, hnx]
        simp [bnd', getT0, onx]
      · rw [brn_f (by simp; omega)]
        exact back fun h => hc h.2
    · rw [brn_f (by simp; omega), grd_t ⟨by omega, by omega⟩, grd_t (by omega), gN (by omega), hgp]
      exact back fun h => hb h.1
def onP (P S R : List Nat) : Option (List Nat) → PV × List PV
  | some q => (.bool true, nL (P ++ q ++ S))
  | none => (.bool false, nL (P ++ R ++ S))
theorem next_ok (N : Nat) (hN : 2000 ≤ N) (M P S R : List Nat) (hM : M.length ≤ 100) (hR : R.length = M.length) (hv : ∀ x ∈ R, x ≤ 100) (hs : R.sum ≤ 1000) :
    m96 N P.length M.length (rwN M) (nL (P ++ R ++ S)) = some (onP P S R (nxt R M)) := by
  have h := next_L N hN M P S R hM hR hv hs M.length N (Nat.le_refl _) (by omega) (by rw [List.drop_of_length_le (by omega), List.drop_of_length_le (by omega)]; rfl)
  rw [List.drop_of_length_le (l := R) (by omega)] at h
  simp only [m96, rwN, getL]
  rw [wrap64 (n := (M.length : Int) - 1) (by omega) (by omega), show m96_L0 N P.length M.length (nL (P ++ R ++ S)) M.length (nL M) N 0 ((M.length : Int) - 1) = _ from h]
  cases nxt R M <;> rfl
theorem kj_t {α : Type} {n v : Int} {k1 k2 : Option α} (h : n = v) : casI n v k1 k2 = k1 := if_pos h
theorem kj_f {α : Type} {n v : Int} {k1 k2 : Option α} (h : n ≠ v) : casI n v k1 k2 = k2 := if_neg h
theorem bj_t {α β : Type} {x : α} {f : α → Option β} : bnd' (some x) f = f x := rfl
theorem gjB {α : Type} {b : Bool} {f : Bool → Option α} : getB (.bool b) f = f b := rfl
theorem gjT {α : Type} {k : Option α} : getT0 (.tup []) k = k := rfl
theorem gjL {α : Type} {X : List Nat} {f : Nat → List PV → Option α} : getL (rwN X) f = f X.length (nL X) := rfl
theorem leL.le5 : ∀ {r ms : List Nat}, leL r ms → (∀ x ∈ ms, x ≤ 5) → ∀ x ∈ r, x ≤ 5
  | [], [], _, _, x, hx => by simp at hx
  | y :: r, m :: ms, h, hm, x, hx => by
    have h1 := h.1
    have h2 := hm m (.head _)
    rcases List.mem_cons.1 hx with rfl | hx
    · omega
    · exact h.2.le5 (fun z hz => hm z (.tail _ hz)) x hx
  | [], _ :: _, h, _, _, _ => h.elim
  | _ :: _, [], h, _, _, _ => h.elim
theorem leL.sub : ∀ {r ms : List Nat}, leL r ms → leL (subN ms r) ms
  | [], [], _ => trivial
  | y :: r, m :: ms, h => ⟨by simp, h.2.sub⟩
  | [], _ :: _, h => h.elim
  | _ :: _, [], h => h.elim
theorem sum5 : ∀ {r : List Nat}, (∀ x ∈ r, x ≤ 5) → r.sum ≤ 5 * r.length
  | [], _ => by simp
  | x :: r, h => by
    have ih := sum5 (r := r) fun y hy => h y (.tail _ hy)
    have := h x (.head _)
    simp only [List.sum_cons, List.length_cons]; omega
theorem leL.nn : ∀ {r ms : List Nat}, leL r ms → ∀ j, j < ms.length → nn r j ≤ nn ms j
  | x :: r, m :: ms, h, 0, _ => h.1
  | x :: r, m :: ms, h, j + 1, hj => by
    have := h.2.nn j (by simpa using hj)
    simpa [Proofs.Yteidcinajdehkaa.nn, List.getD] using this
  | [], [], h, j, hj => by simp at hj
  | [], _ :: _, h, _, _ => h.elim
  | _ :: _, [], h, _, _ => h.elim
theorem subN_nn {w r : List Nat} (h : r.length = w.length) {j : Nat} (hj : j < w.length) : nn (subN w r) j = nn w j - nn r j := by
  simp [nn, subN, List.getD, List.getElem?_zipWith, hj, h]
theorem sub_step {M R : List Nat} (h : leL R M) {j : Nat} (hj : j < M.length) : ((subN M R).take j ++ M.drop j).length = M.length ∧ nn ((subN M R).take j ++ M.drop j) j = nn M j ∧
    ((subN M R).take j ++ M.drop j).set j (nn M j - nn R j) = (subN M R).take (j + 1) ++ M.drop (j + 1) := by
  have hl := subN_len h.len
  have ht : ((subN M R).take j).length = j := by rw [List.length_take]; omega
  have hd := drop_nn' (P := M) (k := j) hj
  refine ⟨by rw [List.length_append, ht, List.length_drop]; omega, ?_, ?_⟩
  · rw [nn_ap2 (j := 0) (by omega), hd, nn_zero]
  · rw [set_ap2 (j := 0) (by omega), hd, List.set_cons_zero, take_nn (by omega), subN_nn h.len hj, List.append_assoc]
    rfl
theorem gjA2 {α : Type} {x y : PV} {f : PV → PV → Option α} : getA2 (.agg [x, y]) f = f x y := rfl
theorem kjN_t {α : Type} {n v : Nat} {k1 k2 : Option α} (h : n = v) : casN n v k1 k2 = k1 := if_pos h
theorem kjN_f {α : Type} {n v : Nat} {k1 k2 : Option α} (h : n ≠ v) : casN n v k1 k2 = k2 := if_neg h
theorem gh0 {α : Type} {x : Nat} {l : List Nat} {f : Int → Option α} : getI .i64 (gp (nL (x :: l)) 0) f = f (x : Int) := by simp [nL, gp, getI, List.getD]
theorem gh1 {α : Type} {x y : Nat} {l : List Nat} {f : Int → Option α} : getI .i64 (gp (nL (x :: y :: l)) 1) f = f (y : Int) := by simp [nL, gp, getI, List.getD]
theorem gh2 {α : Type} {x y z : Nat} {l : List Nat} {f : Int → Option α} : getI .i64 (gp (nL (x :: y :: z :: l)) 2) f = f (z : Int) := by simp [nL, gp, getI, List.getD]
theorem clq_ok (N : Nat) (X : List Nat) (h : 1 ≤ X.length) (h2 : X.length ≤ 1000) : m53 N (.lst false X.length (nL X)) = some (X.length, nL X) := by
  have := nL_len X
  simp only [m53, getL]
  rw [grd_t (by omega), grd_t (by omega), grd_t (by omega)]
theorem putQ_app : ∀ (ps cs : List PV) (k : Nat), k + ps.length ≤ cs.length → putP cs k ps = cs.take k ++ ps ++ cs.drop (k + ps.length)
  | [], cs, k, h => by simp [putP]
  | p :: ps, cs, k, h => by
    simp only [List.length_cons] at h
    rw [putP, putQ_app ps (cs.set k p) (k + 1) (by simp; omega)]
    have e1 : (cs.set k p).take (k + 1) = cs.take k ++ [p] := by
      rw [List.set_eq_take_append_cons_drop, if_pos (by omega), List.take_append, List.length_take, Nat.min_eq_left (by omega), show k + 1 - k = 1 by omega, List.take_take]
      simp
    have e2 : (cs.set k p).drop (k + 1 + ps.length) = cs.drop (k + (ps.length + 1)) := by
      rw [List.drop_set_of_lt (by omega)]; congr 1; omega
    rw [e1, e2, List.length_cons]
    simp
def ce1 (R0 : List Nat) : List PV := nL (R0)
theorem ce1_len (R0 : List Nat) : (ce1 R0).length = R0.length := by simp [ce1, nL_len, Nat.add_assoc]
theorem le1_0 (N : Nat) (hN : 2000 ≤ N) (k : Nat) (R0 M : List Nat) (n : Nat) (l0 : R0.length = k) (lM : M.length = k) (hk : k ≤ 4) (hn : n ≤ 1000) :
    m95 N 0 k (rwN M) (n : Int) (ce1 R0) = some (.tup [], ce1 (lst M n).1) := by
  have h := least_ok N hN M [] ([]) R0 n hn (by omega) (by omega)
  have e : ∀ X : List Nat, nL ([] ++ X ++ ([])) = ce1 X := fun X => by simp [ce1]
  rw [e, e, show [].length = 0 by first | rfl | omega | (simp only [List.length_append]; omega), lM] at h
  exact h
theorem nx1_0 (N : Nat) (hN : 2000 ≤ N) (k : Nat) (R0 M : List Nat) (l0 : R0.length = k) (lM : M.length = k) (hk : k ≤ 4) (h5 : ∀ x ∈ R0, x ≤ 5) :
    m96 N 0 k (rwN M) (ce1 R0) = some (match nxt R0 M with | some q => (.bool true, ce1 q) | none => (.bool false, ce1 R0)) := by
  have hs := sum5 h5
  have h := next_ok N hN M [] ([]) R0 (by omega) (by omega) (fun x hx => by have := h5 x hx; omega) (by omega)
  have e : ∀ X : List Nat, nL ([] ++ X ++ ([])) = ce1 X := fun X => by simp [ce1]
  rw [e, show [].length = 0 by first | rfl | omega | (simp only [List.length_append]; omega), lM] at h
  rw [h]
  cases nxt R0 M with
  | some q => simp only [onP, e]
  | none => simp only [onP, e]
theorem gv1_0 {α : Type} {f : Int → Option α} (k : Nat) (R0 : List Nat) (l0 : R0.length = k) (j : Nat) (hj : j < k) : getI .i64 (gp (ce1 R0) (0 + j)) f = f (nn R0 j : Int) := by
  have e : ce1 R0 = nL ([] ++ (R0 ++ ([]))) := by simp [ce1]
  rw [e, gN (by first | omega | rfl | (simp only [List.length_append, List.length_nil]; done) | (simp only [List.length_append, List.length_nil]; omega)), nn_ap2 (j := j) (by first | omega | rfl | (simp only [List.length_append, List.length_nil]; done) | (simp only [List.length_append, List.length_nil]; omega)), nn_ap1 (by omega)]
theorem tk1_0 (k : Nat) (R0 : List Nat) (l0 : R0.length = k) : List.take k (List.drop 0 (ce1 R0)) = nL R0 := by
  have e : ce1 R0 = nL [] ++ (nL R0 ++ nL ([])) := by simp [ce1, nL]
  have e1 : (nL []).length = 0 := by rw [nL_len]; first | rfl | omega | (simp only [List.length_append]; omega)
  have e2 := nL_len R0
  rw [e, List.drop_append_of_le_length (by omega), List.drop_of_length_le (l := nL []) (by omega), List.nil_append, List.take_append_of_le_length (by omega), List.take_of_length_le (by omega)]
theorem pu1_0 (k : Nat) (R0 Q : List Nat) (l0 : R0.length = k) (lQ : Q.length = k) : putP (ce1 R0) 0 (List.take (min k k) (nL Q)) = ce1 Q := by
  have e : ∀ X : List Nat, ce1 X = nL [] ++ (nL X ++ nL ([])) := fun X => by simp [ce1, nL]
  have e1 : (nL []).length = 0 := by rw [nL_len]; first | rfl | omega | (simp only [List.length_append]; omega)
  have e2 := nL_len R0
  have e3 := nL_len Q
  rw [Nat.min_self, List.take_of_length_le (by omega), putQ_app _ _ _ (by rw [ce1_len]; omega), e, e Q, List.take_append_of_le_length (by omega), List.take_of_length_le (by omega)]
  rw [show 0 + (nL Q).length = (nL []).length + k by omega, List.drop_append, List.drop_of_length_le (by omega), List.nil_append, show (nL []).length + k - (nL []).length = k by omega, List.drop_append_of_le_length (by omega), List.drop_of_length_le (l := nL R0) (by omega), List.nil_append, List.append_assoc]
theorem tb1 (N k : Nat) (hk : k ≤ 4) (cs ws : List PV) : m60 N cs (.lst false k ws) = some (0, k, ce1 (List.replicate k 0)) := by
  simp only [m60, getL]
  rw [wrap64 (n := 0 * (k : Int)) (by omega) (by omega), wrap64 (n := 1 * (k : Int)) (by omega) (by omega)]
  rw [grd_t ⟨by omega, by omega, by omega⟩, grd_t ⟨by omega, by omega, by omega⟩]
  have e : Int.toNat (1 * (k : Int)) = k := by omega
  have e1 : Int.toNat (0 * (k : Int)) = 0 := by omega
  have e2 : Int.toNat (1 * (k : Int) - 0 * (k : Int)) = k := by omega
  have e3 : Int.toNat (1 * (k : Int)) = k := by omega
  have e4 : Int.toNat (2 * (k : Int) - 1 * (k : Int)) = k := by omega
  have e5 : Int.toNat (2 * (k : Int)) = 2 * k := by omega
  have e6 : Int.toNat (3 * (k : Int) - 2 * (k : Int)) = k := by omega
  simp only [e, e1, e2, e3, e4, e5, e6]
  have ec : List.replicate (k) (PV.int .i64 0) = ce1 (List.replicate k 0) := by simp [ce1, nL, List.replicate_append_replicate] <;> omega
  rw [ec]
def ce2 (R0 R1 : List Nat) : List PV := nL (R0 ++ R1)
theorem ce2_len (R0 R1 : List Nat) : (ce2 R0 R1).length = R0.length + R1.length := by simp [ce2, nL_len, Nat.add_assoc]
theorem le2_0 (N : Nat) (hN : 2000 ≤ N) (k : Nat) (R0 R1 M : List Nat) (n : Nat) (l0 : R0.length = k) (l1 : R1.length = k) (lM : M.length = k) (hk : k ≤ 4) (hn : n ≤ 1000) :
    m95 N 0 k (rwN M) (n : Int) (ce2 R0 R1) = some (.tup [], ce2 (lst M n).1 R1) := by
  have h := least_ok N hN M [] (R1) R0 n hn (by omega) (by omega)
  have e : ∀ X : List Nat, nL ([] ++ X ++ (R1)) = ce2 X R1 := fun X => by simp [ce2]
  rw [e, e, show [].length = 0 by first | rfl | omega | (simp only [List.length_append]; omega), lM] at h
  exact h
theorem nx2_0 (N : Nat) (hN : 2000 ≤ N) (k : Nat) (R0 R1 M : List Nat) (l0 : R0.length = k) (l1 : R1.length = k) (lM : M.length = k) (hk : k ≤ 4) (h5 : ∀ x ∈ R0, x ≤ 5) :
    m96 N 0 k (rwN M) (ce2 R0 R1) = some (match nxt R0 M with | some q => (.bool true, ce2 q R1) | none => (.bool false, ce2 R0 R1)) := by
  have hs := sum5 h5
  have h := next_ok N hN M [] (R1) R0 (by omega) (by omega) (fun x hx => by have := h5 x hx; omega) (by omega)
  have e : ∀ X : List Nat, nL ([] ++ X ++ (R1)) = ce2 X R1 := fun X => by simp [ce2]
  rw [e, show [].length = 0 by first | rfl | omega | (simp only [List.length_append]; omega), lM] at h
  rw [h]
  cases nxt R0 M with
  | some q => simp only [onP, e]
  | none => simp only [onP, e]
theorem gv2_0 {α : Type} {f : Int → Option α} (k : Nat) (R0 R1 : List Nat) (l0 : R0.length = k) (l1 : R1.length = k) (j : Nat) (hj : j < k) : getI .i64 (gp (ce2 R0 R1) (0 + j)) f = f (nn R0 j : Int) := by
  have e : ce2 R0 R1 = nL ([] ++ (R0 ++ (R1))) := by simp [ce2]
  rw [e, gN (by first | omega | rfl | (simp only [List.length_append, List.length_nil]; done) | (simp only [List.length_append, List.length_nil]; omega)), nn_ap2 (j := j) (by first | omega | rfl | (simp only [List.length_append, List.length_nil]; done) | (simp only [List.length_append, List.length_nil]; omega)), nn_ap1 (by omega)]
theorem tk2_0 (k : Nat) (R0 R1 : List Nat) (l0 : R0.length = k) (l1 : R1.length = k) : List.take k (List.drop 0 (ce2 R0 R1)) = nL R0 := by
  have e : ce2 R0 R1 = nL [] ++ (nL R0 ++ nL (R1)) := by simp [ce2, nL]
  have e1 : (nL []).length = 0 := by rw [nL_len]; first | rfl | omega | (simp only [List.length_append]; omega)
  have e2 := nL_len R0
  rw [e, List.drop_append_of_le_length (by omega), List.drop_of_length_le (l := nL []) (by omega), List.nil_append, List.take_append_of_le_length (by omega), List.take_of_length_le (by omega)]
theorem pu2_0 (k : Nat) (R0 R1 Q : List Nat) (l0 : R0.length = k) (l1 : R1.length = k) (lQ : Q.length = k) : putP (ce2 R0 R1) 0 (List.take (min k k) (nL Q)) = ce2 Q R1 := by
  have e : ∀ X : List Nat, ce2 X R1 = nL [] ++ (nL X ++ nL (R1)) := fun X => by simp [ce2, nL]
  have e1 : (nL []).length = 0 := by rw [nL_len]; first | rfl | omega | (simp only [List.length_append]; omega)
  have e2 := nL_len R0
  have e3 := nL_len Q
  rw [Nat.min_self, List.take_of_length_le (by omega), putQ_app _ _ _ (by rw [ce2_len]; omega), e, e Q, List.take_append_of_le_length (by omega), List.take_of_length_le (by omega)]
  rw [show 0 + (nL Q).length = (nL []).length + k by omega, List.drop_append, List.drop_of_length_le (by omega), List.nil_append, show (nL []).length + k - (nL []).length = k by omega, List.drop_append_of_le_length (by omega), List.drop_of_length_le (l := nL R0) (by omega), List.nil_append, List.append_assoc]
theorem le2_1 (N : Nat) (hN : 2000 ≤ N) (k : Nat) (R0 R1 M : List Nat) (n : Nat) (l0 : R0.length = k) (l1 : R1.length = k) (lM : M.length = k) (hk : k ≤ 4) (hn : n ≤ 1000) :
    m95 N k k (rwN M) (n : Int) (ce2 R0 R1) = some (.tup [], ce2 R0 (lst M n).1) := by
  have h := least_ok N hN M R0 ([]) R1 n hn (by omega) (by omega)
  have e : ∀ X : List Nat, nL (R0 ++ X ++ ([])) = ce2 R0 X := fun X => by simp [ce2]
  rw [e, e, show R0.length = k by first | rfl | omega | (simp only [List.length_append]; omega), lM] at h
  exact h
theorem nx2_1 (N : Nat) (hN : 2000 ≤ N) (k : Nat) (R0 R1 M : List Nat) (l0 : R0.length = k) (l1 : R1.length = k) (lM : M.length = k) (hk : k ≤ 4) (h5 : ∀ x ∈ R1, x ≤ 5) :
    m96 N k k (rwN M) (ce2 R0 R1) = some (match nxt R1 M with | some q => (.bool true, ce2 R0 q) | none => (.bool false, ce2 R0 R1)) := by
  have hs := sum5 h5
  have h := next_ok N hN M R0 ([]) R1 (by omega) (by omega) (fun x hx => by have := h5 x hx; omega) (by omega)
  have e : ∀ X : List Nat, nL (R0 ++ X ++ ([])) = ce2 R0 X := fun X => by simp [ce2]
  rw [e, show R0.length = k by first | rfl | omega | (simp only [List.length_append]; omega), lM] at h
  rw [h]
  cases nxt R1 M with
  | some q => simp only [onP, e]
  | none => simp only [onP, e]
theorem gv2_1 {α : Type} {f : Int → Option α} (k : Nat) (R0 R1 : List Nat) (l0 : R0.length = k) (l1 : R1.length = k) (j : Nat) (hj : j < k) : getI .i64 (gp (ce2 R0 R1) (k + j)) f = f (nn R1 j : Int) := by
  have e : ce2 R0 R1 = nL (R0 ++ (R1 ++ ([]))) := by simp [ce2]
  rw [e, gN (by first | omega | rfl | (simp only [List.length_append, List.length_nil]; done) | (simp only [List.length_append, List.length_nil]; omega)), nn_ap2 (j := j) (by first | omega | rfl | (simp only [List.length_append, List.length_nil]; done) | (simp only [List.length_append, List.length_nil]; omega)), nn_ap1 (by omega)]
theorem tk2_1 (k : Nat) (R0 R1 : List Nat) (l0 : R0.length = k) (l1 : R1.length = k) : List.take k (List.drop k (ce2 R0 R1)) = nL R1 := by
  have e : ce2 R0 R1 = nL R0 ++ (nL R1 ++ nL ([])) := by simp [ce2, nL]
  have e1 : (nL R0).length = k := by rw [nL_len]; first | rfl | omega | (simp only [List.length_append]; omega)
  have e2 := nL_len R1
  rw [e, List.drop_append_of_le_length (by omega), List.drop_of_length_le (l := nL R0) (by omega), List.nil_append, List.take_append_of_le_length (by omega), List.take_of_length_le (by omega)]
theorem pu2_1 (k : Nat) (R0 R1 Q : List Nat) (l0 : R0.length = k) (l1 : R1.length = k) (lQ : Q.length = k) : putP (ce2 R0 R1) k (List.take (min k k) (nL Q)) = ce2 R0 Q := by
  have e : ∀ X : List Nat, ce2 R0 X = nL R0 ++ (nL X ++ nL ([])) := fun X => by simp [ce2, nL]
  have e1 : (nL R0).length = k := by rw [nL_len]; first | rfl | omega | (simp only [List.length_append]; omega)
  have e2 := nL_len R1
  have e3 := nL_len Q
  rw [Nat.min_self, List.take_of_length_le (by omega), putQ_app _ _ _ (by rw [ce2_len]; omega), e, e Q, List.take_append_of_le_length (by omega), List.take_of_length_le (by omega)]
  rw [show k + (nL Q).length = (nL R0).length + k by omega, List.drop_append, List.drop_of_length_le (by omega), List.nil_append, show (nL R0).length + k - (nL R0).length = k by omega, List.drop_append_of_le_length (by omega), List.drop_of_length_le (l := nL R1) (by omega), List.nil_append, List.append_assoc]
theorem tb2 (N k : Nat) (hk : k ≤ 4) (cs ws : List PV) : m60_2 N cs (.lst false k ws) = some (0, k, k, k, ce2 (List.replicate k 0) (List.replicate k 0)) := by
  simp only [m60_2, getL]
  rw [wrap64 (n := 0 * (k : Int)) (by omega) (by omega), wrap64 (n := 1 * (k : Int)) (by omega) (by omega), wrap64 (n := 2 * (k : Int)) (by omega) (by omega)]
  rw [grd_t ⟨by omega, by omega, by omega⟩, grd_t ⟨by omega, by omega, by omega⟩, grd_t ⟨by omega, by omega, by omega⟩]
  have e : Int.toNat (2 * (k : Int)) = 2 * k := by omega
  have e1 : Int.toNat (0 * (k : Int)) = 0 := by omega
  have e2 : Int.toNat (1 * (k : Int) - 0 * (k : Int)) = k := by omega
  have e3 : Int.toNat (1 * (k : Int)) = k := by omega
  have e4 : Int.toNat (2 * (k : Int) - 1 * (k : Int)) = k := by omega
  have e5 : Int.toNat (2 * (k : Int)) = 2 * k := by omega
  have e6 : Int.toNat (3 * (k : Int) - 2 * (k : Int)) = k := by omega
  simp only [e, e1, e2, e3, e4, e5, e6]
  have ec : List.replicate (2 * k) (PV.int .i64 0) = ce2 (List.replicate k 0) (List.replicate k 0) := by simp [ce2, nL, List.replicate_append_replicate] <;> omega
  rw [ec]
def ce3 (R0 R1 R2 : List Nat) : List PV := nL (R0 ++ R1 ++ R2)
theorem ce3_len (R0 R1 R2 : List Nat) : (ce3 R0 R1 R2).length = R0.length + R1.length + R2.length := by simp [ce3, nL_len, Nat.add_assoc]
theorem le3_0 (N : Nat) (hN : 2000 ≤ N) (k : Nat) (R0 R1 R2 M : List Nat) (n : Nat) (l0 : R0.length = k) (l1 : R1.length = k) (l2 : R2.length = k) (lM : M.length = k) (hk : k ≤ 4) (hn : n ≤ 1000) :
    m95 N 0 k (rwN M) (n : Int) (ce3 R0 R1 R2) = some (.tup [], ce3 (lst M n).1 R1 R2) := by
  have h := least_ok N hN M [] (R1 ++ R2) R0 n hn (by omega) (by omega)
  have e : ∀ X : List Nat, nL ([] ++ X ++ (R1 ++ R2)) = ce3 X R1 R2 := fun X => by simp [ce3]
  rw [e, e, show [].length = 0 by first | rfl | omega | (simp only [List.length_append]; omega), lM] at h
  exact h
theorem nx3_0 (N : Nat) (hN : 2000 ≤ N) (k : Nat) (R0 R1 R2 M : List Nat) (l0 : R0.length = k) (l1 : R1.length = k) (l2 : R2.length = k) (lM : M.length = k) (hk : k ≤ 4) (h5 : ∀ x ∈ R0, x ≤ 5) :
    m96 N 0 k (rwN M) (ce3 R0 R1 R2) = some (match nxt R0 M with | some q => (.bool true, ce3 q R1 R2) | none => (.bool false, ce3 R0 R1 R2)) := by
  have hs := sum5 h5
  have h := next_ok N hN M [] (R1 ++ R2) R0 (by omega) (by omega) (fun x hx => by have := h5 x hx; omega) (by omega)
  have e : ∀ X : List Nat, nL ([] ++ X ++ (R1 ++ R2)) = ce3 X R1 R2 := fun X => by simp [ce3]
  rw [e, show [].length = 0 by first | rfl | omega | (simp only [List.length_append]; omega), lM] at h
  rw [h]
  cases nxt R0 M with
  | some q => simp only [onP, e]
  | none => simp only [onP, e]
theorem gv3_0 {α : Type} {f : Int → Option α} (k : Nat) (R0 R1 R2 : List Nat) (l0 : R0.length = k) (l1 : R1.length = k) (l2 : R2.length = k) (j : Nat) (hj : j < k) : getI .i64 (gp (ce3 R0 R1 R2) (0 + j)) f = f (nn R0 j : Int) := by
  have e : ce3 R0 R1 R2 = nL ([] ++ (R0 ++ (R1 ++ R2))) := by simp [ce3]
  rw [e, gN (by first | omega | rfl | (simp only [List.length_append, List.length_nil]; done) | (simp only [List.length_append, List.length_nil]; omega)), nn_ap2 (j := j) (by first | omega | rfl | (simp only [List.length_append, List.length_nil]; done) | (simp only [List.length_append, List.length_nil]; omega)), nn_ap1 (by omega)]
theorem tk3_0 (k : Nat) (R0 R1 R2 : List Nat) (l0 : R0.length = k) (l1 : R1.length = k) (l2 : R2.length = k) : List.take k (List.drop 0 (ce3 R0 R1 R2)) = nL R0 := by
  have e : ce3 R0 R1 R2 = nL [] ++ (nL R0 ++ nL (R1 ++ R2)) := by simp [ce3, nL]
  have e1 : (nL []).length = 0 := by rw [nL_len]; first | rfl | omega | (simp only [List.length_append]; omega)
  have e2 := nL_len R0
  rw [e, List.drop_append_of_le_length (by omega), List.drop_of_length_le (l := nL []) (by omega), List.nil_append, List.take_append_of_le_length (by omega), List.take_of_length_le (by omega)]
theorem pu3_0 (k : Nat) (R0 R1 R2 Q : List Nat) (l0 : R0.length = k) (l1 : R1.length = k) (l2 : R2.length = k) (lQ : Q.length = k) : putP (ce3 R0 R1 R2) 0 (List.take (min k k) (nL Q)) = ce3 Q R1 R2 := by
  have e : ∀ X : List Nat, ce3 X R1 R2 = nL [] ++ (nL X ++ nL (R1 ++ R2)) := fun X => by simp [ce3, nL]
  have e1 : (nL []).length = 0 := by rw [nL_len]; first | rfl | omega | (simp only [List.length_append]; omega)
  have e2 := nL_len R0
  have e3 := nL_len Q
  rw [Nat.min_self, List.take_of_length_le (by omega), putQ_app _ _ _ (by rw [ce3_len]; omega), e, e Q, List.take_append_of_le_length (by omega), List.take_of_length_le (by omega)]
  rw [show 0 + (nL Q).length = (nL []).length + k by omega, List.drop_append, List.drop_of_length_le (by omega), List.nil_append, show (nL []).length + k - (nL []).length = k by omega, List.drop_append_of_le_length (by omega), List.drop_of_length_le (l := nL R0) (by omega), List.nil_append, List.append_assoc]
theorem le3_1 (N : Nat) (hN : 2000 ≤ N) (k : Nat) (R0 R1 R2 M : List Nat) (n : Nat) (l0 : R0.length = k) (l1 : R1.length = k) (l2 : R2.length = k) (lM : M.length = k) (hk : k ≤ 4) (hn : n ≤ 1000) :
    m95 N k k (rwN M) (n : Int) (ce3 R0 R1 R2) = some (.tup [], ce3 R0 (lst M n).1 R2) := by
  have h := least_ok N hN M R0 (R2) R1 n hn (by omega) (by omega)
  have e : ∀ X : List Nat, nL (R0 ++ X ++ (R2)) = ce3 R0 X R2 := fun X => by simp [ce3]
  rw [e, e, show R0.length = k by first | rfl | omega | (simp only [List.length_append]; omega), lM] at h
  exact h
theorem nx3_1 (N : Nat) (hN : 2000 ≤ N) (k : Nat) (R0 R1 R2 M : List Nat) (l0 : R0.length = k) (l1 : R1.length = k) (l2 : R2.length = k) (lM : M.length = k) (hk : k ≤ 4) (h5 : ∀ x ∈ R1, x ≤ 5) :
    m96 N k k (rwN M) (ce3 R0 R1 R2) = some (match nxt R1 M with | some q => (.bool true, ce3 R0 q R2) | none => (.bool false, ce3 R0 R1 R2)) := by
  have hs := sum5 h5
  have h := next_ok N hN M R0 (R2) R1 (by omega) (by omega) (fun x hx => by have := h5 x hx; omega) (by omega)
  have e : ∀ X : List Nat, nL (R0 ++ X ++ (R2)) = ce3 R0 X R2 := fun X => by simp [ce3]
  rw [e, show R0.length = k by first | rfl | omega | (simp only [List.length_append]; omega), lM] at h
  rw [h]
  cases nxt R1 M with
  | some q => simp only [onP, e]
  | none => simp only [onP, e]
theorem gv3_1 {α : Type} {f : Int → Option α} (k : Nat) (R0 R1 R2 : List Nat) (l0 : R0.length = k) (l1 : R1.length = k) (l2 : R2.length = k) (j : Nat) (hj : j < k) : getI .i64 (gp (ce3 R0 R1 R2) (k + j)) f = f (nn R1 j : Int) := by
  have e : ce3 R0 R1 R2 = nL (R0 ++ (R1 ++ (R2))) := by simp [ce3]
  rw [e, gN (by first | omega | rfl | (simp only [List.length_append, List.length_nil]; done) | (simp only [List.length_append, List.length_nil]; omega)), nn_ap2 (j := j) (by first | omega | rfl | (simp only [List.length_append, List.length_nil]; done) | (simp only [List.length_append, List.length_nil]; omega)), nn_ap1 (by omega)]
theorem tk3_1 (k : Nat) (R0 R1 R2 : List Nat) (l0 : R0.length = k) (l1 : R1.length = k) (l2 : R2.length = k) : List.take k (List.drop k (ce3 R0 R1 R2)) = nL R1 := by
  have e : ce3 R0 R1 R2 = nL R0 ++ (nL R1 ++ nL (R2)) := by simp [ce3, nL]
  have e1 : (nL R0).length = k := by rw [nL_len]; first | rfl | omega | (simp only [List.length_append]; omega)
  have e2 := nL_len R1
  rw [e, List.drop_append_of_le_length (by omega), List.drop_of_length_le (l := nL R0) (by omega), List.nil_append, List.take_append_of_le_length (by omega), List.take_of_length_le (by omega)]
theorem pu3_1 (k : Nat) (R0 R1 R2 Q : List Nat) (l0 : R0.length = k) (l1 : R1.length = k) (l2 : R2.length = k) (lQ : Q.length = k) : putP (ce3 R0 R1 R2) k (List.take (min k k) (nL Q)) = ce3 R0 Q R2 := by
  have e : ∀ X : List Nat, ce3 R0 X R2 = nL R0 ++ (nL X ++ nL (R2)) := fun X => by simp [ce3, nL]
  have e1 : (nL R0).length = k := by rw [nL_len]; first | rfl | omega | (simp only [List.length_append]; omega)
  have e2 := nL_len R1
  have e3 := nL_len Q
  rw [Nat.min_self, List.take_of_length_le (by omega), putQ_app _ _ _ (by rw [ce3_len]; omega), e, e Q, List.take_append_of_le_length (by omega), List.take_of_length_le (by omega)]
  rw [show k + (nL Q).length = (nL R0).length + k by omega, List.drop_append, List.drop_of_length_le (by omega), List.nil_append, show (nL R0).length + k - (nL R0).length = k by omega, List.drop_append_of_le_length (by omega), List.drop_of_length_le (l := nL R1) (by omega), List.nil_append, List.append_assoc]
theorem le3_2 (N : Nat) (hN : 2000 ≤ N) (k : Nat) (R0 R1 R2 M : List Nat) (n : Nat) (l0 : R0.length = k) (l1 : R1.length = k) (l2 : R2.length = k) (lM : M.length = k) (hk : k ≤ 4) (hn : n ≤ 1000) :
    m95 N (2 * k) k (rwN M) (n : Int) (ce3 R0 R1 R2) = some (.tup [], ce3 R0 R1 (lst M n).1) := by
  have h := least_ok N hN M (R0 ++ R1) ([]) R2 n hn (by omega) (by omega)
  have e : ∀ X : List Nat, nL ((R0 ++ R1) ++ X ++ ([])) = ce3 R0 R1 X := fun X => by simp [ce3]
  rw [e, e, show (R0 ++ R1).length = (2 * k) by first | rfl | omega | (simp only [List.length_append]; omega), lM] at h
  exact h
theorem nx3_2 (N : Nat) (hN : 2000 ≤ N) (k : Nat) (R0 R1 R2 M : List Nat) (l0 : R0.length = k) (l1 : R1.length = k) (l2 : R2.length = k) (lM : M.length = k) (hk : k ≤ 4) (h5 : ∀ x ∈ R2, x ≤ 5) :
    m96 N (2 * k) k (rwN M) (ce3 R0 R1 R2) = some (match nxt R2 M with | some q => (.bool true, ce3 R0 R1 q) | none => (.bool false, ce3 R0 R1 R2)) := by
  have hs := sum5 h5
  have h := next_ok N hN M (R0 ++ R1) ([]) R2 (by omega) (by omega) (fun x hx => by have := h5 x hx; omega) (by omega)
  have e : ∀ X : List Nat, nL ((R0 ++ R1) ++ X ++ ([])) = ce3 R0 R1 X := fun X => by simp [ce3]
  rw [e, show (R0 ++ R1).length = (2 * k) by first | rfl | omega | (simp only [List.length_append]; omega), lM] at h
  rw [h]
  cases nxt R2 M with
  | some q => simp only [onP, e]
  | none => simp only [onP, e]
theorem gv3_2 {α : Type} {f : Int → Option α} (k : Nat) (R0 R1 R2 : List Nat) (l0 : R0.length = k) (l1 : R1.length = k) (l2 : R2.length = k) (j : Nat) (hj : j < k) : getI .i64 (gp (ce3 R0 R1 R2) ((2 * k) + j)) f = f (nn R2 j : Int) := by
  have e : ce3 R0 R1 R2 = nL ((R0 ++ R1) ++ (R2 ++ ([]))) := by simp [ce3]
  rw [e, gN (by first | omega | rfl | (simp only [List.length_append, List.length_nil]; done) | (simp only [List.length_append, List.length_nil]; omega)), nn_ap2 (j := j) (by first | omega | rfl | (simp only [List.length_append, List.length_nil]; done) | (simp only [List.length_append, List.length_nil]; omega)), nn_ap1 (by omega)]
theorem tk3_2 (k : Nat) (R0 R1 R2 : List Nat) (l0 : R0.length = k) (l1 : R1.length = k) (l2 : R2.length = k) : List.take k (List.drop (2 * k) (ce3 R0 R1 R2)) = nL R2 := by
  have e : ce3 R0 R1 R2 = nL (R0 ++ R1) ++ (nL R2 ++ nL ([])) := by simp [ce3, nL]
  have e1 : (nL (R0 ++ R1)).length = (2 * k) := by rw [nL_len]; first | rfl | omega | (simp only [List.length_append]; omega)
  have e2 := nL_len R2
  rw [e, List.drop_append_of_le_length (by omega), List.drop_of_length_le (l := nL (R0 ++ R1)) (by omega), List.nil_append, List.take_append_of_le_length (by omega), List.take_of_length_le (by omega)]
theorem pu3_2 (k : Nat) (R0 R1 R2 Q : List Nat) (l0 : R0.length = k) (l1 : R1.length = k) (l2 : R2.length = k) (lQ : Q.length = k) : putP (ce3 R0 R1 R2) (2 * k) (List.take (min k k) (nL Q)) = ce3 R0 R1 Q := by
  have e : ∀ X : List Nat, ce3 R0 R1 X = nL (R0 ++ R1) ++ (nL X ++ nL ([])) := fun X => by simp [ce3, nL]
  have e1 : (nL (R0 ++ R1)).length = (2 * k) := by rw [nL_len]; first | rfl | omega | (simp only [List.length_append]; omega)
  have e2 := nL_len R2
  have e3 := nL_len Q
  rw [Nat.min_self, List.take_of_length_le (by omega), putQ_app _ _ _ (by rw [ce3_len]; omega), e, e Q, List.take_append_of_le_length (by omega), List.take_of_length_le (by omega)]
  rw [show (2 * k) + (nL Q).length = (nL (R0 ++ R1)).length + k by omega, List.drop_append, List.drop_of_length_le (by omega), List.nil_append, show (nL (R0 ++ R1)).length + k - (nL (R0 ++ R1)).length = k by omega, List.drop_append_of_le_length (by omega), List.drop_of_length_le (l := nL R2) (by omega), List.nil_append, List.append_assoc]
theorem tb3 (N k : Nat) (hk : k ≤ 4) (cs ws : List PV) : m60_3 N cs (.lst false k ws) = some (0, k, k, k, 2 * k, k, ce3 (List.replicate k 0) (List.replicate k 0) (List.replicate k 0)) := by
  simp only [m60_3, getL]
  rw [wrap64 (n := 0 * (k : Int)) (by omega) (by omega), wrap64 (n := 1 * (k : Int)) (by omega) (by omega), wrap64 (n := 2 * (k : Int)) (by omega) (by omega), wrap64 (n := 3 * (k : Int)) (by omega) (by omega)]
  rw [grd_t ⟨by omega, by omega, by omega⟩, grd_t ⟨by omega, by omega, by omega⟩, grd_t ⟨by omega, by omega, by omega⟩, grd_t ⟨by omega, by omega, by omega⟩]
  have e : Int.toNat (3 * (k : Int)) = 3 * k := by omega
  have e1 : Int.toNat (0 * (k : Int)) = 0 := by omega
  have e2 : Int.toNat (1 * (k : Int) - 0 * (k : Int)) = k := by omega
  have e3 : Int.toNat (1 * (k : Int)) = k := by omega
  have e4 : Int.toNat (2 * (k : Int) - 1 * (k : Int)) = k := by omega
  have e5 : Int.toNat (2 * (k : Int)) = 2 * k := by omega
  have e6 : Int.toNat (3 * (k : Int) - 2 * (k : Int)) = k := by omega
  simp only [e, e1, e2, e3, e4, e5, e6]
  have ec : List.replicate (3 * k) (PV.int .i64 0) = ce3 (List.replicate k 0) (List.replicate k 0) (List.replicate k 0) := by simp [ce3, nL, List.replicate_append_replicate] <;> omega
  rw [ec]
end Go.Proofs.Yteidcinajdehkaa
namespace Go.Proofs.Yteidcinajdehkaa
open Go.V
set_option linter.unusedSimpArgs false
set_option linter.unusedVariables false
set_option linter.unusedSectionVars false
set_option maxRecDepth 100000
def cntV (d : List (List Nat)) (a : Int) : Int := IntKind.i64.wrap (a + 1)
section r1
variable (N : Nat) (hN : 2000 ≤ N) (W : List Nat) (h0 : Nat) (hL : Ldn [h0] W) 
include hN hL
theorem nwh1_0 (a : Int) (f : Nat)  (R0 : List Nat) (f0 : R0.length = W.length) (k0 : leL R0 W) :
    m72_L14 N (nL [h0]) W.length (nL W) 0 W.length W.length (nL W) (ce1 R0) a (f + 1) 0  = (match nxt R0 W with | some q => some (.inl (ce1 q)) | none => some (.inr (.tup [], a))) := by
    have w4 := hL.w4
    skip
    have v5 := k0.le5 hL.w5
    have nx := nx1_0 N hN W.length R0 W f0 rfl w4 v5
    rw [m72_L14, kj_t rfl, show PV.lst false W.length (nL W) = rwN W from rfl, nx]
    cases nxt R0 W with
    | some q => rfl
    | none => rfl
theorem nvi1 (a : Int) (R0 : List Nat) (f0 : R0.length = W.length) (k0 : leL R0 W) : m75 N 0 W.length (ce1 R0) a = some (.tup [], cntV [R0] a) := rfl
theorem nfo1_0 (a : Int) (f : Nat) (R0 : List Nat) (f0 : R0.length = W.length) (k0 : leL R0 W) :
    m72_L13 N (nL [h0]) W.length (nL W) 0 W.length W.length (nL W) (f + 1) 0 a (ce1 R0) = (match nxt R0 W with | some q => m72_L13 N (nL [h0]) W.length (nL W) 0 W.length W.length (nL W) f 0 (cntV [R0] a) (ce1 q) | none => some (.tup [], (cntV [R0] a))) := by
  have e1 := nvi1 N hN W h0 hL a R0 f0 k0
  have e2 := nwh1_0 N hN W h0 hL (cntV [R0] a) (N - 1) R0 f0 k0
  rw [show N - 1 + 1 = N by omega] at e2
  rw [m72_L13, brn_t (by rfl), e1, bj_t]
  dsimp only
  rw [gjT, show m72_L14 N (nL [h0]) W.length (nL W) 0 W.length W.length (nL W) (ce1 R0) (cntV [R0] a) N 0  = _ from e2]
  cases nxt R0 W with
  | some q => rfl
  | none =>
    rfl
theorem nex1    : ∀ (n : Nat) (R0 : List Nat) (a : Int) (fuel : Nat), (aft R0 W).length = n → leL R0 W → n + 2 ≤ fuel →
    ∃ X : List Nat, X.length = W.length ∧ m72_L13 N (nL [h0]) W.length (nL W) 0 W.length W.length (nL W) fuel 0 a (ce1 R0) = some (.tup [], ((R0 :: aft R0 W).foldl (fun a R => (cntV [R] a)) a))
  | n, R0, a, 0, _, _, hf => by omega
  | n, R0, a, fz + 1, hn, k0, hf => by
    skip
    have f0 : R0.length = W.length := k0.len
    have x := nxt_ok R0 W k0
    have e := nfo1_0 N hN W h0 hL a fz R0 f0 k0
    cases q : nxt R0 W with
    | some q' =>
      rw [q] at x e
      obtain ⟨y1, y2, y3⟩ := x
      rw [y1] at hn
      obtain ⟨n', rfl⟩ : ∃ n', n = n' + 1 := ⟨n - 1, by simp at hn; omega⟩
      obtain ⟨X, z1, z2⟩ := nex1    n' q' _ fz (by simpa using hn) y2 (by omega)
      refine ⟨X, z1, ?_⟩
      rw [e, y1]
      exact z2
    | none =>
      rw [q] at x e
      have x : aft R0 W = [] := x
      refine ⟨R0, f0, ?_⟩
      obtain ⟨f, rfl⟩ : ∃ f, fz = f + 1 := ⟨fz - 1, by omega⟩
      rw [e, x]
      rfl
theorem njn1_0   (R0 : List Nat) (f0 : R0.length = W.length) : m72_L12 N (nL [h0]) 0 W.length (ce1 R0) W.length (nL W) 0 = some (ce1 (lst W h0).1) := by
  have w4 := hL.w4
  have h5 := hL.h5 h0 (by simp)
  have e := le1_0 N hN W.length R0 W h0 f0 rfl w4 (by omega)
  rw [m72_L12, kj_t rfl, grd_t (by simp [nL]), gh0, show PV.lst false W.length (nL W) = rwN W from rfl, e, bj_t]
  rfl
theorem nlb1 (a : Int) (f : Nat) (Z : List Nat) (hZ : Z.length = W.length) : m72_L11 N a (nL [h0]) W.length (nL W) 0 W.length (ce1 Z) W.length (nL W) (f + 1) 0 = some (.tup [], ((dealsN [h0] W).foldl (fun a d => cntV d a) a)) := by
  have w4 := hL.w4
  have h5 := hL.h5 h0 (by simp)
  have hq : h0 ≤ W.sum := by have := hL.sum; simp only [List.sum_cons, List.sum_nil] at this; omega
  have hr := rows_first W h0 hq
  obtain ⟨l1, l2, l3⟩ := lst_low W h0 hq
  have hb := rows_le (ms := W) (n := h0) (by omega) h5
  rw [hr, List.length_cons] at hb
  obtain ⟨X', z1, z2⟩ := nex1 N hN W h0 hL _ (lst W h0).1 a N rfl l3 (by omega)
  have ej := njn1_0 N hN W h0 hL Z hZ
  rw [m72_L11, ej, bj_t, z2, bj_t, foldl_one, hr]
theorem neach1 (hM : 2000000 ≤ N) (a : Int) : m72 N (.agg [rwN [h0], rwN W]) a = some (.tup [], ((dealsN [h0] W).foldl (fun a d => cntV d a) a)) := by
  have w1 := hL.w1
  have w4 := hL.w4
  have e1 := tb1 N W.length w4 (nL [h0]) (nL W)
  have e2 := clq_ok N W (by omega) (by omega)
  have e3 := nlb1 N hN W h0 hL a (N - 1) (List.replicate W.length 0) (by simp)
  rw [show N - 1 + 1 = N by omega] at e3
  rw [m72, gjA2, gjL, gjL, kjN_t (by rfl), e1, bj_t]
  dsimp only
  rw [e2, bj_t]
  dsimp only
  rw [grd_t (nL_len W), show m72_L11 N a (nL [h0]) W.length (nL W) 0 W.length (ce1 (List.replicate W.length 0)) W.length (nL W) N 0  = _ from e3, bj_t]
end r1
section r2
variable (N : Nat) (hN : 2000 ≤ N) (W : List Nat) (h0 h1 : Nat) (hL : Ldn [h0, h1] W) 
include hN hL
theorem ncs2_0 (a : Int) (p1 : PV) (R0 R1 M : List Nat) (f0 : R0.length = W.length) (f1 : R1.length = W.length) (lM : M.length = W.length) (m5 : ∀ x ∈ M, x ≤ 5) (hl : leL R0 M) : ∀ (s j fuel : Nat), M.length - j = s → j ≤ M.length → s < fuel →
    m72_L10 N (nL [h0, h1]) W.length (nL W) 0 W.length W.length W.length W.length (nL W) a (ce2 R0 R1) M.length fuel (j : Int) (nL ((subN M R0).take j ++ M.drop j)) = some (nL (subN M R0))
  | s, j, 0, _, _, h => by omega
  | s, j, f + 1, hs, hj, hf => by
    have w4 := hL.w4
    have hsl := subN_len hl.len
    have lc := ce2_len R0 R1
    skip
    rw [m72_L10]
    by_cases h : j < M.length
    · have ih := ncs2_0 a p1 R0 R1 M f0 f1 lM m5 hl (s - 1) (j + 1) f (by omega) (by omega) (by omega)
      obtain ⟨s1, s2, s3⟩ := sub_step hl h
      have v1 := hl.nn j h
      have v2 := m5 _ (nn_mem h)
      rw [brn_t (by simp; omega), toNatN, grd_t ⟨by omega, by omega⟩, grd_t (by omega), gv2_0 W.length R0 R1 f0 f1 j (by omega), grd_t (by omega), grd_t (by rw [nL_len, s1]; omega), gN (by rw [s1]; omega), s2, grd_t (by rw [nL_len, s1]; omega), wrapN (by omega), wrap64 (n := (nn M j : Int) - (nn R0 j : Int)) (by omega) (by omega), show (nn M j : Int) - (nn R0 j : Int) = ((nn M j - nn R0 j : Nat) : Int) by omega, nL_set, s3]
      exact ih
    · rw [brn_f (by simp; omega), List.take_of_length_le (by omega), List.drop_of_length_le (by omega), List.append_nil]
theorem nwh2_0 (a : Int) (f : Nat) (p1 : PV) (R0 R1 : List Nat) (f0 : R0.length = W.length) (f1 : R1.length = W.length) (k0 : leL R0 W) :
    m72_L9 N (nL [h0, h1]) W.length (nL W) 0 W.length W.length W.length W.length (nL W) a (f + 1) 0 p1 (ce2 R0 R1) = (match nxt R0 W with | some q => some (.inl (0, p1, (ce2 q R1))) | none => some (.inr (.tup [], a))) := by
    have w4 := hL.w4
    skip
    have v5 := k0.le5 hL.w5
    have nx := nx2_0 N hN W.length R0 R1 W f0 f1 rfl w4 v5
    rw [m72_L9, kj_t rfl, show PV.lst false W.length (nL W) = rwN W from rfl, nx]
    cases nxt R0 W with
    | some q => rfl
    | none => rfl
theorem nwh2_1 (a : Int) (f : Nat)  (R0 R1 : List Nat) (f0 : R0.length = W.length) (f1 : R1.length = W.length) (k0 : leL R0 W) (k1 : leL R1 (subN W R0)) :
    m72_L9 N (nL [h0, h1]) W.length (nL W) 0 W.length W.length W.length W.length (nL W) a (f + 2) 1 (rwN (subN W R0)) (ce2 R0 R1) = (match nxt R1 (subN W R0) with | some q => some (.inl (1, (rwN (subN W R0)), (ce2 R0 q))) | none => (match nxt R0 W with | some q => some (.inl (0, (rwN (subN W R0)), (ce2 q R1))) | none => some (.inr (.tup [], a)))) := by
    have w4 := hL.w4
    have g1 := subN_len k0.len
    have v5 := k1.le5 (k0.sub.le5 hL.w5)
    have nx := nx2_1 N hN W.length R0 R1 (subN W R0) f0 f1 (by omega) w4 v5
    rw [m72_L9, kj_f (by decide), kj_t rfl, gjL, show PV.lst false ((subN W R0)).length (nL (subN W R0)) = rwN (subN W R0) from rfl, nx]
    cases nxt R1 (subN W R0) with
    | some q => rfl
    | none => exact nwh2_0 N hN W h0 h1 hL a f  (rwN (subN W R0)) R0 R1 f0 f1 k0
theorem nfo2_0 (a : Int) (f : Nat) (p1 : PV) (R0 R1 : List Nat) (f0 : R0.length = W.length) (f1 : R1.length = W.length) (k0 : leL R0 W) :
    m72_L8 N (nL [h0, h1]) W.length (nL W) 0 W.length W.length W.length W.length (nL W) (f + 1) 0 a p1 (ce2 R0 R1) = some (.inr (1, a, (rwN (subN W R0)), (ce2 R0 R1))) := by
  have w1 := hL.w1
  have w4 := hL.w4
  have g0 : W.length = W.length := rfl
  have hs := subN_len k0.len
  have e1 := clq_ok N W (by omega) (by omega)
  have e2 := ncs2_0 N hN W h0 h1 hL a p1 R0 R1 W f0 f1 g0 hL.w5 k0 (W).length 0 N (by omega) (by omega) (by omega)
  rw [List.take_zero, List.nil_append, List.drop_zero] at e2
  rw [m72_L8, brn_f (by rfl), kj_t rfl, e1, bj_t]
  dsimp only
  rw [show m72_L10 N (nL [h0, h1]) W.length (nL W) 0 W.length W.length W.length W.length (nL W) a (ce2 R0 R1) (W).length N 0 (nL W) = _ from e2, bj_t, grd_t (by rw [nL_len]; omega)]
  simp only [rwN, hs]
theorem nvi2 (a : Int) (R0 R1 : List Nat) (f0 : R0.length = W.length) (f1 : R1.length = W.length) (k0 : leL R0 W) (k1 : leL R1 (subN W R0)) : m75_2 N 0 W.length W.length W.length (ce2 R0 R1) a = some (.tup [], cntV [R0, R1] a) := rfl
theorem nfo2_1 (a : Int) (f : Nat) (R0 R1 : List Nat) (f0 : R0.length = W.length) (f1 : R1.length = W.length) (k0 : leL R0 W) (k1 : leL R1 (subN W R0)) :
    m72_L8 N (nL [h0, h1]) W.length (nL W) 0 W.length W.length W.length W.length (nL W) (f + 1) 1 a (rwN (subN W R0)) (ce2 R0 R1) = (match nxt R1 (subN W R0) with | some q => m72_L8 N (nL [h0, h1]) W.length (nL W) 0 W.length W.length W.length W.length (nL W) f 1 (cntV [R0, R1] a) (rwN (subN W R0)) (ce2 R0 q) | none => (match nxt R0 W with | some q => m72_L8 N (nL [h0, h1]) W.length (nL W) 0 W.length W.length W.length W.length (nL W) f 0 (cntV [R0, R1] a) (rwN (subN W R0)) (ce2 q R1) | none => some (.inl (.tup [], (cntV [R0, R1] a))))) := by
  have e1 := nvi2 N hN W h0 h1 hL a R0 R1 f0 f1 k0 k1
  have e2 := nwh2_1 N hN W h0 h1 hL (cntV [R0, R1] a) (N - 2) R0 R1 f0 f1 k0 k1
  rw [show N - 2 + 2 = N by omega] at e2
  rw [m72_L8, brn_t (by rfl), e1, bj_t]
  dsimp only
  rw [gjT, show m72_L9 N (nL [h0, h1]) W.length (nL W) 0 W.length W.length W.length W.length (nL W) (cntV [R0, R1] a) N 1 (rwN (subN W R0)) (ce2 R0 R1) = _ from e2]
  cases nxt R1 (subN W R0) with
  | some q => rfl
  | none =>
    cases nxt R0 W with
    | some q => rfl
    | none =>
      rfl
theorem nex2 (R0 : List Nat) (f0 : R0.length = W.length) (k0 : leL R0 W) : ∀ (n : Nat) (R1 : List Nat) (a : Int) (fuel : Nat), (aft R1 (subN W R0)).length = n → leL R1 (subN W R0) → n + 2 ≤ fuel →
    ∃ X : List Nat, X.length = W.length ∧ m72_L8 N (nL [h0, h1]) W.length (nL W) 0 W.length W.length W.length W.length (nL W) fuel 1 a (rwN (subN W R0)) (ce2 R0 R1) = (match nxt R0 W with | some q => some (.inr (1, ((R1 :: aft R1 (subN W R0)).foldl (fun a R => (cntV [R0, R] a)) a), (rwN (subN W q)), (ce2 q X))) | none => some (.inl (.tup [], ((R1 :: aft R1 (subN W R0)).foldl (fun a R => (cntV [R0, R] a)) a))))
  | n, R1, a, 0, _, _, hf => by omega
  | n, R1, a, fz + 1, hn, k1, hf => by
    have g1 := subN_len k0.len
    have f1 : R1.length = W.length := by rw [k1.len]; omega
    have x := nxt_ok R1 (subN W R0) k1
    have e := nfo2_1 N hN W h0 h1 hL a fz R0 R1 f0 f1 k0 k1
    cases q : nxt R1 (subN W R0) with
    | some q' =>
      rw [q] at x e
      obtain ⟨y1, y2, y3⟩ := x
      rw [y1] at hn
      obtain ⟨n', rfl⟩ : ∃ n', n = n' + 1 := ⟨n - 1, by simp at hn; omega⟩
      obtain ⟨X, z1, z2⟩ := nex2 R0 f0 k0 n' q' _ fz (by simpa using hn) y2 (by omega)
      refine ⟨X, z1, ?_⟩
      rw [e, y1]
      exact z2
    | none =>
      rw [q] at x e
      have x : aft R1 (subN W R0) = [] := x
      refine ⟨R1, f1, ?_⟩
      obtain ⟨f, rfl⟩ : ∃ f, fz = f + 1 := ⟨fz - 1, by omega⟩
      rw [e, x]
      have x0 := nxt_ok R0 W k0
      cases q0 : nxt R0 W with
      | some q =>
        rw [q0] at x0
        exact nfo2_0 N hN W h0 h1 hL _ f (rwN (subN W R0)) q R1 x0.2.1.len f1  x0.2.1
      | none =>
        rfl
theorem njn2_0 (p1 : PV)  (R0 R1 : List Nat) (f0 : R0.length = W.length) (f1 : R1.length = W.length) : m72_L7 N (nL [h0, h1]) 0 W.length W.length W.length W.length (nL W) 0 p1 (ce2 R0 R1) = some (0, p1, (ce2 (lst W h0).1 R1)) := by
  have w4 := hL.w4
  have h5 := hL.h5 h0 (by simp)
  have e := le2_0 N hN W.length R0 R1 W h0 f0 f1 rfl w4 (by omega)
  rw [m72_L7, kj_t rfl, grd_t (by simp [nL]), gh0, show PV.lst false W.length (nL W) = rwN W from rfl, e, bj_t]
  rfl
theorem njn2_1  (M : List Nat) (lM : M.length = W.length) (R0 R1 : List Nat) (f0 : R0.length = W.length) (f1 : R1.length = W.length) : m72_L7 N (nL [h0, h1]) 0 W.length W.length W.length W.length (nL W) 1 (rwN M) (ce2 R0 R1) = some (1, (rwN M), (ce2 R0 (lst M h1).1)) := by
  have w4 := hL.w4
  have h5 := hL.h5 h1 (by simp)
  have e := le2_1 N hN W.length R0 R1 M h1 f0 f1 lM w4 (by omega)
  rw [m72_L7, kj_f (by decide), kj_t rfl, gjL, grd_t (by simp [nL]), gh1, show PV.lst false M.length (nL M) = rwN M from rfl, e, bj_t]
  rfl
theorem neq2 : Eq2 W h0 h1 (cntV) (fun a => (PV.tup [], a)) (fun f (i : Nat) a W1 R0 R1 => m72_L6 N (nL [h0, h1]) W.length (nL W) 0 W.length W.length W.length W.length (nL W) f ((i : Nat) : Int) a (rwN W1) (ce2 R0 R1)) where
  e1 := fun f a R0 X k0 s0 hX => by
    have w4 := hL.w4
    have h5 := hL.h5 h1 (by simp)
    have f0 := k0.len
    have g1 := subN_len k0.len
    have hq : h1 ≤ (subN W R0).sum := by have := hL.sum; have s1 := subN_sum k0; simp only [List.sum_cons, List.sum_nil] at this; omega
    have hr := rows_first (subN W R0) h1 hq
    obtain ⟨l1, l2, l3⟩ := lst_low (subN W R0) h1 hq
    have hb := rows_le (ms := (subN W R0)) (n := h1) (by omega) h5
    rw [hr, List.length_cons] at hb
    obtain ⟨X', z1, z2⟩ := nex2 N hN W h0 h1 hL R0 f0 k0 _ (lst (subN W R0) h1).1 a N rfl l3 (by omega)
    have ej := njn2_1 N hN W h0 h1 hL  (subN W R0) (by omega) R0 X f0 hX
    refine ⟨X', z1, ?_⟩
    have hf : f2 (cntV) W h1 a R0 = ((lst (subN W R0) h1).1 :: aft (lst (subN W R0) h1).1 (subN W R0)).foldl (fun a R => (cntV [R0, R] a)) a := by unfold f2; rw [hr]
    show m72_L6 N (nL [h0, h1]) W.length (nL W) 0 W.length W.length W.length W.length (nL W) (f + 1) 1 a (rwN (subN W R0)) (ce2 R0 X) = _
    rw [m72_L6, ej, bj_t]
    dsimp only
    rw [z2, hf]
    cases nxt R0 W with
    | some q => rfl
    | none =>
      rfl
  e0 := fun f a W1 Z X hZ hX => by
    have hq : h0 ≤ W.sum := by have := hL.sum; simp only [List.sum_cons, List.sum_nil] at this; omega
    obtain ⟨l1, l2, l3⟩ := lst_low W h0 hq
    have ll := lst_len W h0
    have ej := njn2_0 N hN W h0 h1 hL (rwN W1) Z X hZ hX
    have ef := nfo2_0 N hN W h0 h1 hL a (N - 1) (rwN W1) (lst W h0).1 X (by omega) hX l3
    rw [show N - 1 + 1 = N by omega] at ef
    show m72_L6 N (nL [h0, h1]) W.length (nL W) 0 W.length W.length W.length W.length (nL W) (f + 1) 0 a (rwN W1) (ce2 Z X) = _
    rw [m72_L6, ej, bj_t]
    dsimp only
    rw [ef]
    rfl
theorem neach2 (hM : 2000000 ≤ N) (a : Int) : m72 N (.agg [rwN [h0, h1], rwN W]) a = some (.tup [], ((dealsN [h0, h1] W).foldl (fun a d => cntV d a) a)) := by
  have w1 := hL.w1
  have w4 := hL.w4
  have e1 := tb2 N W.length w4 (nL [h0, h1]) (nL W)
  have e2 := clq_ok N W (by omega) (by omega)
  have e3 := each2 W h0 h1 hL (cntV) (fun a => (PV.tup [], a)) _ (neq2 N hN W h0 h1 hL) N a [] (List.replicate W.length 0) (List.replicate W.length 0) hM (by simp) (by simp)
  skip
  rw [m72, gjA2, gjL, gjL, kjN_f (by simp), kjN_t (by rfl), e1, bj_t]
  dsimp only
  rw [e2, bj_t]
  dsimp only
  rw [grd_t (nL_len W), show m72_L6 N (nL [h0, h1]) W.length (nL W) 0 W.length W.length W.length W.length (nL W) N 0 a (.lst false 0 []) (ce2 (List.replicate W.length 0) (List.replicate W.length 0)) = _ from e3, bj_t]
end r2
section r3
variable (N : Nat) (hN : 2000 ≤ N) (W : List Nat) (h0 h1 h2 : Nat) (hL : Ldn [h0, h1, h2] W) 
include hN hL
theorem ncs3_0 (a : Int) (p1 : PV) (p2 : PV) (R0 R1 R2 M : List Nat) (f0 : R0.length = W.length) (f1 : R1.length = W.length) (f2 : R2.length = W.length) (lM : M.length = W.length) (m5 : ∀ x ∈ M, x ≤ 5) (hl : leL R0 M) : ∀ (s j fuel : Nat), M.length - j = s → j ≤ M.length → s < fuel →
    m72_L5 N (nL [h0, h1, h2]) W.length (nL W) 0 W.length W.length W.length (2 * W.length) W.length W.length (nL W) a p2 (ce3 R0 R1 R2) M.length fuel (j : Int) (nL ((subN M R0).take j ++ M.drop j)) = some (nL (subN M R0))
  | s, j, 0, _, _, h => by omega
  | s, j, f + 1, hs, hj, hf => by
    have w4 := hL.w4
    have hsl := subN_len hl.len
    have lc := ce3_len R0 R1 R2
    skip
    rw [m72_L5]
    by_cases h : j < M.length
    · have ih := ncs3_0 a p1 p2 R0 R1 R2 M f0 f1 f2 lM m5 hl (s - 1) (j + 1) f (by omega) (by omega) (by omega)
      obtain ⟨s1, s2, s3⟩ := sub_step hl h
      have v1 := hl.nn j h
      have v2 := m5 _ (nn_mem h)
      rw [brn_t (by simp; omega), toNatN, grd_t ⟨by omega, by omega⟩, grd_t (by omega), gv3_0 W.length R0 R1 R2 f0 f1 f2 j (by omega), grd_t (by omega), grd_t (by rw [nL_len, s1]; omega), gN (by rw [s1]; omega), s2, grd_t (by rw [nL_len, s1]; omega), wrapN (by omega), wrap64 (n := (nn M j : Int) - (nn R0 j : Int)) (by omega) (by omega), show (nn M j : Int) - (nn R0 j : Int) = ((nn M j - nn R0 j : Nat) : Int) by omega, nL_set, s3]
      exact ih
    · rw [brn_f (by simp; omega), List.take_of_length_le (by omega), List.drop_of_length_le (by omega), List.append_nil]
theorem ncs3_1 (a : Int) (p1 : PV) (p2 : PV) (R0 R1 R2 M : List Nat) (f0 : R0.length = W.length) (f1 : R1.length = W.length) (f2 : R2.length = W.length) (lM : M.length = W.length) (m5 : ∀ x ∈ M, x ≤ 5) (hl : leL R1 M) : ∀ (s j fuel : Nat), M.length - j = s → j ≤ M.length → s < fuel →
    m72_L4 N (nL [h0, h1, h2]) W.length (nL W) 0 W.length W.length W.length (2 * W.length) W.length W.length (nL W) a (ce3 R0 R1 R2) M.length (nL M) M.length fuel (j : Int) (nL ((subN M R1).take j ++ M.drop j)) = some (nL (subN M R1))
  | s, j, 0, _, _, h => by omega
  | s, j, f + 1, hs, hj, hf => by
    have w4 := hL.w4
    have hsl := subN_len hl.len
    have lc := ce3_len R0 R1 R2
    skip
    rw [m72_L4]
    by_cases h : j < M.length
    · have ih := ncs3_1 a p1 p2 R0 R1 R2 M f0 f1 f2 lM m5 hl (s - 1) (j + 1) f (by omega) (by omega) (by omega)
      obtain ⟨s1, s2, s3⟩ := sub_step hl h
      have v1 := hl.nn j h
      have v2 := m5 _ (nn_mem h)
      rw [brn_t (by simp; omega), toNatN, grd_t ⟨by omega, by omega⟩, grd_t (by omega), gv3_1 W.length R0 R1 R2 f0 f1 f2 j (by omega), grd_t (by omega), grd_t (by rw [nL_len, s1]; omega), gN (by rw [s1]; omega), s2, grd_t (by rw [nL_len, s1]; omega), wrapN (by omega), wrap64 (n := (nn M j : Int) - (nn R1 j : Int)) (by omega) (by omega), show (nn M j : Int) - (nn R1 j : Int) = ((nn M j - nn R1 j : Nat) : Int) by omega, nL_set, s3]
      exact ih
    · rw [brn_f (by simp; omega), List.take_of_length_le (by omega), List.drop_of_length_le (by omega), List.append_nil]
theorem nwh3_0 (a : Int) (f : Nat) (p1 : PV) (p2 : PV) (R0 R1 R2 : List Nat) (f0 : R0.length = W.length) (f1 : R1.length = W.length) (f2 : R2.length = W.length) (k0 : leL R0 W) :
    m72_L3 N (nL [h0, h1, h2]) W.length (nL W) 0 W.length W.length W.length (2 * W.length) W.length W.length (nL W) a (f + 1) 0 p1 p2 (ce3 R0 R1 R2) = (match nxt R0 W with | some q => some (.inl (0, p1, p2, (ce3 q R1 R2))) | none => some (.inr (.tup [], a))) := by
    have w4 := hL.w4
    skip
    have v5 := k0.le5 hL.w5
    have nx := nx3_0 N hN W.length R0 R1 R2 W f0 f1 f2 rfl w4 v5
    rw [m72_L3, kj_t rfl, show PV.lst false W.length (nL W) = rwN W from rfl, nx]
    cases nxt R0 W with
    | some q => rfl
    | none => rfl
theorem nwh3_1 (a : Int) (f : Nat) (p2 : PV) (R0 R1 R2 : List Nat) (f0 : R0.length = W.length) (f1 : R1.length = W.length) (f2 : R2.length = W.length) (k0 : leL R0 W) (k1 : leL R1 (subN W R0)) :
    m72_L3 N (nL [h0, h1, h2]) W.length (nL W) 0 W.length W.length W.length (2 * W.length) W.length W.length (nL W) a (f + 2) 1 (rwN (subN W R0)) p2 (ce3 R0 R1 R2) = (match nxt R1 (subN W R0) with | some q => some (.inl (1, (rwN (subN W R0)), p2, (ce3 R0 q R2))) | none => (match nxt R0 W with | some q => some (.inl (0, (rwN (subN W R0)), p2, (ce3 q R1 R2))) | none => some (.inr (.tup [], a)))) := by
    have w4 := hL.w4
    have g1 := subN_len k0.len
    have v5 := k1.le5 (k0.sub.le5 hL.w5)
    have nx := nx3_1 N hN W.length R0 R1 R2 (subN W R0) f0 f1 f2 (by omega) w4 v5
    rw [m72_L3, kj_f (by decide), kj_t rfl, gjL, show PV.lst false ((subN W R0)).length (nL (subN W R0)) = rwN (subN W R0) from rfl, nx]
    cases nxt R1 (subN W R0) with
    | some q => rfl
    | none => exact nwh3_0 N hN W h0 h1 h2 hL a f  (rwN (subN W R0)) p2 R0 R1 R2 f0 f1 f2 k0
theorem nwh3_2 (a : Int) (f : Nat)  (R0 R1 R2 : List Nat) (f0 : R0.length = W.length) (f1 : R1.length = W.length) (f2 : R2.length = W.length) (k0 : leL R0 W) (k1 : leL R1 (subN W R0)) (k2 : leL R2 (subN (subN W R0) R1)) :
    m72_L3 N (nL [h0, h1, h2]) W.length (nL W) 0 W.length W.length W.length (2 * W.length) W.length W.length (nL W) a (f + 3) 2 (rwN (subN W R0)) (rwN (subN (subN W R0) R1)) (ce3 R0 R1 R2) = (match nxt R2 (subN (subN W R0) R1) with | some q => some (.inl (2, (rwN (subN W R0)), (rwN (subN (subN W R0) R1)), (ce3 R0 R1 q))) | none => (match nxt R1 (subN W R0) with | some q => some (.inl (1, (rwN (subN W R0)), (rwN (subN (subN W R0) R1)), (ce3 R0 q R2))) | none => (match nxt R0 W with | some q => some (.inl (0, (rwN (subN W R0)), (rwN (subN (subN W R0) R1)), (ce3 q R1 R2))) | none => some (.inr (.tup [], a))))) := by
    have w4 := hL.w4
    have g1 := subN_len k0.len
    have g2 := subN_len k1.len
    have v5 := k2.le5 (k1.sub.le5 (k0.sub.le5 hL.w5))
    have nx := nx3_2 N hN W.length R0 R1 R2 (subN (subN W R0) R1) f0 f1 f2 (by omega) w4 v5
    rw [m72_L3, kj_f (by decide), kj_f (by decide), kj_t rfl, gjL, show PV.lst false ((subN (subN W R0) R1)).length (nL (subN (subN W R0) R1)) = rwN (subN (subN W R0) R1) from rfl, nx]
    cases nxt R2 (subN (subN W R0) R1) with
    | some q => rfl
    | none => exact nwh3_1 N hN W h0 h1 h2 hL a f  (rwN (subN (subN W R0) R1)) R0 R1 R2 f0 f1 f2 k0 k1
theorem nfo3_0 (a : Int) (f : Nat) (p1 : PV) (p2 : PV) (R0 R1 R2 : List Nat) (f0 : R0.length = W.length) (f1 : R1.length = W.length) (f2 : R2.length = W.length) (k0 : leL R0 W) :
    m72_L2 N (nL [h0, h1, h2]) W.length (nL W) 0 W.length W.length W.length (2 * W.length) W.length W.length (nL W) (f + 1) 0 a p1 p2 (ce3 R0 R1 R2) = some (.inr (1, a, (rwN (subN W R0)), p2, (ce3 R0 R1 R2))) := by
  have w1 := hL.w1
  have w4 := hL.w4
  have g0 : W.length = W.length := rfl
  have hs := subN_len k0.len
  have e1 := clq_ok N W (by omega) (by omega)
  have e2 := ncs3_0 N hN W h0 h1 h2 hL a p1 p2 R0 R1 R2 W f0 f1 f2 g0 hL.w5 k0 (W).length 0 N (by omega) (by omega) (by omega)
  rw [List.take_zero, List.nil_append, List.drop_zero] at e2
  rw [m72_L2, brn_f (by rfl), kj_t rfl, e1, bj_t]
  dsimp only
  rw [show m72_L5 N (nL [h0, h1, h2]) W.length (nL W) 0 W.length W.length W.length (2 * W.length) W.length W.length (nL W) a p2 (ce3 R0 R1 R2) (W).length N 0 (nL W) = _ from e2, bj_t, grd_t (by rw [nL_len]; omega)]
  simp only [rwN, hs]
theorem nfo3_1 (a : Int) (f : Nat) (p2 : PV) (R0 R1 R2 : List Nat) (f0 : R0.length = W.length) (f1 : R1.length = W.length) (f2 : R2.length = W.length) (k0 : leL R0 W) (k1 : leL R1 (subN W R0)) :
    m72_L2 N (nL [h0, h1, h2]) W.length (nL W) 0 W.length W.length W.length (2 * W.length) W.length W.length (nL W) (f + 1) 1 a (rwN (subN W R0)) p2 (ce3 R0 R1 R2) = some (.inr (2, a, (rwN (subN W R0)), (rwN (subN (subN W R0) R1)), (ce3 R0 R1 R2))) := by
  have w1 := hL.w1
  have w4 := hL.w4
  have g0 := subN_len k0.len
  have hs := subN_len k1.len
  have e1 := clq_ok N (subN W R0) (by omega) (by omega)
  have e2 := ncs3_1 N hN W h0 h1 h2 hL a (rwN (subN W R0)) p2 R0 R1 R2 (subN W R0) f0 f1 f2 g0 (k0.sub.le5 hL.w5) k1 ((subN W R0)).length 0 N (by omega) (by omega) (by omega)
  rw [List.take_zero, List.nil_append, List.drop_zero] at e2
  rw [m72_L2, brn_f (by rfl), kj_f (by decide), kj_t rfl, gjL, e1, bj_t]
  dsimp only
  rw [show m72_L4 N (nL [h0, h1, h2]) W.length (nL W) 0 W.length W.length W.length (2 * W.length) W.length W.length (nL W) a (ce3 R0 R1 R2) ((subN W R0)).length (nL (subN W R0)) ((subN W R0)).length N 0 (nL (subN W R0)) = _ from e2, bj_t, grd_t (by rw [nL_len]; omega)]
  simp only [rwN, hs]
theorem nvi3 (a : Int) (R0 R1 R2 : List Nat) (f0 : R0.length = W.length) (f1 : R1.length = W.length) (f2 : R2.length = W.length) (k0 : leL R0 W) (k1 : leL R1 (subN W R0)) (k2 : leL R2 (subN (subN W R0) R1)) : m75_3 N 0 W.length W.length W.length (2 * W.length) W.length (ce3 R0 R1 R2) a = some (.tup [], cntV [R0, R1, R2] a) := rfl
theorem nfo3_2 (a : Int) (f : Nat) (R0 R1 R2 : List Nat) (f0 : R0.length = W.length) (f1 : R1.length = W.length) (f2 : R2.length = W.length) (k0 : leL R0 W) (k1 : leL R1 (subN W R0)) (k2 : leL R2 (subN (subN W R0) R1)) :
    m72_L2 N (nL [h0, h1, h2]) W.length (nL W) 0 W.length W.length W.length (2 * W.length) W.length W.length (nL W) (f + 1) 2 a (rwN (subN W R0)) (rwN (subN (subN W R0) R1)) (ce3 R0 R1 R2) = (match nxt R2 (subN (subN W R0) R1) with | some q => m72_L2 N (nL [h0, h1, h2]) W.length (nL W) 0 W.length W.length W.length (2 * W.length) W.length W.length (nL W) f 2 (cntV [R0, R1, R2] a) (rwN (subN W R0)) (rwN (subN (subN W R0) R1)) (ce3 R0 R1 q) | none => (match nxt R1 (subN W R0) with | some q => m72_L2 N (nL [h0, h1, h2]) W.length (nL W) 0 W.length W.length W.length (2 * W.length) W.length W.length (nL W) f 1 (cntV [R0, R1, R2] a) (rwN (subN W R0)) (rwN (subN (subN W R0) R1)) (ce3 R0 q R2) | none => (match nxt R0 W with | some q => m72_L2 N (nL [h0, h1, h2]) W.length (nL W) 0 W.length W.length W.length (2 * W.length) W.length W.length (nL W) f 0 (cntV [R0, R1, R2] a) (rwN (subN W R0)) (rwN (subN (subN W R0) R1)) (ce3 q R1 R2) | none => some (.inl (.tup [], (cntV [R0, R1, R2] a)))))) := by
  have e1 := nvi3 N hN W h0 h1 h2 hL a R0 R1 R2 f0 f1 f2 k0 k1 k2
  have e2 := nwh3_2 N hN W h0 h1 h2 hL (cntV [R0, R1, R2] a) (N - 3) R0 R1 R2 f0 f1 f2 k0 k1 k2
  rw [show N - 3 + 3 = N by omega] at e2
  rw [m72_L2, brn_t (by rfl), e1, bj_t]
  dsimp only
  rw [gjT, show m72_L3 N (nL [h0, h1, h2]) W.length (nL W) 0 W.length W.length W.length (2 * W.length) W.length W.length (nL W) (cntV [R0, R1, R2] a) N 2 (rwN (subN W R0)) (rwN (subN (subN W R0) R1)) (ce3 R0 R1 R2) = _ from e2]
  cases nxt R2 (subN (subN W R0) R1) with
  | some q => rfl
  | none =>
    cases nxt R1 (subN W R0) with
    | some q => rfl
    | none =>
      cases nxt R0 W with
      | some q => rfl
      | none =>
        rfl
theorem nex3 (R0 R1 : List Nat) (f0 : R0.length = W.length) (f1 : R1.length = W.length) (k0 : leL R0 W) (k1 : leL R1 (subN W R0)) : ∀ (n : Nat) (R2 : List Nat) (a : Int) (fuel : Nat), (aft R2 (subN (subN W R0) R1)).length = n → leL R2 (subN (subN W R0) R1) → n + 2 ≤ fuel →
    ∃ X : List Nat, X.length = W.length ∧ m72_L2 N (nL [h0, h1, h2]) W.length (nL W) 0 W.length W.length W.length (2 * W.length) W.length W.length (nL W) fuel 2 a (rwN (subN W R0)) (rwN (subN (subN W R0) R1)) (ce3 R0 R1 R2) = (match nxt R1 (subN W R0) with | some q => some (.inr (2, ((R2 :: aft R2 (subN (subN W R0) R1)).foldl (fun a R => (cntV [R0, R1, R] a)) a), (rwN (subN W R0)), (rwN (subN (subN W R0) q)), (ce3 R0 q X))) | none => (match nxt R0 W with | some q => some (.inr (1, ((R2 :: aft R2 (subN (subN W R0) R1)).foldl (fun a R => (cntV [R0, R1, R] a)) a), (rwN (subN W q)), (rwN (subN (subN W R0) R1)), (ce3 q R1 X))) | none => some (.inl (.tup [], ((R2 :: aft R2 (subN (subN W R0) R1)).foldl (fun a R => (cntV [R0, R1, R] a)) a)))))
  | n, R2, a, 0, _, _, hf => by omega
  | n, R2, a, fz + 1, hn, k2, hf => by
    have g1 := subN_len k0.len
    have g2 := subN_len k1.len
    have f2 : R2.length = W.length := by rw [k2.len]; omega
    have x := nxt_ok R2 (subN (subN W R0) R1) k2
    have e := nfo3_2 N hN W h0 h1 h2 hL a fz R0 R1 R2 f0 f1 f2 k0 k1 k2
    cases q : nxt R2 (subN (subN W R0) R1) with
    | some q' =>
      rw [q] at x e
      obtain ⟨y1, y2, y3⟩ := x
      rw [y1] at hn
      obtain ⟨n', rfl⟩ : ∃ n', n = n' + 1 := ⟨n - 1, by simp at hn; omega⟩
      obtain ⟨X, z1, z2⟩ := nex3 R0 R1 f0 f1 k0 k1 n' q' _ fz (by simpa using hn) y2 (by omega)
      refine ⟨X, z1, ?_⟩
      rw [e, y1]
      exact z2
    | none =>
      rw [q] at x e
      have x : aft R2 (subN (subN W R0) R1) = [] := x
      refine ⟨R2, f2, ?_⟩
      obtain ⟨f, rfl⟩ : ∃ f, fz = f + 1 := ⟨fz - 1, by omega⟩
      rw [e, x]
      have x1 := nxt_ok R1 (subN W R0) k1
      cases q1 : nxt R1 (subN W R0) with
      | some q =>
        rw [q1] at x1
        exact nfo3_1 N hN W h0 h1 h2 hL _ f (rwN (subN (subN W R0) R1)) R0 q R2 f0 (x1.2.1.len.trans (by omega)) f2 k0 x1.2.1
      | none =>
        have x0 := nxt_ok R0 W k0
        cases q0 : nxt R0 W with
        | some q =>
          rw [q0] at x0
          exact nfo3_0 N hN W h0 h1 h2 hL _ f (rwN (subN W R0)) (rwN (subN (subN W R0) R1)) q R1 R2 x0.2.1.len f1 f2  x0.2.1
        | none =>
          rfl
theorem njn3_0 (p1 : PV) (p2 : PV)  (R0 R1 R2 : List Nat) (f0 : R0.length = W.length) (f1 : R1.length = W.length) (f2 : R2.length = W.length) : m72_L1 N (nL [h0, h1, h2]) 0 W.length W.length W.length (2 * W.length) W.length W.length (nL W) 0 p1 p2 (ce3 R0 R1 R2) = some (0, p1, p2, (ce3 (lst W h0).1 R1 R2)) := by
  have w4 := hL.w4
  have h5 := hL.h5 h0 (by simp)
  have e := le3_0 N hN W.length R0 R1 R2 W h0 f0 f1 f2 rfl w4 (by omega)
  rw [m72_L1, kj_t rfl, grd_t (by simp [nL]), gh0, show PV.lst false W.length (nL W) = rwN W from rfl, e, bj_t]
  rfl
theorem njn3_1 (p2 : PV) (M : List Nat) (lM : M.length = W.length) (R0 R1 R2 : List Nat) (f0 : R0.length = W.length) (f1 : R1.length = W.length) (f2 : R2.length = W.length) : m72_L1 N (nL [h0, h1, h2]) 0 W.length W.length W.length (2 * W.length) W.length W.length (nL W) 1 (rwN M) p2 (ce3 R0 R1 R2) = some (1, (rwN M), p2, (ce3 R0 (lst M h1).1 R2)) := by
  have w4 := hL.w4
  have h5 := hL.h5 h1 (by simp)
  have e := le3_1 N hN W.length R0 R1 R2 M h1 f0 f1 f2 lM w4 (by omega)
  rw [m72_L1, kj_f (by decide), kj_t rfl, gjL, grd_t (by simp [nL]), gh1, show PV.lst false M.length (nL M) = rwN M from rfl, e, bj_t]
  rfl
theorem njn3_2 (p1 : PV) (M : List Nat) (lM : M.length = W.length) (R0 R1 R2 : List Nat) (f0 : R0.length = W.length) (f1 : R1.length = W.length) (f2 : R2.length = W.length) : m72_L1 N (nL [h0, h1, h2]) 0 W.length W.length W.length (2 * W.length) W.length W.length (nL W) 2 p1 (rwN M) (ce3 R0 R1 R2) = some (2, p1, (rwN M), (ce3 R0 R1 (lst M h2).1)) := by
  have w4 := hL.w4
  have h5 := hL.h5 h2 (by simp)
  have e := le3_2 N hN W.length R0 R1 R2 M h2 f0 f1 f2 lM w4 (by omega)
  rw [m72_L1, kj_f (by decide), kj_f (by decide), kj_t rfl, gjL, grd_t (by simp [nL]), gh2, show PV.lst false M.length (nL M) = rwN M from rfl, e, bj_t]
  rfl
theorem neq3 : Eq3 W h0 h1 h2 (cntV) (fun a => (PV.tup [], a)) (fun f (i : Nat) a W1 W2 R0 R1 R2 => m72_L0 N (nL [h0, h1, h2]) W.length (nL W) 0 W.length W.length W.length (2 * W.length) W.length W.length (nL W) f ((i : Nat) : Int) a (rwN W1) (rwN W2) (ce3 R0 R1 R2)) where
  e2 := fun f a R0 R1 X k0 s0 k1 s1 hX => by
    have w4 := hL.w4
    have h5 := hL.h5 h2 (by simp)
    have f0 := k0.len
    have g1 := subN_len k0.len
    have f1 : R1.length = W.length := by rw [k1.len]; omega
    have g2 := subN_len k1.len
    have hq : h2 ≤ (subN (subN W R0) R1).sum := by have := hL.sum; have s1 := subN_sum k0; have s2 := subN_sum k1; simp only [List.sum_cons, List.sum_nil] at this; omega
    have hr := rows_first (subN (subN W R0) R1) h2 hq
    obtain ⟨l1, l2, l3⟩ := lst_low (subN (subN W R0) R1) h2 hq
    have hb := rows_le (ms := (subN (subN W R0) R1)) (n := h2) (by omega) h5
    rw [hr, List.length_cons] at hb
    obtain ⟨X', z1, z2⟩ := nex3 N hN W h0 h1 h2 hL R0 R1 f0 f1 k0 k1 _ (lst (subN (subN W R0) R1) h2).1 a N rfl l3 (by omega)
    have ej := njn3_2 N hN W h0 h1 h2 hL (rwN (subN W R0)) (subN (subN W R0) R1) (by omega) R0 R1 X f0 f1 hX
    refine ⟨X', z1, ?_⟩
    have hf : f3 (cntV) W h2 R0 a R1 = ((lst (subN (subN W R0) R1) h2).1 :: aft (lst (subN (subN W R0) R1) h2).1 (subN (subN W R0) R1)).foldl (fun a R => (cntV [R0, R1, R] a)) a := by unfold f3; rw [hr]
    show m72_L0 N (nL [h0, h1, h2]) W.length (nL W) 0 W.length W.length W.length (2 * W.length) W.length W.length (nL W) (f + 1) 2 a (rwN (subN W R0)) (rwN (subN (subN W R0) R1)) (ce3 R0 R1 X) = _
    rw [m72_L0, ej, bj_t]
    dsimp only
    rw [z2, hf]
    cases nxt R1 (subN W R0) with
    | some q => rfl
    | none =>
      cases nxt R0 W with
      | some q => rfl
      | none =>
        rfl
  e1 := fun f a R0 W2 Y X k0 s0 hY hX => by
    have f0 := k0.len
    have g1 := subN_len k0.len
    have hq : h1 ≤ (subN W R0).sum := by have := hL.sum; have s1 := subN_sum k0; simp only [List.sum_cons, List.sum_nil] at this; omega
    obtain ⟨l1, l2, l3⟩ := lst_low (subN W R0) h1 hq
    have ll := lst_len (subN W R0) h1
    have ej := njn3_1 N hN W h0 h1 h2 hL (rwN W2) (subN W R0) (by omega) R0 Y X f0 hY hX
    have ef := nfo3_1 N hN W h0 h1 h2 hL a (N - 1) (rwN W2) R0 (lst (subN W R0) h1).1 X f0 (by omega) hX k0 l3
    rw [show N - 1 + 1 = N by omega] at ef
    show m72_L0 N (nL [h0, h1, h2]) W.length (nL W) 0 W.length W.length W.length (2 * W.length) W.length W.length (nL W) (f + 1) 1 a (rwN (subN W R0)) (rwN W2) (ce3 R0 Y X) = _
    rw [m72_L0, ej, bj_t]
    dsimp only
    rw [ef]
    rfl
  e0 := fun f a W1 W2 Z Y X hZ hY hX => by
    have hq : h0 ≤ W.sum := by have := hL.sum; simp only [List.sum_cons, List.sum_nil] at this; omega
    obtain ⟨l1, l2, l3⟩ := lst_low W h0 hq
    have ll := lst_len W h0
    have ej := njn3_0 N hN W h0 h1 h2 hL (rwN W1) (rwN W2) Z Y X hZ hY hX
    have ef := nfo3_0 N hN W h0 h1 h2 hL a (N - 1) (rwN W1) (rwN W2) (lst W h0).1 Y X (by omega) hY hX l3
    rw [show N - 1 + 1 = N by omega] at ef
    show m72_L0 N (nL [h0, h1, h2]) W.length (nL W) 0 W.length W.length W.length (2 * W.length) W.length W.length (nL W) (f + 1) 0 a (rwN W1) (rwN W2) (ce3 Z Y X) = _
    rw [m72_L0, ej, bj_t]
    dsimp only
    rw [ef]
    rfl
theorem neach3 (hM : 2000000 ≤ N) (a : Int) : m72 N (.agg [rwN [h0, h1, h2], rwN W]) a = some (.tup [], ((dealsN [h0, h1, h2] W).foldl (fun a d => cntV d a) a)) := by
  have w1 := hL.w1
  have w4 := hL.w4
  have e1 := tb3 N W.length w4 (nL [h0, h1, h2]) (nL W)
  have e2 := clq_ok N W (by omega) (by omega)
  have e3 := each3 W h0 h1 h2 hL (cntV) (fun a => (PV.tup [], a)) _ (neq3 N hN W h0 h1 h2 hL) N a [] [] (List.replicate W.length 0) (List.replicate W.length 0) (List.replicate W.length 0) hM (by simp) (by simp) (by simp)
  skip
  rw [m72, gjA2, gjL, gjL, kjN_f (by simp), kjN_f (by simp), kjN_t (by rfl), e1, bj_t]
  dsimp only
  rw [e2, bj_t]
  dsimp only
  rw [grd_t (nL_len W), show m72_L0 N (nL [h0, h1, h2]) W.length (nL W) 0 W.length W.length W.length (2 * W.length) W.length W.length (nL W) N 0 a (.lst false 0 []) (.lst false 0 []) (ce3 (List.replicate W.length 0) (List.replicate W.length 0) (List.replicate W.length 0)) = _ from e3, bj_t]
end r3
theorem gjL' {α : Type} {n : Nat} {c : List PV} {f : Nat → List PV → Option α} : getL (.lst false n c) f = f n c := rfl
def crow : List Nat → List Int → Int
  | x :: r, y :: l => (x : Int) * y + crow r l
  | _, _ => 0
def costD : List (List Nat) → List (List Int) → Int
  | r :: d, l :: L => crow r l + costD d L
  | _, _ => 0
theorem crow_bnd : ∀ (r : List Nat) (l : List Int), (∀ x ∈ r, x ≤ 5) → (∀ y ∈ l, 0 ≤ y ∧ y ≤ 20) → 0 ≤ crow r l ∧ crow r l ≤ 100 * r.length
  | [], _, _, _ => by simp [crow]
  | x :: r, [], _, _ => by simp [crow]; omega
  | x :: r, y :: l, h, g => by
    obtain ⟨i1, i2⟩ := crow_bnd r l (fun z hz => h z (.tail _ hz)) (fun z hz => g z (.tail _ hz))
    have h1 := h x (.head _)
    obtain ⟨g1, g2⟩ := g y (.head _)
    have p1 : 0 ≤ (x : Int) * y := Int.mul_nonneg (by omega) g1
    have p2 : (x : Int) * y ≤ 5 * 20 := Int.mul_le_mul (by omega) g2 g1 (by omega)
    rw [crow, List.length_cons]
    omega
theorem crow_drop {r : List Nat} {l : List Int} {j : Nat} (h1 : j < r.length) (h2 : j < l.length) : crow (r.drop j) (l.drop j) = (nn r j : Int) * en l j + crow (r.drop (j + 1)) (l.drop (j + 1)) := by
  rw [drop_nn' h1, drop_en h2, crow]
def dP (d : List (List Nat)) : PV := .lst false d.length (d.map rwN)
abbrev StC := Option (List Nat × List (List Nat)) × Int
def o9 (a : StC) : PV := match a.1 with | some d => dP (d.1 :: d.2) | none => .nl
def x9 (a : StC) : Int := a.2
def chpV (L : List (List Int)) (d : List (List Nat)) (a : StC) : StC :=
  match a.1 with
  | some _ => if a.2 ≤ costD d L then a else (some (d.headD [], d.tail), costD d L)
  | none => (some (d.headD [], d.tail), costD d L)
section r1
variable (N : Nat) (hN : 2000 ≤ N) (W : List Nat) (h0 : Nat) (hL : Ldn [h0] W) (L : List (List Int)) (c : Nat) (hC : Okc L c) (hr : L.length = 1) (hc : W.length = c)
include hN hL hC hr hc
theorem hro1_0 (R0 : List Nat) (f0 : R0.length = W.length) (v5 : ∀ x ∈ R0, x ≤ 5) (o p q : PV) (x : Int) : ∀ (s j fuel : Nat) (y : Int), W.length - j = s → j ≤ W.length → s < fuel → 0 ≤ y → y ≤ 2000 - 100 * (s : Int) →
    m73_L0 N 0 W.length (ce1 R0) o x p q L.length (rwsP L) fuel y (j : Int) = some (y + crow (R0.drop j) ((ro L 0).drop j))
  | s, j, 0, _, _, _, h, _, _ => by omega
  | s, j, f + 1, y, hs, hj, hf, y0, y1 => by
    have w4 := hL.w4
    have hrl := rws_len L
    have lr := hC.row 0 (by omega)
    have li := iL_len (ro L 0)
    rw [m73_L0]
    by_cases h : j < W.length
    · have ln := ce1_len R0
      have hv := v5 _ (nn_mem (X := R0) (i := j) (by omega))
      obtain ⟨e0, e1⟩ := hC.val 0 j (by omega) (by omega)
      have p1 : 0 ≤ (nn R0 j : Int) * en (ro L 0) j := Int.mul_nonneg (by omega) e0
      have p2 : (nn R0 j : Int) * en (ro L 0) j ≤ 5 * 20 := Int.mul_le_mul (by omega) e1 e0 (by omega)
      rw [brn_t (by simp; omega), toNatN, grd_t ⟨by omega, by omega⟩, grd_t (by omega), gv1_0 W.length R0 f0 j (by omega), grd_t (by omega), grd_t (by first | omega | (simp only [List.length_drop]; omega)), rws_gp (by omega)]
      simp only [getL]
      rw [grd_t (by omega), grd_t (by simp only [List.length_drop]; omega), iL_gp (by omega)]
      simp only [getI, if_true]
      rw [wrap64 (n := (nn R0 j : Int) * en (ro L 0) j) (by omega) (by omega), wrap64 (n := y + (nn R0 j : Int) * en (ro L 0) j) (by omega) (by omega), wrapN (by omega)]
      rw [hro1_0 R0 f0 v5 o p q x (s - 1) (j + 1) f _ (by omega) (by omega) (by omega) (by omega) (by omega), crow_drop (r := R0) (l := ro L 0) (j := j) (by omega) (by omega), Int.add_assoc]
    · rw [brn_f (by simp; omega), List.drop_of_length_le (by omega)]
      simp [crow]
theorem hvi1 (a : StC) (R0 : List Nat) (f0 : R0.length = W.length) (k0 : leL R0 W) :
    m73 N (.lst false L.length (rwsP L)) 0 W.length (ce1 R0) (o9 a) (x9 a) (rwN [h0]) (rwN W) = some (.tup [], o9 (chpV L [R0] a), x9 (chpV L [R0] a), rwN [h0]) := by
  have w4 := hL.w4
  have v0 := k0.le5 hL.w5
  obtain ⟨b0, d0⟩ := crow_bnd R0 (ro L 0) v0 fun y hy => by
    obtain ⟨j, hj, rfl⟩ := List.getElem_of_mem hy
    have := hC.val 0 j (by omega) (by have := hC.row 0 (by omega); omega)
    simpa [en, List.getD, hj] using this
  rw [f0] at d0
  have s0 := hro1_0 N hN W h0 hL L c hC hr hc R0 f0 v0 (o9 a) (rwN [h0]) (rwN W) (x9 a) W.length 0 N (0) (by omega) (by omega) (by omega) (by omega) (by omega)
  rw [List.drop_zero, List.drop_zero] at s0
  have eL : L = [ro L 0] := by
    match L, hr with
    | [l0], _ => rfl
  have ec : costD [R0] L = 0 + crow R0 (ro L 0) := by
    rw [eL]; simp only [costD, ro, List.getD_cons_zero, List.getD_cons_succ]; omega
  have tb := tb1 N W.length w4 (nL [h0]) (nL W)
  have zl : (List.replicate W.length 0 : List Nat).length = W.length := by simp
  have zc := ce1_len (List.replicate W.length 0)
  rw [zl] at zc
  have t0 := tk1_0 W.length R0 f0
  have q0 := pu1_0 W.length (List.replicate W.length 0) R0 zl f0
  have r0 : ∀ X : List Nat, X.length = W.length → PV.lst false W.length (nL X) = rwN X := fun X hX => by rw [← hX]; rfl
  have er : dP [R0] = .lst false 1 [.lst false W.length (nL R0)] := by
    simp only [dP, List.map_cons, List.map_nil, List.length_cons, List.length_nil, r0 R0 f0]
  rw [m73, gjL', show m73_L0 N 0 W.length (ce1 R0) (o9 a) (x9 a) (rwN [h0]) (rwN W) L.length (rwsP L) N (0) 0 = _ from s0, bj_t, ← ec]
  clear s0
  obtain ⟨a1, a2⟩ := a
  cases a1 with
  | none =>
    show getN .nl _ _ = _
    rw [getN, gjL, kjN_t (by rfl), show m60 N (nL [h0]) (rwN W) = _ from tb, bj_t]
    dsimp only
    rw [grd_t (by rw [tk1_0 W.length R0 f0, nL_len]; exact f0), grd_t (by rw [zc]; omega)]
    simp only [t0, q0]
    show _ = some (PV.tup [], dP [R0], costD [R0] L, rwN [h0])
    rw [er]
    rfl
  | some d =>
    show getN (.lst false (d.1 :: d.2).length _) _ _ = _
    rw [getN, grd_t (by simp)]
    by_cases g : a2 ≤ costD [R0] L
    · have e : chpV L [R0] (some d, a2) = (some d, a2) := by show (if a2 ≤ _ then _ else _) = _; rw [if_pos g]
      rw [brn_t (decide_eq_true (show costD [R0] L ≥ x9 (some d, a2) from g)), e]
      rfl
    · have e : chpV L [R0] (some d, a2) = (some (R0, []), costD [R0] L) := by show (if a2 ≤ _ then _ else _) = _; rw [if_neg g]; rfl
      rw [brn_f (decide_eq_false (show ¬ costD [R0] L ≥ x9 (some d, a2) from g)), gjL, kjN_t (by rfl), show m60 N (nL [h0]) (rwN W) = _ from tb, bj_t]
      dsimp only
      rw [grd_t (by rw [tk1_0 W.length R0 f0, nL_len]; exact f0), grd_t (by rw [zc]; omega), e]
      simp only [t0, q0]
      show _ = some (PV.tup [], dP [R0], costD [R0] L, rwN [h0])
      rw [er]
      rfl
end r1
section r2
variable (N : Nat) (hN : 2000 ≤ N) (W : List Nat) (h0 h1 : Nat) (hL : Ldn [h0, h1] W) (L : List (List Int)) (c : Nat) (hC : Okc L c) (hr : L.length = 2) (hc : W.length = c)
include hN hL hC hr hc
theorem hro2_0 (R0 R1 : List Nat) (f0 : R0.length = W.length) (f1 : R1.length = W.length) (v5 : ∀ x ∈ R0, x ≤ 5) (o p q : PV) (x : Int) : ∀ (s j fuel : Nat) (y : Int), W.length - j = s → j ≤ W.length → s < fuel → 0 ≤ y → y ≤ 2000 - 100 * (s : Int) →
    m73_2_L0 N 0 W.length W.length W.length (ce2 R0 R1) o x p q L.length (rwsP L) fuel y (j : Int) = some (y + crow (R0.drop j) ((ro L 0).drop j))
  | s, j, 0, _, _, _, h, _, _ => by omega
  | s, j, f + 1, y, hs, hj, hf, y0, y1 => by
    have w4 := hL.w4
    have hrl := rws_len L
    have lr := hC.row 0 (by omega)
    have li := iL_len (ro L 0)
    rw [m73_2_L0]
    by_cases h : j < W.length
    · have ln := ce2_len R0 R1
      have hv := v5 _ (nn_mem (X := R0) (i := j) (by omega))
      obtain ⟨e0, e1⟩ := hC.val 0 j (by omega) (by omega)
      have p1 : 0 ≤ (nn R0 j : Int) * en (ro L 0) j := Int.mul_nonneg (by omega) e0
      have p2 : (nn R0 j : Int) * en (ro L 0) j ≤ 5 * 20 := Int.mul_le_mul (by omega) e1 e0 (by omega)
      rw [brn_t (by simp; omega), toNatN, grd_t ⟨by omega, by omega⟩, grd_t (by omega), gv2_0 W.length R0 R1 f0 f1 j (by omega), grd_t (by omega), grd_t (by first | omega | (simp only [List.length_drop]; omega)), rws_gp (by omega)]
      simp only [getL]
      rw [grd_t (by omega), grd_t (by simp only [List.length_drop]; omega), iL_gp (by omega)]
      simp only [getI, if_true]
      rw [wrap64 (n := (nn R0 j : Int) * en (ro L 0) j) (by omega) (by omega), wrap64 (n := y + (nn R0 j : Int) * en (ro L 0) j) (by omega) (by omega), wrapN (by omega)]
      rw [hro2_0 R0 R1 f0 f1 v5 o p q x (s - 1) (j + 1) f _ (by omega) (by omega) (by omega) (by omega) (by omega), crow_drop (r := R0) (l := ro L 0) (j := j) (by omega) (by omega), Int.add_assoc]
    · rw [brn_f (by simp; omega), List.drop_of_length_le (by omega)]
      simp [crow]
theorem hro2_1 (R0 R1 : List Nat) (f0 : R0.length = W.length) (f1 : R1.length = W.length) (v5 : ∀ x ∈ R1, x ≤ 5) (o p q : PV) (x : Int) : ∀ (s j fuel : Nat) (y : Int), W.length - j = s → j ≤ W.length → s < fuel → 0 ≤ y → y ≤ 2000 - 100 * (s : Int) →
    m73_2_L1 N 0 W.length W.length W.length (ce2 R0 R1) o x p q L.length (rwsP L) fuel y (j : Int) = some (y + crow (R1.drop j) ((ro L 1).drop j))
  | s, j, 0, _, _, _, h, _, _ => by omega
  | s, j, f + 1, y, hs, hj, hf, y0, y1 => by
    have w4 := hL.w4
    have hrl := rws_len L
    have lr := hC.row 1 (by omega)
    have li := iL_len (ro L 1)
    rw [m73_2_L1]
    by_cases h : j < W.length
    · have ln := ce2_len R0 R1
      have hv := v5 _ (nn_mem (X := R1) (i := j) (by omega))
      obtain ⟨e0, e1⟩ := hC.val 1 j (by omega) (by omega)
      have p1 : 0 ≤ (nn R1 j : Int) * en (ro L 1) j := Int.mul_nonneg (by omega) e0
      have p2 : (nn R1 j : Int) * en (ro L 1) j ≤ 5 * 20 := Int.mul_le_mul (by omega) e1 e0 (by omega)
      rw [brn_t (by simp; omega), toNatN, grd_t ⟨by omega, by omega⟩, grd_t (by omega), gv2_1 W.length R0 R1 f0 f1 j (by omega), grd_t (by omega), grd_t (by first | omega | (simp only [List.length_drop]; omega)), rws_gp (by omega)]
      simp only [getL]
      rw [grd_t (by omega), grd_t (by simp only [List.length_drop]; omega), iL_gp (by omega)]
      simp only [getI, if_true]
      rw [wrap64 (n := (nn R1 j : Int) * en (ro L 1) j) (by omega) (by omega), wrap64 (n := y + (nn R1 j : Int) * en (ro L 1) j) (by omega) (by omega), wrapN (by omega)]
      rw [hro2_1 R0 R1 f0 f1 v5 o p q x (s - 1) (j + 1) f _ (by omega) (by omega) (by omega) (by omega) (by omega), crow_drop (r := R1) (l := ro L 1) (j := j) (by omega) (by omega), Int.add_assoc]
    · rw [brn_f (by simp; omega), List.drop_of_length_le (by omega)]
      simp [crow]
theorem hvi2 (a : StC) (R0 R1 : List Nat) (f0 : R0.length = W.length) (f1 : R1.length = W.length) (k0 : leL R0 W) (k1 : leL R1 (subN W R0)) :
    m73_2 N (.lst false L.length (rwsP L)) 0 W.length W.length W.length (ce2 R0 R1) (o9 a) (x9 a) (rwN [h0, h1]) (rwN W) = some (.tup [], o9 (chpV L [R0, R1] a), x9 (chpV L [R0, R1] a), rwN [h0, h1]) := by
  have w4 := hL.w4
  have v0 := k0.le5 hL.w5
  have v1 := k1.le5 (k0.sub.le5 hL.w5)
  obtain ⟨b0, d0⟩ := crow_bnd R0 (ro L 0) v0 fun y hy => by
    obtain ⟨j, hj, rfl⟩ := List.getElem_of_mem hy
    have := hC.val 0 j (by omega) (by have := hC.row 0 (by omega); omega)
    simpa [en, List.getD, hj] using this
  rw [f0] at d0
  obtain ⟨b1, d1⟩ := crow_bnd R1 (ro L 1) v1 fun y hy => by
    obtain ⟨j, hj, rfl⟩ := List.getElem_of_mem hy
    have := hC.val 1 j (by omega) (by have := hC.row 1 (by omega); omega)
    simpa [en, List.getD, hj] using this
  rw [f1] at d1
  have s0 := hro2_0 N hN W h0 h1 hL L c hC hr hc R0 R1 f0 f1 v0 (o9 a) (rwN [h0, h1]) (rwN W) (x9 a) W.length 0 N (0) (by omega) (by omega) (by omega) (by omega) (by omega)
  rw [List.drop_zero, List.drop_zero] at s0
  have s1 := hro2_1 N hN W h0 h1 hL L c hC hr hc R0 R1 f0 f1 v1 (o9 a) (rwN [h0, h1]) (rwN W) (x9 a) W.length 0 N (0 + crow R0 (ro L 0)) (by omega) (by omega) (by omega) (by omega) (by omega)
  rw [List.drop_zero, List.drop_zero] at s1
  have eL : L = [ro L 0, ro L 1] := by
    match L, hr with
    | [l0, l1], _ => rfl
  have ec : costD [R0, R1] L = 0 + crow R0 (ro L 0) + crow R1 (ro L 1) := by
    rw [eL]; simp only [costD, ro, List.getD_cons_zero, List.getD_cons_succ]; omega
  have tb := tb2 N W.length w4 (nL [h0, h1]) (nL W)
  have zl : (List.replicate W.length 0 : List Nat).length = W.length := by simp
  have zc := ce2_len (List.replicate W.length 0) (List.replicate W.length 0)
  rw [zl] at zc
  have t0 := tk2_0 W.length R0 R1 f0 f1
  have t1 := tk2_1 W.length R0 R1 f0 f1
  have q0 := pu2_0 W.length (List.replicate W.length 0) (List.replicate W.length 0) R0 zl zl f0
  have q1 := pu2_1 W.length R0 (List.replicate W.length 0) R1 f0 zl f1
  have r0 : ∀ X : List Nat, X.length = W.length → PV.lst false W.length (nL X) = rwN X := fun X hX => by rw [← hX]; rfl
  have er : dP [R0, R1] = .lst false 2 [.lst false W.length (nL R0), .lst false W.length (nL R1)] := by
    simp only [dP, List.map_cons, List.map_nil, List.length_cons, List.length_nil, r0 R0 f0, r0 R1 f1]
  rw [m73_2, gjL', show m73_2_L0 N 0 W.length W.length W.length (ce2 R0 R1) (o9 a) (x9 a) (rwN [h0, h1]) (rwN W) L.length (rwsP L) N (0) 0 = _ from s0, bj_t, show m73_2_L1 N 0 W.length W.length W.length (ce2 R0 R1) (o9 a) (x9 a) (rwN [h0, h1]) (rwN W) L.length (rwsP L) N (0 + crow R0 (ro L 0)) 0 = _ from s1, bj_t, ← ec]
  clear s0 s1
  obtain ⟨a1, a2⟩ := a
  cases a1 with
  | none =>
    show getN .nl _ _ = _
    rw [getN, gjL, kjN_f (by simp), kjN_t (by rfl), show m60_2 N (nL [h0, h1]) (rwN W) = _ from tb, bj_t]
    dsimp only
    rw [grd_t (by rw [tk2_0 W.length R0 R1 f0 f1, nL_len]; exact f0), grd_t (by rw [zc]; omega), grd_t (by rw [tk2_1 W.length R0 R1 f0 f1, nL_len]; exact f1), grd_t (by rw [zc]; omega)]
    simp only [t0, t1, q0, q1]
    show _ = some (PV.tup [], dP [R0, R1], costD [R0, R1] L, rwN [h0, h1])
    rw [er]
    rfl
  | some d =>
    show getN (.lst false (d.1 :: d.2).length _) _ _ = _
    rw [getN, grd_t (by simp)]
    by_cases g : a2 ≤ costD [R0, R1] L
    · have e : chpV L [R0, R1] (some d, a2) = (some d, a2) := by show (if a2 ≤ _ then _ else _) = _; rw [if_pos g]
      rw [brn_t (decide_eq_true (show costD [R0, R1] L ≥ x9 (some d, a2) from g)), e]
      rfl
    · have e : chpV L [R0, R1] (some d, a2) = (some (R0, [R1]), costD [R0, R1] L) := by show (if a2 ≤ _ then _ else _) = _; rw [if_neg g]; rfl
      rw [brn_f (decide_eq_false (show ¬ costD [R0, R1] L ≥ x9 (some d, a2) from g)), gjL, kjN_f (by simp), kjN_t (by rfl), show m60_2 N (nL [h0, h1]) (rwN W) = _ from tb, bj_t]
      dsimp only
      rw [grd_t (by rw [tk2_0 W.length R0 R1 f0 f1, nL_len]; exact f0), grd_t (by rw [zc]; omega), grd_t (by rw [tk2_1 W.length R0 R1 f0 f1, nL_len]; exact f1), grd_t (by rw [zc]; omega), e]
      simp only [t0, t1, q0, q1]
      show _ = some (PV.tup [], dP [R0, R1], costD [R0, R1] L, rwN [h0, h1])
      rw [er]
      rfl
end r2
section r3
variable (N : Nat) (hN : 2000 ≤ N) (W : List Nat) (h0 h1 h2 : Nat) (hL : Ldn [h0, h1, h2] W) (L : List (List Int)) (c : Nat) (hC : Okc L c) (hr : L.length = 3) (hc : W.length = c)
include hN hL hC hr hc
theorem hro3_0 (R0 R1 R2 : List Nat) (f0 : R0.length = W.length) (f1 : R1.length = W.length) (f2 : R2.length = W.length) (v5 : ∀ x ∈ R0, x ≤ 5) (o p q : PV) (x : Int) : ∀ (s j fuel : Nat) (y : Int), W.length - j = s → j ≤ W.length → s < fuel → 0 ≤ y → y ≤ 2000 - 100 * (s : Int) →
    m73_3_L0 N 0 W.length W.length W.length (2 * W.length) W.length (ce3 R0 R1 R2) o x p q L.length (rwsP L) fuel y (j : Int) = some (y + crow (R0.drop j) ((ro L 0).drop j))
  | s, j, 0, _, _, _, h, _, _ => by omega
  | s, j, f + 1, y, hs, hj, hf, y0, y1 => by
    have w4 := hL.w4
    have hrl := rws_len L
    have lr := hC.row 0 (by omega)
    have li := iL_len (ro L 0)
    rw [m73_3_L0]
    by_cases h : j < W.length
    · have ln := ce3_len R0 R1 R2
      have hv := v5 _ (nn_mem (X := R0) (i := j) (by omega))
      obtain ⟨e0, e1⟩ := hC.val 0 j (by omega) (by omega)
      have p1 : 0 ≤ (nn R0 j : Int) * en (ro L 0) j := Int.mul_nonneg (by omega) e0
      have p2 : (nn R0 j : Int) * en (ro L 0) j ≤ 5 * 20 := Int.mul_le_mul (by omega) e1 e0 (by omega)
      rw [brn_t (by simp; omega), toNatN, grd_t ⟨by omega, by omega⟩, grd_t (by omega), gv3_0 W.length R0 R1 R2 f0 f1 f2 j (by omega), grd_t (by omega), grd_t (by first | omega | (simp only [List.length_drop]; omega)), rws_gp (by omega)]
      simp only [getL]
      rw [grd_t (by omega), grd_t (by simp only [List.length_drop]; omega), iL_gp (by omega)]
      simp only [getI, if_true]
      rw [wrap64 (n := (nn R0 j : Int) * en (ro L 0) j) (by omega) (by omega), wrap64 (n := y + (nn R0 j : Int) * en (ro L 0) j) (by omega) (by omega), wrapN (by omega)]
      rw [hro3_0 R0 R1 R2 f0 f1 f2 v5 o p q x (s - 1) (j + 1) f _ (by omega) (by omega) (by omega) (by omega) (by omega), crow_drop (r := R0) (l := ro L 0) (j := j) (by omega) (by omega), Int.add_assoc]
    · rw [brn_f (by simp; omega), List.drop_of_length_le (by omega)]
      simp [crow]
theorem hro3_1 (R0 R1 R2 : List Nat) (f0 : R0.length = W.length) (f1 : R1.length = W.length) (f2 : R2.length = W.length) (v5 : ∀ x ∈ R1, x ≤ 5) (o p q : PV) (x : Int) : ∀ (s j fuel : Nat) (y : Int), W.length - j = s → j ≤ W.length → s < fuel → 0 ≤ y → y ≤ 2000 - 100 * (s : Int) →
    m73_3_L1 N 0 W.length W.length W.length (2 * W.length) W.length (ce3 R0 R1 R2) o x p q L.length (rwsP L) fuel y (j : Int) = some (y + crow (R1.drop j) ((ro L 1).drop j))
  | s, j, 0, _, _, _, h, _, _ => by omega
  | s, j, f + 1, y, hs, hj, hf, y0, y1 => by
    have w4 := hL.w4
    have hrl := rws_len L
    have lr := hC.row 1 (by omega)
    have li := iL_len (ro L 1)
    rw [m73_3_L1]
    by_cases h : j < W.length
    · have ln := ce3_len R0 R1 R2
      have hv := v5 _ (nn_mem (X := R1) (i := j) (by omega))
      obtain ⟨e0, e1⟩ := hC.val 1 j (by omega) (by omega)
      have p1 : 0 ≤ (nn R1 j : Int) * en (ro L 1) j := Int.mul_nonneg (by omega) e0
      have p2 : (nn R1 j : Int) * en (ro L 1) j ≤ 5 * 20 := Int.mul_le_mul (by omega) e1 e0 (by omega)
      rw [brn_t (by simp; omega), toNatN, grd_t ⟨by omega, by omega⟩, grd_t (by omega), gv3_1 W.length R0 R1 R2 f0 f1 f2 j (by omega), grd_t (by omega), grd_t (by first | omega | (simp only [List.length_drop]; omega)), rws_gp (by omega)]
      simp only [getL]
      rw [grd_t (by omega), grd_t (by simp only [List.length_drop]; omega), iL_gp (by omega)]
      simp only [getI, if_true]
      rw [wrap64 (n := (nn R1 j : Int) * en (ro L 1) j) (by omega) (by omega), wrap64 (n := y + (nn R1 j : Int) * en (ro L 1) j) (by omega) (by omega), wrapN (by omega)]
      rw [hro3_1 R0 R1 R2 f0 f1 f2 v5 o p q x (s - 1) (j + 1) f _ (by omega) (by omega) (by omega) (by omega) (by omega), crow_drop (r := R1) (l := ro L 1) (j := j) (by omega) (by omega), Int.add_assoc]
    · rw [brn_f (by simp; omega), List.drop_of_length_le (by omega)]
      simp [crow]
theorem hro3_2 (R0 R1 R2 : List Nat) (f0 : R0.length = W.length) (f1 : R1.length = W.length) (f2 : R2.length = W.length) (v5 : ∀ x ∈ R2, x ≤ 5) (o p q : PV) (x : Int) : ∀ (s j fuel : Nat) (y : Int), W.length - j = s → j ≤ W.length → s < fuel → 0 ≤ y → y ≤ 2000 - 100 * (s : Int) →
    m73_3_L2 N 0 W.length W.length W.length (2 * W.length) W.length (ce3 R0 R1 R2) o x p q L.length (rwsP L) fuel y (j : Int) = some (y + crow (R2.drop j) ((ro L 2).drop j))
  | s, j, 0, _, _, _, h, _, _ => by omega
  | s, j, f + 1, y, hs, hj, hf, y0, y1 => by
    have w4 := hL.w4
    have hrl := rws_len L
    have lr := hC.row 2 (by omega)
    have li := iL_len (ro L 2)
    rw [m73_3_L2]
    by_cases h : j < W.length
    · have ln := ce3_len R0 R1 R2
      have hv := v5 _ (nn_mem (X := R2) (i := j) (by omega))
      obtain ⟨e0, e1⟩ := hC.val 2 j (by omega) (by omega)
      have p1 : 0 ≤ (nn R2 j : Int) * en (ro L 2) j := Int.mul_nonneg (by omega) e0
      have p2 : (nn R2 j : Int) * en (ro L 2) j ≤ 5 * 20 := Int.mul_le_mul (by omega) e1 e0 (by omega)
      rw [brn_t (by simp; omega), toNatN, grd_t ⟨by omega, by omega⟩, grd_t (by omega), gv3_2 W.length R0 R1 R2 f0 f1 f2 j (by omega), grd_t (by omega), grd_t (by first | omega | (simp only [List.length_drop]; omega)), rws_gp (by omega)]
      simp only [getL]
      rw [grd_t (by omega), grd_t (by simp only [List.length_drop]; omega), iL_gp (by omega)]
      simp only [getI, if_true]
      rw [wrap64 (n := (nn R2 j : Int) * en (ro L 2) j) (by omega) (by omega), wrap64 (n := y + (nn R2 j : Int) * en (ro L 2) j) (by omega) (by omega), wrapN (by omega)]
      rw [hro3_2 R0 R1 R2 f0 f1 f2 v5 o p q x (s - 1) (j + 1) f _ (by omega) (by omega) (by omega) (by omega) (by omega), crow_drop (r := R2) (l := ro L 2) (j := j) (by omega) (by omega), Int.add_assoc]
    · rw [brn_f (by simp; omega), List.drop_of_length_le (by omega)]
      simp [crow]
theorem hvi3 (a : StC) (R0 R1 R2 : List Nat) (f0 : R0.length = W.length) (f1 : R1.length = W.length) (f2 : R2.length = W.length) (k0 : leL R0 W) (k1 : leL R1 (subN W R0)) (k2 : leL R2 (subN (subN W R0) R1)) :
    m73_3 N (.lst false L.length (rwsP L)) 0 W.length W.length W.length (2 * W.length) W.length (ce3 R0 R1 R2) (o9 a) (x9 a) (rwN [h0, h1, h2]) (rwN W) = some (.tup [], o9 (chpV L [R0, R1, R2] a), x9 (chpV L [R0, R1, R2] a), rwN [h0, h1, h2]) := by
  have w4 := hL.w4
  have v0 := k0.le5 hL.w5
  have v1 := k1.le5 (k0.sub.le5 hL.w5)
  have v2 := k2.le5 (k1.sub.le5 (k0.sub.le5 hL.w5))
  obtain ⟨b0, d0⟩ := crow_bnd R0 (ro L 0) v0 fun y hy => by
    obtain ⟨j, hj, rfl⟩ := List.getElem_of_mem hy
    have := hC.val 0 j (by omega) (by have := hC.row 0 (by omega); omega)
    simpa [en, List.getD, hj] using this
  rw [f0] at d0
  obtain ⟨b1, d1⟩ := crow_bnd R1 (ro L 1) v1 fun y hy => by
    obtain ⟨j, hj, rfl⟩ := List.getElem_of_mem hy
    have := hC.val 1 j (by omega) (by have := hC.row 1 (by omega); omega)
    simpa [en, List.getD, hj] using this
  rw [f1] at d1
  obtain ⟨b2, d2⟩ := crow_bnd R2 (ro L 2) v2 fun y hy => by
    obtain ⟨j, hj, rfl⟩ := List.getElem_of_mem hy
    have := hC.val 2 j (by omega) (by have := hC.row 2 (by omega); omega)
    simpa [en, List.getD, hj] using this
  rw [f2] at d2
  have s0 := hro3_0 N hN W h0 h1 h2 hL L c hC hr hc R0 R1 R2 f0 f1 f2 v0 (o9 a) (rwN [h0, h1, h2]) (rwN W) (x9 a) W.length 0 N (0) (by omega) (by omega) (by omega) (by omega) (by omega)
  rw [List.drop_zero, List.drop_zero] at s0
  have s1 := hro3_1 N hN W h0 h1 h2 hL L c hC hr hc R0 R1 R2 f0 f1 f2 v1 (o9 a) (rwN [h0, h1, h2]) (rwN W) (x9 a) W.length 0 N (0 + crow R0 (ro L 0)) (by omega) (by omega) (by omega) (by omega) (by omega)
  rw [List.drop_zero, List.drop_zero] at s1
  have s2 := hro3_2 N hN W h0 h1 h2 hL L c hC hr hc R0 R1 R2 f0 f1 f2 v2 (o9 a) (rwN [h0, h1, h2]) (rwN W) (x9 a) W.length 0 N (0 + crow R0 (ro L 0) + crow R1 (ro L 1)) (by omega) (by omega) (by omega) (by omega) (by omega)
  rw [List.drop_zero, List.drop_zero] at s2
  have eL : L = [ro L 0, ro L 1, ro L 2] := by
    match L, hr with
    | [l0, l1, l2], _ => rfl
  have ec : costD [R0, R1, R2] L = 0 + crow R0 (ro L 0) + crow R1 (ro L 1) + crow R2 (ro L 2) := by
    rw [eL]; simp only [costD, ro, List.getD_cons_zero, List.getD_cons_succ]; omega
  have tb := tb3 N W.length w4 (nL [h0, h1, h2]) (nL W)
  have zl : (List.replicate W.length 0 : List Nat).length = W.length := by simp
  have zc := ce3_len (List.replicate W.length 0) (List.replicate W.length 0) (List.replicate W.length 0)
  rw [zl] at zc
  have t0 := tk3_0 W.length R0 R1 R2 f0 f1 f2
  have t1 := tk3_1 W.length R0 R1 R2 f0 f1 f2
  have t2 := tk3_2 W.length R0 R1 R2 f0 f1 f2
  have q0 := pu3_0 W.length (List.replicate W.length 0) (List.replicate W.length 0) (List.replicate W.length 0) R0 zl zl zl f0
  have q1 := pu3_1 W.length R0 (List.replicate W.length 0) (List.replicate W.length 0) R1 f0 zl zl f1
  have q2 := pu3_2 W.length R0 R1 (List.replicate W.length 0) R2 f0 f1 zl f2
  have r0 : ∀ X : List Nat, X.length = W.length → PV.lst false W.length (nL X) = rwN X := fun X hX => by rw [← hX]; rfl
  have er : dP [R0, R1, R2] = .lst false 3 [.lst false W.length (nL R0), .lst false W.length (nL R1), .lst false W.length (nL R2)] := by
    simp only [dP, List.map_cons, List.map_nil, List.length_cons, List.length_nil, r0 R0 f0, r0 R1 f1, r0 R2 f2]
  rw [m73_3, gjL', show m73_3_L0 N 0 W.length W.length W.length (2 * W.length) W.length (ce3 R0 R1 R2) (o9 a) (x9 a) (rwN [h0, h1, h2]) (rwN W) L.length (rwsP L) N (0) 0 = _ from s0, bj_t, show m73_3_L1 N 0 W.length W.length W.length (2 * W.length) W.length (ce3 R0 R1 R2) (o9 a) (x9 a) (rwN [h0, h1, h2]) (rwN W) L.length (rwsP L) N (0 + crow R0 (ro L 0)) 0 = _ from s1, bj_t, show m73_3_L2 N 0 W.length W.length W.length (2 * W.length) W.length (ce3 R0 R1 R2) (o9 a) (x9 a) (rwN [h0, h1, h2]) (rwN W) L.length (rwsP L) N (0 + crow R0 (ro L 0) + crow R1 (ro L 1)) 0 = _ from s2, bj_t, ← ec]
  clear s0 s1 s2
  obtain ⟨a1, a2⟩ := a
  cases a1 with
  | none =>
    show getN .nl _ _ = _
    rw [getN, gjL, kjN_f (by simp), kjN_f (by simp), kjN_t (by rfl), show m60_3 N (nL [h0, h1, h2]) (rwN W) = _ from tb, bj_t]
    dsimp only
    rw [grd_t (by rw [tk3_0 W.length R0 R1 R2 f0 f1 f2, nL_len]; exact f0), grd_t (by rw [zc]; omega), grd_t (by rw [tk3_1 W.length R0 R1 R2 f0 f1 f2, nL_len]; exact f1), grd_t (by rw [zc]; omega), grd_t (by rw [tk3_2 W.length R0 R1 R2 f0 f1 f2, nL_len]; exact f2), grd_t (by rw [zc]; omega)]
    simp only [t0, t1, t2, q0, q1, q2]
    show _ = some (PV.tup [], dP [R0, R1, R2], costD [R0, R1, R2] L, rwN [h0, h1, h2])
    rw [er]
    rfl
  | some d =>
    show getN (.lst false (d.1 :: d.2).length _) _ _ = _
    rw [getN, grd_t (by simp)]
    by_cases g : a2 ≤ costD [R0, R1, R2] L
    · have e : chpV L [R0, R1, R2] (some d, a2) = (some d, a2) := by show (if a2 ≤ _ then _ else _) = _; rw [if_pos g]
      rw [brn_t (decide_eq_true (show costD [R0, R1, R2] L ≥ x9 (some d, a2) from g)), e]
      rfl
    · have e : chpV L [R0, R1, R2] (some d, a2) = (some (R0, [R1, R2]), costD [R0, R1, R2] L) := by show (if a2 ≤ _ then _ else _) = _; rw [if_neg g]; rfl
      rw [brn_f (decide_eq_false (show ¬ costD [R0, R1, R2] L ≥ x9 (some d, a2) from g)), gjL, kjN_f (by simp), kjN_f (by simp), kjN_t (by rfl), show m60_3 N (nL [h0, h1, h2]) (rwN W) = _ from tb, bj_t]
      dsimp only
      rw [grd_t (by rw [tk3_0 W.length R0 R1 R2 f0 f1 f2, nL_len]; exact f0), grd_t (by rw [zc]; omega), grd_t (by rw [tk3_1 W.length R0 R1 R2 f0 f1 f2, nL_len]; exact f1), grd_t (by rw [zc]; omega), grd_t (by rw [tk3_2 W.length R0 R1 R2 f0 f1 f2, nL_len]; exact f2), grd_t (by rw [zc]; omega), e]
      simp only [t0, t1, t2, q0, q1, q2]
      show _ = some (PV.tup [], dP [R0, R1, R2], costD [R0, R1, R2] L, rwN [h0, h1, h2])
      rw [er]
      rfl
end r3
end Go.Proofs.Yteidcinajdehkaa
