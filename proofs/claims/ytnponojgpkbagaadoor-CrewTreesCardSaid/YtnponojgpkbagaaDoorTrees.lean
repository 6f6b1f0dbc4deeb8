/-
  CrewTrees: the law returns true for all arguments: the beginning with what is not known, the rest by the executor for each case.
-/
import Derived.Test.YtnponojgpkbagaaDoorKA
import Derived.Test.YtnponojgpkbagaaDoorV28
namespace Go.Proofs.YtnponojgpkbagaaDoor
open Go.V
set_option maxRecDepth 100000
attribute [local go_sem] tl3 tl4 tl5 tl70 tl71
noncomputable def body14 : Code := match Tryd.f14.body with | some c => c | none => .skip
theorem hb14 : Tryd.f14.body = some body14 := by kernel_rfl
theorem eq0 : body14 = Code.seq (Code.region 0 #[{ dst := Option.some 4, op := Op.assign (Operand.const (Value.bool Bool.false)), type := 4, pos := "outright.go:274", after := #[], guard := Option.none }] Bool.false) (Code.seq (Code.region 1 #[{ dst := Option.some 17, op := Op.move (Operand.tmp 0), type := 5, pos := "outright.go:275", after := #[], guard := Option.none }, { dst := Option.some 18, op := Op.convert 5 3 (Operand.tmp 17), type := 3, pos := "outright.go:275", after := #[{ on := 0, ground := Ground.data }], guard := Option.none }, { dst := Option.some 19, op := Op.binOp BinOp.rem 3 (Operand.tmp 18) (Operand.const (Value.int IntKind.i64 3)) 3, type := 3, pos := "outright.go:275", after := #[{ on := 1, ground := Ground.data }], guard := Option.none }, { dst := Option.some 20, op := Op.binOp BinOp.add 3 (Operand.const (Value.int IntKind.i64 2)) (Operand.tmp 19) 3, type := 3, pos := "outright.go:275", after := #[{ on := 2, ground := Ground.data }], guard := Option.none }, { dst := Option.some 5, op := Op.assign (Operand.tmp 20), type := 3, pos := "outright.go:275", after := #[{ on := 3, ground := Ground.data }, { on := 0, ground := Ground.phase }, { on := 1, ground := Ground.phase }, { on := 2, ground := Ground.phase }, { on := 3, ground := Ground.phase }], guard := Option.none }] Bool.false) (dropSeq 2 body14)) := by kernel_rfl
theorem eq8 : dropSeq 6 (dropSeq 2 body14) = Code.seq (Code.region 16 #[{ dst := Option.some 70, op := Op.move (Operand.tmp 1), type := 5, pos := "outright.go:289", after := #[], guard := Option.none }, { dst := Option.some 71, op := Op.convert 5 3 (Operand.tmp 70), type := 3, pos := "outright.go:289", after := #[{ on := 0, ground := Ground.data }], guard := Option.none }, { dst := Option.some 72, op := Op.move (Operand.tmp 6), type := 70, pos := "outright.go:289", after := #[], guard := Option.none }, { dst := Option.some 73, op := Op.call { callee := Callee.builtin Builtin.len, args := #[Operand.tmp 72], argTypes := #[70] }, type := 3, pos := "outright.go:289", after := #[{ on := 2, ground := Ground.data }], guard := Option.none }, { dst := Option.some 74, op := Op.binOp BinOp.rem 3 (Operand.tmp 71) (Operand.tmp 73) 3, type := 3, pos := "outright.go:289", after := #[{ on := 1, ground := Ground.data }, { on := 3, ground := Ground.data }], guard := Option.none }, { dst := Option.some 14, op := Op.assign (Operand.tmp 74), type := 3, pos := "outright.go:289", after := #[{ on := 4, ground := Ground.data }, { on := 0, ground := Ground.phase }, { on := 1, ground := Ground.phase }, { on := 2, ground := Ground.phase }, { on := 3, ground := Ground.phase }, { on := 4, ground := Ground.phase }], guard := Option.none }] Bool.false) (dropSeq 9 body14) := by kernel_rfl
theorem wrapS {n : Int} (h : 0 ≤ n ∧ n < 256) : IntKind.i64.wrap n = n := wrap64 (by omega) (by omega)
theorem tmodS {n k : Int} (h : 0 ≤ n) : n.tmod k = n % k := Int.tmod_eq_emod_of_nonneg h
def st0 (s g : Int) : St := ⟨[], [(0, (.v (.int .u8 s))), (1, (.v (.int .u8 g))), (4, (.v (.bool false))), (5, (.v (.int .i64 2))), (6, (.sl false 0 0 1 2)), (7, (.v (.int .i64 1))), (8, (.v (.int .i64 2))), (9, (.ptr 10 0)), (10, (.v (.int .i64 1))), (11, (.v (.int .i64 1))), (12, (.v (.int .i64 1))), (13, (.v (.int .i64 0))), (14, .dead), (15, .dead), (16, .dead), (21, (.v (.int .i64 2))), (22, (.v (.int .i64 2))), (23, (.v (.bool false))), (29, (.v (.bool false))), (69, (.v (.bool false)))], [(42, (.r [(.sl false 0 0 1 2)])), (10, (.r [(.v (.int .i64 2)), (.sl false 45 0 1 1)])), (92, (.p [(.int .i64 1), (.int .i64 3), (.int .i64 16)])), (97, (.p [(.int .i64 1), (.int .i64 2), (.int .i64 6)])), (0, (.p [(.int .i64 0), (.int .i64 1)])), (45, (.r [(.sl false 0 0 1 2)]))], 98, []⟩
def su0 (s g : Int) (i : Int) : St := ⟨[], [(0, (.v (.int .u8 s))), (1, (.v (.int .u8 g))), (4, (.v (.bool false))), (5, (.v (.int .i64 2))), (6, (.sl false 0 0 1 2)), (7, (.v (.int .i64 1))), (8, (.v (.int .i64 2))), (9, (.ptr 10 0)), (10, (.v (.int .i64 1))), (11, (.v (.int .i64 1))), (12, (.v (.int .i64 1))), (13, (.v (.int .i64 0))), (14, .v (.int .i64 i)), (15, .dead), (16, .dead), (21, (.v (.int .i64 2))), (22, (.v (.int .i64 2))), (23, (.v (.bool false))), (29, (.v (.bool false))), (69, (.v (.bool false)))], [(42, (.r [(.sl false 0 0 1 2)])), (10, (.r [(.v (.int .i64 2)), (.sl false 45 0 1 1)])), (92, (.p [(.int .i64 1), (.int .i64 3), (.int .i64 16)])), (97, (.p [(.int .i64 1), (.int .i64 2), (.int .i64 6)])), (0, (.p [(.int .i64 0), (.int .i64 1)])), (45, (.r [(.sl false 0 0 1 2)]))], 98, []⟩
theorem pa0 (s g : Int) : spineE Tryd.prog tab (nthL domL) noFz KN 6000 114 6 (dropSeq 2 body14) ⟨[], [(0, .v (.int .u8 s)), (1, .v (.int .u8 g)), (4, .v (.bool false)), (5, .v (.int .i64 2)), (6, .dead), (7, .dead), (8, .dead), (9, .dead), (10, .dead), (11, .dead), (12, .dead), (13, .dead), (14, .dead), (15, .dead), (16, .dead), (21, .dead), (22, .dead), (23, .dead), (29, .dead), (69, .dead)], [], 0, []⟩ = some (st0 s g) := by kernel_rfl
theorem pc0_0 (s g : Int) : restE Tryd.prog tab (nthL domL) noFz KN 6000 114 [.tmp 4] (dropSeq 9 body14) (su0 s g 0) = some (.bool true) := by kernel_rfl
def st1 (s g : Int) : St := ⟨[], [(0, (.v (.int .u8 s))), (1, (.v (.int .u8 g))), (4, (.v (.bool false))), (5, (.v (.int .i64 3))), (6, (.sl false 0 0 3 2)), (7, (.v (.int .i64 2))), (8, (.v (.int .i64 3))), (9, (.ptr 10 0)), (10, (.v (.int .i64 3))), (11, (.v (.int .i64 2))), (12, (.v (.int .i64 6))), (13, (.v (.int .i64 0))), (14, .dead), (15, .dead), (16, .dead), (21, (.v (.int .i64 3))), (22, (.v (.int .i64 3))), (23, (.v (.bool false))), (29, (.v (.bool false))), (69, (.v (.bool false)))], [(42, (.r [(.sl false 0 0 3 2)])), (10, (.r [(.v (.int .i64 3)), (.sl false 45 0 2 1)])), (92, (.p [(.int .i64 1), (.int .i64 3), (.int .i64 16)])), (97, (.p [(.int .i64 1), (.int .i64 2), (.int .i64 6)])), (0, (.p [(.int .i64 0), (.int .i64 1), (.int .i64 0), (.int .i64 2), (.int .i64 1), (.int .i64 2)])), (45, (.r [(.sl false 0 0 3 2), (.sl false 0 0 3 2)]))], 98, []⟩
def su1 (s g : Int) (i : Int) : St := ⟨[], [(0, (.v (.int .u8 s))), (1, (.v (.int .u8 g))), (4, (.v (.bool false))), (5, (.v (.int .i64 3))), (6, (.sl false 0 0 3 2)), (7, (.v (.int .i64 2))), (8, (.v (.int .i64 3))), (9, (.ptr 10 0)), (10, (.v (.int .i64 3))), (11, (.v (.int .i64 2))), (12, (.v (.int .i64 6))), (13, (.v (.int .i64 0))), (14, .v (.int .i64 i)), (15, .dead), (16, .dead), (21, (.v (.int .i64 3))), (22, (.v (.int .i64 3))), (23, (.v (.bool false))), (29, (.v (.bool false))), (69, (.v (.bool false)))], [(42, (.r [(.sl false 0 0 3 2)])), (10, (.r [(.v (.int .i64 3)), (.sl false 45 0 2 1)])), (92, (.p [(.int .i64 1), (.int .i64 3), (.int .i64 16)])), (97, (.p [(.int .i64 1), (.int .i64 2), (.int .i64 6)])), (0, (.p [(.int .i64 0), (.int .i64 1), (.int .i64 0), (.int .i64 2), (.int .i64 1), (.int .i64 2)])), (45, (.r [(.sl false 0 0 3 2), (.sl false 0 0 3 2)]))], 98, []⟩
theorem pa1 (s g : Int) : spineE Tryd.prog tab (nthL domL) noFz KN 6000 114 6 (dropSeq 2 body14) ⟨[], [(0, .v (.int .u8 s)), (1, .v (.int .u8 g)), (4, .v (.bool false)), (5, .v (.int .i64 3)), (6, .dead), (7, .dead), (8, .dead), (9, .dead), (10, .dead), (11, .dead), (12, .dead), (13, .dead), (14, .dead), (15, .dead), (16, .dead), (21, .dead), (22, .dead), (23, .dead), (29, .dead), (69, .dead)], [], 0, []⟩ = some (st1 s g) := by kernel_rfl
theorem pc1_0 (s g : Int) : restE Tryd.prog tab (nthL domL) noFz KN 6000 114 [.tmp 4] (dropSeq 9 body14) (su1 s g 0) = some (.bool true) := by kernel_rfl
theorem pc1_1 (s g : Int) : restE Tryd.prog tab (nthL domL) noFz KN 6000 114 [.tmp 4] (dropSeq 9 body14) (su1 s g 1) = some (.bool true) := by kernel_rfl
theorem pc1_2 (s g : Int) : restE Tryd.prog tab (nthL domL) noFz KN 6000 114 [.tmp 4] (dropSeq 9 body14) (su1 s g 2) = some (.bool true) := by kernel_rfl
def st2 (s g : Int) : St := ⟨[], [(0, (.v (.int .u8 s))), (1, (.v (.int .u8 g))), (4, (.v (.bool false))), (5, (.v (.int .i64 4))), (6, (.sl false 0 0 6 2)), (7, (.v (.int .i64 3))), (8, (.v (.int .i64 4))), (9, (.ptr 10 0)), (10, (.v (.int .i64 16))), (11, (.v (.int .i64 6))), (12, (.v (.int .i64 96))), (13, (.v (.int .i64 0))), (14, .dead), (15, .dead), (16, .dead), (21, (.v (.int .i64 4))), (22, (.v (.int .i64 4))), (23, (.v (.bool false))), (29, (.v (.bool false))), (69, (.v (.bool false)))], [(42, (.r [(.sl false 0 0 6 2)])), (10, (.r [(.v (.int .i64 4)), (.sl false 45 0 3 1)])), (92, (.p [(.int .i64 1), (.int .i64 3), (.int .i64 16)])), (97, (.p [(.int .i64 1), (.int .i64 2), (.int .i64 6)])), (0, (.p [(.int .i64 0), (.int .i64 1), (.int .i64 0), (.int .i64 2), (.int .i64 0), (.int .i64 3), (.int .i64 1), (.int .i64 2), (.int .i64 1), (.int .i64 3), (.int .i64 2), (.int .i64 3)])), (45, (.r [(.sl false 0 0 6 2), (.sl false 0 0 6 2), (.sl false 0 0 6 2)]))], 98, []⟩
def su2 (s g : Int) (i : Int) : St := ⟨[], [(0, (.v (.int .u8 s))), (1, (.v (.int .u8 g))), (4, (.v (.bool false))), (5, (.v (.int .i64 4))), (6, (.sl false 0 0 6 2)), (7, (.v (.int .i64 3))), (8, (.v (.int .i64 4))), (9, (.ptr 10 0)), (10, (.v (.int .i64 16))), (11, (.v (.int .i64 6))), (12, (.v (.int .i64 96))), (13, (.v (.int .i64 0))), (14, .v (.int .i64 i)), (15, .dead), (16, .dead), (21, (.v (.int .i64 4))), (22, (.v (.int .i64 4))), (23, (.v (.bool false))), (29, (.v (.bool false))), (69, (.v (.bool false)))], [(42, (.r [(.sl false 0 0 6 2)])), (10, (.r [(.v (.int .i64 4)), (.sl false 45 0 3 1)])), (92, (.p [(.int .i64 1), (.int .i64 3), (.int .i64 16)])), (97, (.p [(.int .i64 1), (.int .i64 2), (.int .i64 6)])), (0, (.p [(.int .i64 0), (.int .i64 1), (.int .i64 0), (.int .i64 2), (.int .i64 0), (.int .i64 3), (.int .i64 1), (.int .i64 2), (.int .i64 1), (.int .i64 3), (.int .i64 2), (.int .i64 3)])), (45, (.r [(.sl false 0 0 6 2), (.sl false 0 0 6 2), (.sl false 0 0 6 2)]))], 98, []⟩
theorem pa2 (s g : Int) : spineE Tryd.prog tab (nthL domL) noFz KN 6000 114 6 (dropSeq 2 body14) ⟨[], [(0, .v (.int .u8 s)), (1, .v (.int .u8 g)), (4, .v (.bool false)), (5, .v (.int .i64 4)), (6, .dead), (7, .dead), (8, .dead), (9, .dead), (10, .dead), (11, .dead), (12, .dead), (13, .dead), (14, .dead), (15, .dead), (16, .dead), (21, .dead), (22, .dead), (23, .dead), (29, .dead), (69, .dead)], [], 0, []⟩ = some (st2 s g) := by kernel_rfl
theorem pc2_0 (s g : Int) : restE Tryd.prog tab (nthL domL) noFz KN 6000 114 [.tmp 4] (dropSeq 9 body14) (su2 s g 0) = some (.bool true) := by kernel_rfl
theorem pc2_1 (s g : Int) : restE Tryd.prog tab (nthL domL) noFz KN 6000 114 [.tmp 4] (dropSeq 9 body14) (su2 s g 1) = some (.bool true) := by kernel_rfl
theorem pc2_2 (s g : Int) : restE Tryd.prog tab (nthL domL) noFz KN 6000 114 [.tmp 4] (dropSeq 9 body14) (su2 s g 2) = some (.bool true) := by kernel_rfl
theorem pc2_3 (s g : Int) : restE Tryd.prog tab (nthL domL) noFz KN 6000 114 [.tmp 4] (dropSeq 9 body14) (su2 s g 3) = some (.bool true) := by kernel_rfl
theorem pc2_4 (s g : Int) : restE Tryd.prog tab (nthL domL) noFz KN 6000 114 [.tmp 4] (dropSeq 9 body14) (su2 s g 4) = some (.bool true) := by kernel_rfl
theorem pc2_5 (s g : Int) : restE Tryd.prog tab (nthL domL) noFz KN 6000 114 [.tmp 4] (dropSeq 9 body14) (su2 s g 5) = some (.bool true) := by kernel_rfl
set_option maxHeartbeats 4000000 in
theorem trees (s g : Int) (hs : 0 ≤ s ∧ s < 256) (hg : 0 ≤ g ∧ g < 256) : FnP Tryd.prog 14 [.int .u8 s, .int .u8 g] (.bool true) := by
  refine Fn_of (sz := 114) (c := body14) tab_ok [0, 1, 4, 5, 6, 7, 8, 9, 10, 11, 12, 13, 14, 15, 16, 21, 22, 23, 29, 69] [.tmp 4] Tryd.func14 hb14 rfl rfl (by simp) ?_
  rw [eq0]
  refine W_sound tab_ok mixed 12 _ _ _ ?_
  simp only [go_sem, Nat.reduceBEq, Nat.reduceAdd, Nat.reduceSub, Nat.reduceMul, Nat.reduceLT, Nat.reduceLeDiff, Int.reduceLE, Int.reduceLT, Int.reduceToNat, Int.cast_ofNat_Int, ↓reduceIte]
  refine ⟨by decide, ?_⟩
  have hn : IntKind.i64.wrap (2 + (IntKind.i64.wrap s).tmod 3) = 2 ∨ IntKind.i64.wrap (2 + (IntKind.i64.wrap s).tmod 3) = 3 ∨ IntKind.i64.wrap (2 + (IntKind.i64.wrap s).tmod 3) = 4 := by
    rw [wrapS hs, tmodS hs.1, wrapS (n := 2 + s % 3) (by omega)]
    omega
  generalize IntKind.i64.wrap (2 + (IntKind.i64.wrap s).tmod 3) = z at hn ⊢
  rcases hn with rfl | rfl | rfl
  · refine spineE_ok tab_ok mixed KN_ok 6 _ _ _ (pa0 s g) ?_
    rw [eq8]
    unfold st0
    refine W_sound tab_ok mixed 9 _ _ _ ?_
    simp only [go_sem, Nat.reduceBEq, Nat.reduceAdd, Nat.reduceSub, Nat.reduceMul, Nat.reduceLT, Nat.reduceLeDiff, Int.reduceLE, Int.reduceLT, Int.reduceToNat, Int.cast_ofNat_Int, ↓reduceIte]
    refine ⟨by decide, ?_⟩
    have hi : (IntKind.i64.wrap g).tmod 1 = 0 := by
      rw [wrapS hg, tmodS hg.1]
      omega
    generalize (IntKind.i64.wrap g).tmod 1 = i at hi ⊢
    subst hi
    exact restE_ok tab_ok mixed KN_ok (pc0_0 s g)
  · refine spineE_ok tab_ok mixed KN_ok 6 _ _ _ (pa1 s g) ?_
    rw [eq8]
    unfold st1
    refine W_sound tab_ok mixed 9 _ _ _ ?_
    simp only [go_sem, Nat.reduceBEq, Nat.reduceAdd, Nat.reduceSub, Nat.reduceMul, Nat.reduceLT, Nat.reduceLeDiff, Int.reduceLE, Int.reduceLT, Int.reduceToNat, Int.cast_ofNat_Int, ↓reduceIte]
    refine ⟨by decide, ?_⟩
    have hi : (IntKind.i64.wrap g).tmod 3 = 0 ∨ (IntKind.i64.wrap g).tmod 3 = 1 ∨ (IntKind.i64.wrap g).tmod 3 = 2 := by
      rw [wrapS hg, tmodS hg.1]
      omega
    generalize (IntKind.i64.wrap g).tmod 3 = i at hi ⊢
    rcases hi with rfl | rfl | rfl
    · exact restE_ok tab_ok mixed KN_ok (pc1_0 s g)
    · exact restE_ok tab_ok mixed KN_ok (pc1_1 s g)
    · exact restE_ok tab_ok mixed KN_ok (pc1_2 s g)
  · refine spineE_ok tab_ok mixed KN_ok 6 _ _ _ (pa2 s g) ?_
    rw [eq8]
    unfold st2
    refine W_sound tab_ok mixed 9 _ _ _ ?_
    simp only [go_sem, Nat.reduceBEq, Nat.reduceAdd, Nat.reduceSub, Nat.reduceMul, Nat.reduceLT, Nat.reduceLeDiff, Int.reduceLE, Int.reduceLT, Int.reduceToNat, Int.cast_ofNat_Int, ↓reduceIte]
    refine ⟨by decide, ?_⟩
    have hi : (IntKind.i64.wrap g).tmod 6 = 0 ∨ (IntKind.i64.wrap g).tmod 6 = 1 ∨ (IntKind.i64.wrap g).tmod 6 = 2 ∨ (IntKind.i64.wrap g).tmod 6 = 3 ∨ (IntKind.i64.wrap g).tmod 6 = 4 ∨ (IntKind.i64.wrap g).tmod 6 = 5 := by
      rw [wrapS hg, tmodS hg.1]
      omega
    generalize (IntKind.i64.wrap g).tmod 6 = i at hi ⊢
    rcases hi with rfl | rfl | rfl | rfl | rfl | rfl
    · exact restE_ok tab_ok mixed KN_ok (pc2_0 s g)
    · exact restE_ok tab_ok mixed KN_ok (pc2_1 s g)
    · exact restE_ok tab_ok mixed KN_ok (pc2_2 s g)
    · exact restE_ok tab_ok mixed KN_ok (pc2_3 s g)
    · exact restE_ok tab_ok mixed KN_ok (pc2_4 s g)
    · exact restE_ok tab_ok mixed KN_ok (pc2_5 s g)

end Go.Proofs.YtnponojgpkbagaaDoor
