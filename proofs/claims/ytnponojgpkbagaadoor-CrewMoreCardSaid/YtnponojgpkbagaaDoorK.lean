/-
  Runs on constants, each a contract: worked out by the executor in the kernel.
-/
import Derived.Test.YtnponojgpkbagaaDoorB
namespace Go.Proofs.YtnponojgpkbagaaDoor
open Go.V
set_option maxRecDepth 100000
def domL : List (List Nat) := [[], [], [], [0, 1, 2, 3, 6, 7, 8, 9, 10, 11, 12, 13, 14, 15, 27], [0, 1, 2, 3, 4, 5, 6, 7, 8, 9, 10, 11, 13], [0, 1, 2, 3, 6, 7, 8, 9, 10, 11, 12, 13, 14, 15, 16, 17, 18, 19, 31], [0, 1, 2, 4, 5, 6, 7, 8, 9, 16], [0, 1, 2, 3, 4, 5, 6, 7, 8, 9, 10, 11, 12, 13, 14, 15, 16, 17, 18, 19, 20, 21, 22, 35, 36, 37, 63, 85, 100, 150, 151], [0, 1, 2, 4, 5, 6, 7, 8, 9, 10, 11, 12, 13, 14, 15, 16, 17, 18, 19, 20, 21, 23, 28, 29, 30, 31, 58, 72, 86, 88, 89, 90, 93, 94, 95, 110, 129, 135, 140, 146, 147, 148, 149, 150, 170, 183], [0, 1, 2, 3, 4, 5, 6, 7, 8, 9, 10, 11, 12, 13, 15, 16, 17, 18, 19, 21, 23, 27, 28, 29, 30, 36, 70, 71, 72, 76, 77, 78, 79, 116, 129, 144, 145, 146, 147, 169, 170, 171, 178], [0, 1, 2, 3, 6, 7, 8, 9, 10, 11, 12, 13, 14, 15, 16, 17, 18, 20, 78, 83, 84, 85, 86], [0, 1, 2, 3, 6, 7, 8, 9, 10, 11, 12, 13, 14, 15, 16, 17, 18, 23, 90, 94, 108], [0, 1, 2, 3, 4, 5, 6, 7, 8, 9, 10, 11, 12, 13, 14, 15, 16, 17, 18, 106, 210], [0, 1, 2, 3, 4, 6, 7, 8, 9, 10, 11, 12, 13, 14, 15, 17, 18, 19, 20, 21, 22, 23, 24, 25, 26, 27, 28, 29, 33, 34, 35, 43, 44, 45, 72, 73, 74, 87, 88, 89, 90, 168], [0, 1, 4, 5, 6, 7, 8, 9, 10, 11, 12, 13, 14, 15, 16, 21, 22, 23, 29, 69], [0, 1, 2, 3, 7, 12, 21], [0, 1, 2, 3, 4, 5, 6, 7, 8, 9, 10, 11, 12, 13, 14, 15, 75], [0, 1, 2, 4, 5, 6, 11], [0, 1, 2, 4, 5, 6, 11], [0, 1, 2, 4, 5, 6, 7, 8, 9, 17, 27], [0, 1, 2, 4, 5, 6, 7, 8, 9, 10, 11, 12, 20, 25, 35, 40, 60], [0, 1, 4, 5, 10, 14, 25], [0, 1, 2, 4, 5, 6, 7, 16, 22, 23, 24, 25, 30, 31, 32, 33, 34, 38, 55, 61], [0, 1, 2, 3, 4, 5, 6, 10, 14, 19, 29, 33, 57, 68, 71, 82], [0, 1, 2, 4, 5, 6, 13, 17], [0, 1, 2, 4, 5, 6, 21], [0, 1, 2, 3, 4, 5, 6, 10, 21], [0, 1, 2, 3, 4, 5, 9, 17], [0, 1, 2, 3, 4, 5, 9], [0, 1, 2, 3, 4, 8], [0, 1, 2, 4, 5, 6, 11], [0, 1, 2, 4, 5, 6, 11], [0, 1, 2, 3, 4, 5, 10], [0, 1, 2, 3, 4, 5, 6, 7, 11, 17, 28, 36], [0, 1, 2, 3, 6, 7, 9, 10, 12, 15, 16, 17, 18, 25, 28, 39, 45, 46, 47, 48, 63], [0, 1, 2, 3, 6, 7, 8, 9, 10, 11, 16, 33, 42, 44, 49, 56, 69, 85], [0, 1, 2, 3, 4, 5, 6, 10, 22], [0, 1, 2, 3, 4, 5, 6, 10, 18, 26], [0, 1, 2, 4, 5, 9, 13], [0, 1, 2, 4, 5, 16], [0, 1, 2, 3, 4, 8, 9, 11, 12, 13, 14, 15, 30, 31, 32, 33, 37, 38, 39, 46, 59], [0, 1, 2, 3, 5, 6, 7], [0, 1, 2], [0, 1, 2, 5], [0, 2, 4], [0, 2, 3, 5], [0, 1, 2, 4, 5, 7, 9, 10, 11, 12, 14, 16, 17, 18, 19, 26, 27, 28, 29, 35, 44, 45, 46, 49, 50, 51, 52, 70], [0, 1, 4, 5, 6, 7, 8, 9, 10, 11, 12, 19, 28, 35], [0, 1, 2, 3, 4, 11, 12, 13], [0, 2, 3, 5, 6, 7, 8, 9, 11, 12, 13, 14, 29, 30, 31, 32, 33, 39], [0, 2, 4], [0, 1, 3, 4], [0, 2, 4], [0], [0, 2], [0], [0, 1, 4], [0, 2, 3, 4, 9], [0], [0, 1, 2, 6, 7, 16], [0, 2, 3, 9], [0, 1, 4, 5, 6, 7, 8, 10, 26, 37], [0, 1, 2, 6, 7, 16], [0, 1, 2, 4, 5, 6, 8, 12, 14, 15, 16, 17, 20, 30], [0, 1, 2, 4, 5, 7, 8, 9, 10, 11], [0, 1, 2, 4, 5, 6, 16, 28, 42], [0, 1, 2, 4, 5, 6, 10], [0, 1, 2, 4, 5, 6, 7, 8, 9, 12, 16, 23, 24, 25, 26, 41], [0, 1, 2, 6, 7, 8, 9, 10, 11, 12, 13, 14, 15, 17, 18, 19, 26, 63], [0, 1, 3, 4, 6, 7, 8, 9, 10], [0, 1, 4, 5, 6, 8, 10, 11, 12, 13, 20], [0, 1, 2, 3, 4], [0, 1, 2, 4, 5, 6, 7, 8, 20, 28, 43], [0, 1, 2, 6, 7, 8, 9, 13, 18, 29], [0, 1, 4], [0, 1, 2, 6], [0, 1, 2, 3, 4, 5, 6], [0, 2, 3, 5], [0, 1, 2, 4], [0, 1, 2, 3, 4, 8, 9, 10, 11, 12, 17, 32, 47], [0, 1, 2, 3, 4, 9], [0, 1, 3], [0, 1, 2, 4, 5], [0, 1, 2, 4, 5, 6, 12, 20], [0, 1, 4], [0, 1, 4, 5, 9, 17], [0, 1, 2, 4], [0, 2, 3, 4, 5, 6, 7, 8, 12, 22, 27], [0, 1, 2, 4], [0, 1, 2, 3, 4, 5, 8, 9, 10, 16, 18, 29, 30, 31, 32], [0, 2], [0, 1, 4, 5, 6, 11, 12, 13, 16, 19], [0, 1, 2], [0, 1, 3, 4, 5, 7, 8, 9, 16], [0], [0, 1, 4, 5, 6, 7, 8, 9], [0, 1, 4, 5, 6, 7, 8, 9, 10, 13, 21, 36, 58, 86, 95], [0, 1, 2, 3, 4], [0, 1, 2, 3, 4, 5, 6, 7, 8, 27, 28, 29, 34], [0, 1, 2, 3, 4, 5, 7, 8, 9, 10, 11, 17, 28, 29, 30, 31, 53], [0, 1, 3], [0, 1, 4, 5, 7, 8, 9, 16], [0, 2, 4], [0, 2, 4], [0, 2], [0, 1, 4, 5, 6], [0, 1, 4, 5, 6, 7, 8, 9, 10, 11, 12, 13], [0], [0], [0], [0], [0], [0], [0], [0], [0], [0], [0], [0], [0], [0], [0], [0], [], [], [], [], []]
def nthL : List (List Nat) → Nat → List Nat
  | [], _ => []
  | x :: _, 0 => x
  | _ :: l, n + 1 => nthL l n
def noFz (n : Nat) : Bool := bif Nat.beq n 0 then false else false
def kn0 : Known := ⟨[], []⟩
theorem kn0_ok : KnOk Tryd.prog kn0 := KnOk.nil
def ka0 : List PV := []
def kr0 : PV := (.agg [(.int .i64 3), (.lst true 3 [(.lst false 1 [(.int .i64 0), (.int .i64 1)]), (.lst false 2 [(.int .i64 0), (.int .i64 1), (.int .i64 1), (.int .i64 2)]), (.lst false 1 [(.int .i64 0), (.int .i64 2)])])])
theorem k0 : FnP Tryd.prog 53 ka0 kr0 := runE_ok (doms := nthL domL) (fzr := noFz) (n := 6000) tab_ok mixed kn0_ok (by kernel_rfl)
def kn1 : Known := ⟨(53, ka0, kr0) :: kn0.p, kn0.i⟩
theorem kn1_ok : KnOk Tryd.prog kn1 := KnOk.cons k0 kn0_ok
def ka1 : List PV := [(.agg [(.int .i64 3), (.lst true 3 [(.lst false 1 [(.int .i64 0), (.int .i64 1)]), (.lst false 2 [(.int .i64 0), (.int .i64 1), (.int .i64 1), (.int .i64 2)]), (.lst false 1 [(.int .i64 0), (.int .i64 2)])])])]
def kr1 : PV := (.int .i64 0)
theorem k1 : FnP Tryd.prog 22 ka1 kr1 := runE_ok (doms := nthL domL) (fzr := noFz) (n := 6000) tab_ok mixed kn1_ok (by kernel_rfl)
def kn2 : Known := ⟨(22, ka1, kr1) :: kn1.p, kn1.i⟩
theorem kn2_ok : KnOk Tryd.prog kn2 := KnOk.cons k1 kn1_ok
def ka2 : List PV := [(.agg [(.int .i64 3), (.lst true 3 [(.lst false 1 [(.int .i64 0), (.int .i64 1)]), (.lst false 2 [(.int .i64 0), (.int .i64 1), (.int .i64 1), (.int .i64 2)]), (.lst false 1 [(.int .i64 0), (.int .i64 2)])])]), .nl]
def kr2 : PV := (.int .i64 0)
theorem k2 : FnP Tryd.prog 64 ka2 kr2 := runE_ok (doms := nthL domL) (fzr := noFz) (n := 6000) tab_ok mixed kn2_ok (by kernel_rfl)
def kn3 : Known := ⟨(64, ka2, kr2) :: kn2.p, kn2.i⟩
theorem kn3_ok : KnOk Tryd.prog kn3 := KnOk.cons k2 kn2_ok
def ka3 : List PV := [(.agg [(.int .i64 3), (.lst true 3 [(.lst false 1 [(.int .i64 0), (.int .i64 1)]), (.lst false 2 [(.int .i64 0), (.int .i64 1), (.int .i64 1), (.int .i64 2)]), (.lst false 1 [(.int .i64 0), (.int .i64 2)])])]), .nl]
def kr3 : PV := (.tup [(.int .i64 0), (.int .i64 0)])
theorem k3 : FnP Tryd.prog 17 ka3 kr3 := runE_ok (doms := nthL domL) (fzr := noFz) (n := 6000) tab_ok mixed kn3_ok (by kernel_rfl)
def kn4 : Known := ⟨(17, ka3, kr3) :: kn3.p, kn3.i⟩
theorem kn4_ok : KnOk Tryd.prog kn4 := KnOk.cons k3 kn3_ok
def ka4 : List PV := []
def kr4 : PV := (.agg [(.int .i64 3), (.lst true 3 [(.lst false 2 [(.int .i64 0), (.int .i64 1), (.int .i64 1), (.int .i64 2)]), (.lst false 2 [(.int .i64 0), (.int .i64 1), (.int .i64 0), (.int .i64 2)]), (.lst false 2 [(.int .i64 1), (.int .i64 2), (.int .i64 0), (.int .i64 2)])])])
theorem k4 : FnP Tryd.prog 55 ka4 kr4 := runE_ok (doms := nthL domL) (fzr := noFz) (n := 6000) tab_ok mixed kn4_ok (by kernel_rfl)
def kn5 : Known := ⟨(55, ka4, kr4) :: kn4.p, kn4.i⟩
theorem kn5_ok : KnOk Tryd.prog kn5 := KnOk.cons k4 kn4_ok
def ka5 : List PV := [(.agg [(.int .i64 3), (.lst true 3 [(.lst false 2 [(.int .i64 0), (.int .i64 1), (.int .i64 1), (.int .i64 2)]), (.lst false 2 [(.int .i64 0), (.int .i64 1), (.int .i64 0), (.int .i64 2)]), (.lst false 2 [(.int .i64 1), (.int .i64 2), (.int .i64 0), (.int .i64 2)])])])]
def kr5 : PV := (.int .i64 0)
theorem k5 : FnP Tryd.prog 22 ka5 kr5 := runE_ok (doms := nthL domL) (fzr := noFz) (n := 6000) tab_ok mixed kn5_ok (by kernel_rfl)
def kn6 : Known := ⟨(22, ka5, kr5) :: kn5.p, kn5.i⟩
theorem kn6_ok : KnOk Tryd.prog kn6 := KnOk.cons k5 kn5_ok
def ka6 : List PV := [(.int .u64 3)]
def kr6 : PV := (.int .i64 0)
theorem k6 : FnP Tryd.prog 103 ka6 kr6 := runE_ok (doms := nthL domL) (fzr := noFz) (n := 6000) tab_ok mixed kn6_ok (by kernel_rfl)
def kn7 : Known := ⟨(103, ka6, kr6) :: kn6.p, kn6.i⟩
theorem kn7_ok : KnOk Tryd.prog kn7 := KnOk.cons k6 kn6_ok
def ka7 : List PV := [(.int .u64 2)]
def kr7 : PV := (.int .i64 1)
theorem k7 : FnP Tryd.prog 103 ka7 kr7 := runE_ok (doms := nthL domL) (fzr := noFz) (n := 6000) tab_ok mixed kn7_ok (by kernel_rfl)
def kn8 : Known := ⟨(103, ka7, kr7) :: kn7.p, kn7.i⟩
theorem kn8_ok : KnOk Tryd.prog kn8 := KnOk.cons k7 kn7_ok
def ka8 : List PV := [(.int .u64 7)]
def kr8 : PV := (.int .i64 0)
theorem k8 : FnP Tryd.prog 103 ka8 kr8 := runE_ok (doms := nthL domL) (fzr := noFz) (n := 6000) tab_ok mixed kn8_ok (by kernel_rfl)
def kn9 : Known := ⟨(103, ka8, kr8) :: kn8.p, kn8.i⟩
theorem kn9_ok : KnOk Tryd.prog kn9 := KnOk.cons k8 kn8_ok
def ka9 : List PV := [(.int .u64 6)]
def kr9 : PV := (.int .i64 1)
theorem k9 : FnP Tryd.prog 103 ka9 kr9 := runE_ok (doms := nthL domL) (fzr := noFz) (n := 6000) tab_ok mixed kn9_ok (by kernel_rfl)
def kn10 : Known := ⟨(103, ka9, kr9) :: kn9.p, kn9.i⟩
theorem kn10_ok : KnOk Tryd.prog kn10 := KnOk.cons k9 kn9_ok
def ka10 : List PV := [(.int .u64 4)]
def kr10 : PV := (.int .i64 2)
theorem k10 : FnP Tryd.prog 103 ka10 kr10 := runE_ok (doms := nthL domL) (fzr := noFz) (n := 6000) tab_ok mixed kn10_ok (by kernel_rfl)
def kn11 : Known := ⟨(103, ka10, kr10) :: kn10.p, kn10.i⟩
theorem kn11_ok : KnOk Tryd.prog kn11 := KnOk.cons k10 kn10_ok
def ka11 : List PV := [(.agg [(.int .i64 3), (.lst true 3 [(.lst false 2 [(.int .i64 0), (.int .i64 1), (.int .i64 1), (.int .i64 2)]), (.lst false 2 [(.int .i64 0), (.int .i64 1), (.int .i64 0), (.int .i64 2)]), (.lst false 2 [(.int .i64 1), (.int .i64 2), (.int .i64 0), (.int .i64 2)])])])]
def kr11 : PV := (.tup [(.int .i64 0), (.int .i64 0)])
theorem k11 : FnP Tryd.prog 28 ka11 kr11 := runE_ok (doms := nthL domL) (fzr := noFz) (n := 6000) tab_ok mixed kn11_ok (by kernel_rfl)
def kn12 : Known := ⟨(28, ka11, kr11) :: kn11.p, kn11.i⟩
theorem kn12_ok : KnOk Tryd.prog kn12 := KnOk.cons k11 kn11_ok
def ka12 : List PV := [(.agg [(.int .i64 3), .nl])]
def kr12 : PV := (.int .i64 0)
theorem k12 : FnP Tryd.prog 22 ka12 kr12 := runE_ok (doms := nthL domL) (fzr := noFz) (n := 6000) tab_ok mixed kn12_ok (by kernel_rfl)
def kn13 : Known := ⟨(22, ka12, kr12) :: kn12.p, kn12.i⟩
theorem kn13_ok : KnOk Tryd.prog kn13 := KnOk.cons k12 kn12_ok
def ka13 : List PV := [(.agg [(.int .i64 3), .nl])]
def kr13 : PV := (.tup [(.int .i64 1), (.int .i64 0)])
theorem k13 : FnP Tryd.prog 28 ka13 kr13 := runE_ok (doms := nthL domL) (fzr := noFz) (n := 6000) tab_ok mixed kn13_ok (by kernel_rfl)
def kn14 : Known := ⟨(28, ka13, kr13) :: kn13.p, kn13.i⟩
theorem kn14_ok : KnOk Tryd.prog kn14 := KnOk.cons k13 kn13_ok
def ka14 : List PV := []
def kr14 : PV := (.agg [(.int .i64 4), (.lst true 3 [(.lst false 6 [(.int .i64 0), (.int .i64 1), (.int .i64 0), (.int .i64 2), (.int .i64 0), (.int .i64 3), (.int .i64 1), (.int .i64 2), (.int .i64 1), (.int .i64 3), (.int .i64 2), (.int .i64 3)]), (.lst false 6 [(.int .i64 0), (.int .i64 1), (.int .i64 0), (.int .i64 2), (.int .i64 0), (.int .i64 3), (.int .i64 1), (.int .i64 2), (.int .i64 1), (.int .i64 3), (.int .i64 2), (.int .i64 3)]), (.lst false 6 [(.int .i64 0), (.int .i64 1), (.int .i64 0), (.int .i64 2), (.int .i64 0), (.int .i64 3), (.int .i64 1), (.int .i64 2), (.int .i64 1), (.int .i64 3), (.int .i64 2), (.int .i64 3)])])])
theorem k14 : FnP Tryd.prog 58 ka14 kr14 := runE_ok (doms := nthL domL) (fzr := noFz) (n := 6000) tab_ok mixed kn14_ok (by kernel_rfl)
def kn15 : Known := ⟨(58, ka14, kr14) :: kn14.p, kn14.i⟩
theorem kn15_ok : KnOk Tryd.prog kn15 := KnOk.cons k14 kn14_ok
def ka15 : List PV := [(.agg [(.int .i64 4), (.lst true 3 [(.lst false 6 [(.int .i64 0), (.int .i64 1), (.int .i64 0), (.int .i64 2), (.int .i64 0), (.int .i64 3), (.int .i64 1), (.int .i64 2), (.int .i64 1), (.int .i64 3), (.int .i64 2), (.int .i64 3)]), (.lst false 6 [(.int .i64 0), (.int .i64 1), (.int .i64 0), (.int .i64 2), (.int .i64 0), (.int .i64 3), (.int .i64 1), (.int .i64 2), (.int .i64 1), (.int .i64 3), (.int .i64 2), (.int .i64 3)]), (.lst false 6 [(.int .i64 0), (.int .i64 1), (.int .i64 0), (.int .i64 2), (.int .i64 0), (.int .i64 3), (.int .i64 1), (.int .i64 2), (.int .i64 1), (.int .i64 3), (.int .i64 2), (.int .i64 3)])])])]
def kr15 : PV := (.int .i64 0)
theorem k15 : FnP Tryd.prog 22 ka15 kr15 := runE_ok (doms := nthL domL) (fzr := noFz) (n := 6000) tab_ok mixed kn15_ok (by kernel_rfl)
def kn16 : Known := ⟨(22, ka15, kr15) :: kn15.p, kn15.i⟩
theorem kn16_ok : KnOk Tryd.prog kn16 := KnOk.cons k15 kn15_ok
def ka16 : List PV := [(.int .u64 1)]
def kr16 : PV := (.int .i64 0)
theorem k16 : FnP Tryd.prog 103 ka16 kr16 := runE_ok (doms := nthL domL) (fzr := noFz) (n := 6000) tab_ok mixed kn16_ok (by kernel_rfl)
def kn17 : Known := ⟨(103, ka16, kr16) :: kn16.p, kn16.i⟩
theorem kn17_ok : KnOk Tryd.prog kn17 := KnOk.cons k16 kn16_ok
def ka17 : List PV := [(.int .u64 5)]
def kr17 : PV := (.int .i64 0)
theorem k17 : FnP Tryd.prog 103 ka17 kr17 := runE_ok (doms := nthL domL) (fzr := noFz) (n := 6000) tab_ok mixed kn17_ok (by kernel_rfl)
def kn18 : Known := ⟨(103, ka17, kr17) :: kn17.p, kn17.i⟩
theorem kn18_ok : KnOk Tryd.prog kn18 := KnOk.cons k17 kn17_ok
def ka18 : List PV := [(.agg [(.int .i64 3), (.lst true 3 [(.lst false 2 [(.int .i64 0), (.int .i64 1), (.int .i64 1), (.int .i64 2)]), (.lst false 2 [(.int .i64 0), (.int .i64 1), (.int .i64 0), (.int .i64 2)]), (.lst false 2 [(.int .i64 1), (.int .i64 2), (.int .i64 0), (.int .i64 2)])])])]
def kr18 : PV := (.tup [(.lst false 2 [(.int .i64 0), (.int .i64 1)]), (.int .i64 0)])
theorem k18 : FnP Tryd.prog 32 ka18 kr18 := runE_ok (doms := nthL domL) (fzr := noFz) (n := 6000) tab_ok mixed kn18_ok (by kernel_rfl)
def kn19 : Known := ⟨(32, ka18, kr18) :: kn18.p, kn18.i⟩
theorem kn19_ok : KnOk Tryd.prog kn19 := KnOk.cons k18 kn18_ok
def ka19 : List PV := [(.agg [(.int .i64 3), (.lst true 3 [(.lst false 1 [(.int .i64 0), (.int .i64 1)]), (.lst false 2 [(.int .i64 0), (.int .i64 1), (.int .i64 1), (.int .i64 2)]), (.lst false 1 [(.int .i64 0), (.int .i64 2)])])])]
def kr19 : PV := (.tup [(.lst false 3 [(.int .i64 0), (.int .i64 1), (.int .i64 2)]), (.int .i64 0)])
theorem k19 : FnP Tryd.prog 36 ka19 kr19 := runE_ok (doms := nthL domL) (fzr := noFz) (n := 6000) tab_ok mixed kn19_ok (by kernel_rfl)
def kn20 : Known := ⟨(36, ka19, kr19) :: kn19.p, kn19.i⟩
theorem kn20_ok : KnOk Tryd.prog kn20 := KnOk.cons k19 kn19_ok
def ka20 : List PV := [(.agg [(.int .i64 6), .nl])]
def kr20 : PV := (.int .i64 1)
theorem k20 : FnP Tryd.prog 22 ka20 kr20 := runE_ok (doms := nthL domL) (fzr := noFz) (n := 6000) tab_ok mixed kn20_ok (by kernel_rfl)
def kn21 : Known := ⟨(22, ka20, kr20) :: kn20.p, kn20.i⟩
theorem kn21_ok : KnOk Tryd.prog kn21 := KnOk.cons k20 kn20_ok
def ka21 : List PV := [(.agg [(.int .i64 4), (.lst true 3 [(.lst false 6 [(.int .i64 0), (.int .i64 1), (.int .i64 0), (.int .i64 2), (.int .i64 0), (.int .i64 3), (.int .i64 1), (.int .i64 2), (.int .i64 1), (.int .i64 3), (.int .i64 2), (.int .i64 3)]), (.lst false 6 [(.int .i64 0), (.int .i64 1), (.int .i64 0), (.int .i64 2), (.int .i64 0), (.int .i64 3), (.int .i64 1), (.int .i64 2), (.int .i64 1), (.int .i64 3), (.int .i64 2), (.int .i64 3)]), (.lst false 6 [(.int .i64 0), (.int .i64 1), (.int .i64 0), (.int .i64 2), (.int .i64 0), (.int .i64 3), (.int .i64 1), (.int .i64 2), (.int .i64 1), (.int .i64 3), (.int .i64 2), (.int .i64 3)])])])]
def kr21 : PV := (.tup [(.lst false 3 [(.int .i64 0), (.int .i64 1), (.int .i64 2)]), (.int .i64 0)])
theorem k21 : FnP Tryd.prog 26 ka21 kr21 := runE_ok (doms := nthL domL) (fzr := noFz) (n := 6000) tab_ok mixed kn21_ok (by kernel_rfl)
def kn22 : Known := ⟨(26, ka21, kr21) :: kn21.p, kn21.i⟩
theorem kn22_ok : KnOk Tryd.prog kn22 := KnOk.cons k21 kn21_ok
def ka22 : List PV := [(.agg [(.int .i64 4), (.lst true 3 [(.lst false 6 [(.int .i64 0), (.int .i64 1), (.int .i64 0), (.int .i64 2), (.int .i64 0), (.int .i64 3), (.int .i64 1), (.int .i64 2), (.int .i64 1), (.int .i64 3), (.int .i64 2), (.int .i64 3)]), (.lst false 6 [(.int .i64 0), (.int .i64 1), (.int .i64 0), (.int .i64 2), (.int .i64 0), (.int .i64 3), (.int .i64 1), (.int .i64 2), (.int .i64 1), (.int .i64 3), (.int .i64 2), (.int .i64 3)]), (.lst false 6 [(.int .i64 0), (.int .i64 1), (.int .i64 0), (.int .i64 2), (.int .i64 0), (.int .i64 3), (.int .i64 1), (.int .i64 2), (.int .i64 1), (.int .i64 3), (.int .i64 2), (.int .i64 3)])])])]
def kr22 : PV := (.tup [(.int .i64 96), (.int .i64 0)])
theorem k22 : FnP Tryd.prog 28 ka22 kr22 := runE_ok (doms := nthL domL) (fzr := noFz) (n := 6000) tab_ok mixed kn22_ok (by kernel_rfl)
def kn23 : Known := ⟨(28, ka22, kr22) :: kn22.p, kn22.i⟩
theorem kn23_ok : KnOk Tryd.prog kn23 := KnOk.cons k22 kn22_ok
def ka23 : List PV := [(.agg [(.int .i64 3), (.lst true 3 [(.lst false 1 [(.int .i64 0), (.int .i64 1)]), (.lst false 2 [(.int .i64 0), (.int .i64 1), (.int .i64 1), (.int .i64 2)]), (.lst false 1 [(.int .i64 0), (.int .i64 2)])])])]
def kr23 : PV := (.tup [(.lst false 2 [(.int .i64 0), (.int .i64 1)]), (.int .i64 0)])
theorem k23 : FnP Tryd.prog 32 ka23 kr23 := runE_ok (doms := nthL domL) (fzr := noFz) (n := 6000) tab_ok mixed kn23_ok (by kernel_rfl)
def kn24 : Known := ⟨(32, ka23, kr23) :: kn23.p, kn23.i⟩
theorem kn24_ok : KnOk Tryd.prog kn24 := KnOk.cons k23 kn23_ok
def ka24 : List PV := [(.agg [(.int .i64 3), (.lst true 3 [(.lst false 2 [(.int .i64 0), (.int .i64 1), (.int .i64 1), (.int .i64 2)]), (.lst false 2 [(.int .i64 0), (.int .i64 1), (.int .i64 0), (.int .i64 2)]), (.lst false 2 [(.int .i64 1), (.int .i64 2), (.int .i64 0), (.int .i64 2)])])]), .nl]
def kr24 : PV := (.int .i64 0)
theorem k24 : FnP Tryd.prog 64 ka24 kr24 := runE_ok (doms := nthL domL) (fzr := noFz) (n := 6000) tab_ok mixed kn24_ok (by kernel_rfl)
def kn25 : Known := ⟨(64, ka24, kr24) :: kn24.p, kn24.i⟩
theorem kn25_ok : KnOk Tryd.prog kn25 := KnOk.cons k24 kn24_ok
def ka25 : List PV := [(.agg [(.int .i64 3), (.lst true 3 [(.lst false 2 [(.int .i64 0), (.int .i64 1), (.int .i64 1), (.int .i64 2)]), (.lst false 2 [(.int .i64 0), (.int .i64 1), (.int .i64 0), (.int .i64 2)]), (.lst false 2 [(.int .i64 1), (.int .i64 2), (.int .i64 0), (.int .i64 2)])])])]
def kr25 : PV := (.tup [(.lst false 3 [(.int .i64 0), (.int .i64 1), (.int .i64 2)]), (.int .i64 0)])
theorem k25 : FnP Tryd.prog 36 ka25 kr25 := runE_ok (doms := nthL domL) (fzr := noFz) (n := 6000) tab_ok mixed kn25_ok (by kernel_rfl)
def kn26 : Known := ⟨(36, ka25, kr25) :: kn25.p, kn25.i⟩
theorem kn26_ok : KnOk Tryd.prog kn26 := KnOk.cons k25 kn25_ok
def ka26 : List PV := [(.agg [(.int .i64 3), (.lst true 3 [(.lst false 1 [(.int .i64 0), (.int .i64 1)]), (.lst false 2 [(.int .i64 0), (.int .i64 1), (.int .i64 1), (.int .i64 2)]), (.lst false 1 [(.int .i64 0), (.int .i64 2)])])])]
def kr26 : PV := (.tup [.nl, (.int .i64 12)])
theorem k26 : FnP Tryd.prog 26 ka26 kr26 := runE_ok (doms := nthL domL) (fzr := noFz) (n := 6000) tab_ok mixed kn26_ok (by kernel_rfl)
def kn27 : Known := ⟨(26, ka26, kr26) :: kn26.p, kn26.i⟩
theorem kn27_ok : KnOk Tryd.prog kn27 := KnOk.cons k26 kn26_ok
def ka27 : List PV := [(.agg [(.int .i64 4), (.lst true 3 [(.lst false 6 [(.int .i64 0), (.int .i64 1), (.int .i64 0), (.int .i64 2), (.int .i64 0), (.int .i64 3), (.int .i64 1), (.int .i64 2), (.int .i64 1), (.int .i64 3), (.int .i64 2), (.int .i64 3)]), (.lst false 6 [(.int .i64 0), (.int .i64 1), (.int .i64 0), (.int .i64 2), (.int .i64 0), (.int .i64 3), (.int .i64 1), (.int .i64 2), (.int .i64 1), (.int .i64 3), (.int .i64 2), (.int .i64 3)]), (.lst false 6 [(.int .i64 0), (.int .i64 1), (.int .i64 0), (.int .i64 2), (.int .i64 0), (.int .i64 3), (.int .i64 1), (.int .i64 2), (.int .i64 1), (.int .i64 3), (.int .i64 2), (.int .i64 3)])])]), .nl]
def kr27 : PV := (.int .i64 0)
theorem k27 : FnP Tryd.prog 64 ka27 kr27 := runE_ok (doms := nthL domL) (fzr := noFz) (n := 6000) tab_ok mixed kn27_ok (by kernel_rfl)
def kn28 : Known := ⟨(64, ka27, kr27) :: kn27.p, kn27.i⟩
theorem kn28_ok : KnOk Tryd.prog kn28 := KnOk.cons k27 kn27_ok
def ka28 : List PV := [(.agg [(.int .i64 4), (.lst true 3 [(.lst false 6 [(.int .i64 0), (.int .i64 1), (.int .i64 0), (.int .i64 2), (.int .i64 0), (.int .i64 3), (.int .i64 1), (.int .i64 2), (.int .i64 1), (.int .i64 3), (.int .i64 2), (.int .i64 3)]), (.lst false 6 [(.int .i64 0), (.int .i64 1), (.int .i64 0), (.int .i64 2), (.int .i64 0), (.int .i64 3), (.int .i64 1), (.int .i64 2), (.int .i64 1), (.int .i64 3), (.int .i64 2), (.int .i64 3)]), (.lst false 6 [(.int .i64 0), (.int .i64 1), (.int .i64 0), (.int .i64 2), (.int .i64 0), (.int .i64 3), (.int .i64 1), (.int .i64 2), (.int .i64 1), (.int .i64 3), (.int .i64 2), (.int .i64 3)])])])]
def kr28 : PV := (.tup [.nl, (.int .i64 13)])
theorem k28 : FnP Tryd.prog 36 ka28 kr28 := runE_ok (doms := nthL domL) (fzr := noFz) (n := 6000) tab_ok mixed kn28_ok (by kernel_rfl)
def kn29 : Known := ⟨(36, ka28, kr28) :: kn28.p, kn28.i⟩
theorem kn29_ok : KnOk Tryd.prog kn29 := KnOk.cons k28 kn28_ok
def ka29 : List PV := []
def kr29 : PV := (.bool true)
theorem k29 : FnP Tryd.prog 16 ka29 kr29 := runE_ok (doms := nthL domL) (fzr := noFz) (n := 6000) tab_ok mixed kn29_ok (by kernel_rfl)
def kn30 : Known := ⟨(16, ka29, kr29) :: kn29.p, kn29.i⟩
theorem kn30_ok : KnOk Tryd.prog kn30 := KnOk.cons k29 kn29_ok
end Go.Proofs.YtnponojgpkbagaaDoor
