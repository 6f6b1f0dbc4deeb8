/-
  Runs on constants, each a contract: worked out by the executor in the kernel.
-/
import Derived.Test.YtgnphlpoofaojaaB
namespace Go.Proofs.Ytgnphlpoofaojaa
open Go.V
set_option maxRecDepth 100000
def domL : List (List Nat) := [[], [], [], [0, 1, 3, 4, 5, 6, 7, 8, 9, 10, 11, 12, 13, 14, 17], [0, 2, 3, 4, 5, 6, 7, 8, 9, 10, 11, 12, 15, 59, 63, 74], [0, 1, 2, 3, 8, 9, 10, 11, 12, 13, 14, 15, 18], [0, 1, 2, 6, 7, 8, 9, 10, 11, 12, 13, 14, 15, 16, 17, 25, 74, 78, 89], [0, 1, 2, 3, 4, 5, 7, 8, 9, 10, 11, 13, 14, 15, 16, 17, 18, 20, 21, 23, 25, 26, 28, 29, 30, 31, 32, 33, 44, 45, 46, 47, 74, 75, 76, 77, 78, 83, 87, 103, 110, 117, 126, 127, 128, 129, 149, 178, 179, 180, 181, 182, 208, 210, 211, 212, 213, 227, 231, 232, 233, 234, 238, 240, 265, 273], [0, 1, 2, 3, 4, 8, 9, 10, 11, 12, 13, 14, 15, 16, 17, 18, 19, 20, 21, 22, 23, 24, 43, 44, 45, 46, 67, 68, 69, 70, 80, 115, 136], [0, 1, 2, 3, 4, 5, 6, 7, 8, 9, 10, 11, 12, 13, 14, 15, 16, 18, 112, 195], [0, 1, 2, 3, 4, 8, 9, 10, 11, 12, 13, 14, 15, 16, 17, 18, 19, 20, 21, 22, 23, 24, 25, 26, 27, 28, 29, 30, 36, 37, 38, 153, 154, 155, 156, 157, 196], [0, 1, 2, 3, 4, 8, 9, 10, 11, 12, 13, 14, 15, 16, 17, 18, 19, 20, 21, 22, 23, 24, 25, 81, 83, 127, 129, 135, 161, 185], [0, 1, 2, 3, 4, 5, 6, 7, 8, 9, 10, 11, 12, 13, 14, 15, 16, 17, 18, 19, 20, 21, 52, 53, 54, 55, 56, 88, 90, 91, 92, 93, 146, 149, 150, 151, 153, 154, 155, 156, 186, 187, 200, 220, 255, 280], [0, 1, 2, 3, 4, 5, 6, 7, 8, 9, 10, 11, 12, 13, 14, 15, 16, 17, 18, 27, 30, 31, 32, 42, 43, 44, 47, 48, 49, 51, 60, 72, 90, 93, 94, 95, 96, 124, 126, 136, 148], [0, 1, 2, 3, 4, 5, 6, 7, 8, 9, 10, 11, 12, 13, 14, 15, 16, 17, 19, 21, 22, 23, 24, 26, 28, 30, 31, 32, 33, 34, 87, 88, 89, 90, 91, 96, 99, 103, 104, 105, 106, 111, 123, 124, 125, 126, 127, 163, 164, 165, 166, 167, 170, 171, 172, 173, 195, 201, 202, 203, 204, 217, 222, 261], [0, 1, 2, 3, 4, 5, 6, 7, 8, 9, 10, 11, 12, 13, 14, 69], [0, 2, 3, 4, 8], [0, 1, 3, 4, 5, 7, 8, 17], [0, 1, 3, 4, 5, 6, 11], [0, 1, 3, 4, 5, 6, 7, 8, 9, 10, 11, 19, 20, 21, 22, 28], [0, 1, 3, 4, 5, 6, 7, 8, 13, 18, 30], [0, 1, 4, 5, 10, 14, 25], [0, 2, 4, 5, 9, 13, 14, 15, 16, 28], [0, 2, 3, 6, 9, 13, 31], [0, 2, 3, 4, 8], [0, 2, 3, 4, 8], [0, 2, 3, 4, 8], [0, 2, 3, 4, 5, 6, 7, 8, 9, 10, 14, 23, 29, 50, 54], [0, 1, 4, 5, 6, 7, 8, 11, 15, 25, 26, 27, 33, 58], [0, 1, 4, 5, 6, 7, 8, 9, 21, 23, 28, 35, 52], [0, 1, 2, 3, 8, 9, 12, 16, 31, 40], [0, 1, 2, 3, 8, 9, 10, 35, 47, 57], [0, 1, 4, 5, 6, 7, 8, 9, 10, 11, 14, 19, 26, 27, 28, 29, 37, 45, 83], [0, 1, 4, 5, 6, 7, 8, 9, 10, 11, 12, 13, 22, 24, 38, 59, 66, 95], [0, 1, 4, 5, 7, 8, 9, 10, 11, 12, 13, 14, 15, 16, 17, 18, 21, 22, 23, 24, 30, 79, 83, 86, 98, 105], [0, 1, 4, 5, 6, 7, 8, 9, 10, 11, 12, 13, 14, 18, 22, 31, 37, 83], [0, 1, 2, 3, 6, 7, 8, 13, 14, 15], [0, 1, 2, 3, 21, 25, 39], [0, 1, 4, 5, 6, 7, 10, 21], [0, 1, 3, 4, 5, 7, 13, 14, 15, 16], [0, 1, 4], [0, 1, 2, 3, 4], [0], [0], [0, 2], [0, 1, 4, 5, 10, 14, 25], [0, 2, 3, 4, 9], [0, 2, 3, 9], [0, 2, 4], [0, 1, 2, 3, 4], [0, 1, 4], [0, 1, 2, 3, 4, 5, 6, 7, 8, 10, 11, 12, 25, 26, 27, 28, 45, 64], [0, 1, 4], [0, 1, 2, 3, 4, 5, 6], [0, 1, 3, 4], [0, 2, 3, 5, 6, 8, 9, 10, 11, 12, 20, 25, 26, 27, 28], [0, 1, 4, 5, 10, 14, 25], [0, 1, 3, 4, 5, 6, 7, 8, 9, 12, 16, 35, 36, 37], [0, 1, 4, 5, 7], [0, 1, 3, 4, 5, 21], [0, 1, 4, 5, 6, 8, 19], [0, 1, 3, 4, 5, 6, 15], [0, 1, 2, 3, 4], [0, 1, 4], [0, 1, 2, 6], [0, 1, 2, 3, 4, 5, 6, 8, 9, 15, 16, 17, 27, 28, 29, 30, 53, 79], [0, 2, 3, 4, 5, 6, 10, 16, 36], [0, 2, 3, 4, 5, 6, 7, 12, 13, 14], [0, 2, 3, 4, 5, 6, 7, 8, 12, 17, 30, 65, 79], [0, 1, 2, 3, 4, 5, 6, 11, 14, 35, 48, 59], [0, 1, 2, 3, 8, 9, 10, 28, 59], [0, 2, 3, 4, 5, 6, 11, 32, 36], [0, 1, 2, 3, 4], [0, 1, 2, 3, 4], [0, 1, 4, 5, 7, 8, 9, 16], [0, 1, 4, 5, 7, 8, 9, 16], [0, 1, 3, 4, 5, 7, 8, 9, 16], [0, 1, 4, 6, 16], [0, 1, 2, 3, 4], [0, 2, 3, 4, 7, 15], [0, 1, 4, 6], [0, 1, 2], [0, 1, 2], [0, 1], [0, 1, 2, 3, 6], [0, 1, 2, 3, 4, 5, 6, 7, 18], [0, 1, 2, 3, 4, 5, 6], [0, 1, 4, 5, 6, 7, 8, 9, 12, 23, 29, 35, 71], [0, 1, 2, 6, 7, 8, 9, 13, 30, 35, 54], [0, 1, 2, 3, 8, 9, 14, 34], [0, 1, 2, 3, 4, 10, 11, 12, 13, 14, 15, 16, 17, 18, 19, 20, 21, 22, 23, 24, 28, 33, 50, 58, 80, 85, 103, 110, 140, 151, 171, 185, 199, 213], [0, 1, 2, 3, 4, 10, 11, 20, 23], [0, 1, 2, 3, 4, 10, 13], [0], [0], [0], [0], [0], [0], [0], [0], [0], [0], [0], [0], [0], [0], [0], [0]]
def nthL : List (List Nat) → Nat → List Nat
  | [], _ => []
  | x :: _, 0 => x
  | _ :: l, n + 1 => nthL l n
def noFz (n : Nat) : Bool := bif Nat.beq n 0 then false else false
def kn0 : Known := ⟨[], []⟩
theorem kn0_ok : KnOk Try.prog kn0 := KnOk.nil
def ka0 : List PV := []
def kr0 : PV := (.lst false 4 [(.int .i64 0), (.int .i64 0), (.int .i64 (-2)), (.int .i64 1), (.int .i64 (-6)), (.int .i64 2), (.int .i64 (-3)), (.int .i64 1)])
theorem k0 : FnP Try.prog 42 ka0 kr0 := runE_ok (doms := nthL domL) (fzr := noFz) (n := 6000) tab_ok mixed kn0_ok (by kernel_rfl)
def kn1 : Known := ⟨(42, ka0, kr0) :: kn0.p, kn0.i⟩
theorem kn1_ok : KnOk Try.prog kn1 := KnOk.cons k0 kn0_ok
def ka1 : List PV := [(.lst false 4 [(.int .i64 0), (.int .i64 0), (.int .i64 (-2)), (.int .i64 1), (.int .i64 (-6)), (.int .i64 2), (.int .i64 (-3)), (.int .i64 1)])]
def kr1 : PV := (.int .i64 0)
theorem k1 : FnP Try.prog 22 ka1 kr1 := runE_ok (doms := nthL domL) (fzr := noFz) (n := 6000) tab_ok mixed kn1_ok (by kernel_rfl)
def kn2 : Known := ⟨(22, ka1, kr1) :: kn1.p, kn1.i⟩
theorem kn2_ok : KnOk Try.prog kn2 := KnOk.cons k1 kn1_ok
def ka2 : List PV := [(.lst false 4 [(.int .i64 0), (.int .i64 0), (.int .i64 (-2)), (.int .i64 1), (.int .i64 (-6)), (.int .i64 2), (.int .i64 (-3)), (.int .i64 1)]), (.agg [(.int .i64 3), (.int .i64 1)])]
def kr2 : PV := (.tup [(.agg [(.int .i64 1), (.int .i64 1)]), (.int .i64 0)])
theorem k2 : FnP Try.prog 17 ka2 kr2 := runE_ok (doms := nthL domL) (fzr := noFz) (n := 6000) tab_ok mixed kn2_ok (by kernel_rfl)
def kn3 : Known := ⟨(17, ka2, kr2) :: kn2.p, kn2.i⟩
theorem kn3_ok : KnOk Try.prog kn3 := KnOk.cons k2 kn2_ok
def ka3 : List PV := [(.lst false 4 [(.int .i64 0), (.int .i64 0), (.int .i64 (-2)), (.int .i64 1), (.int .i64 (-6)), (.int .i64 2), (.int .i64 (-3)), (.int .i64 1)]), (.agg [(.int .i64 4), (.int .i64 2)])]
def kr3 : PV := (.tup [(.agg [(.int .i64 0), (.int .i64 1)]), (.int .i64 0)])
theorem k3 : FnP Try.prog 17 ka3 kr3 := runE_ok (doms := nthL domL) (fzr := noFz) (n := 6000) tab_ok mixed kn3_ok (by kernel_rfl)
def kn4 : Known := ⟨(17, ka3, kr3) :: kn3.p, kn3.i⟩
theorem kn4_ok : KnOk Try.prog kn4 := KnOk.cons k3 kn3_ok
def ka4 : List PV := [(.lst false 4 [(.int .i64 0), (.int .i64 0), (.int .i64 (-2)), (.int .i64 1), (.int .i64 (-6)), (.int .i64 2), (.int .i64 (-3)), (.int .i64 1)]), (.agg [(.int .i64 5), (.int .i64 1)])]
def kr4 : PV := (.tup [(.lst false 1 [(.int .i64 2)]), (.int .i64 0)])
theorem k4 : FnP Try.prog 19 ka4 kr4 := runE_ok (doms := nthL domL) (fzr := noFz) (n := 6000) tab_ok mixed kn4_ok (by kernel_rfl)
def kn5 : Known := ⟨(19, ka4, kr4) :: kn4.p, kn4.i⟩
theorem kn5_ok : KnOk Try.prog kn5 := KnOk.cons k4 kn4_ok
def ka5 : List PV := [(.lst false 4 [(.int .i64 0), (.int .i64 0), (.int .i64 (-2)), (.int .i64 1), (.int .i64 (-6)), (.int .i64 2), (.int .i64 (-3)), (.int .i64 1)]), (.agg [(.int .i64 0), (.int .i64 7)])]
def kr5 : PV := (.tup [(.lst false 1 [(.int .i64 0)]), (.int .i64 0)])
theorem k5 : FnP Try.prog 19 ka5 kr5 := runE_ok (doms := nthL domL) (fzr := noFz) (n := 6000) tab_ok mixed kn5_ok (by kernel_rfl)
def kn6 : Known := ⟨(19, ka5, kr5) :: kn5.p, kn5.i⟩
theorem kn6_ok : KnOk Try.prog kn6 := KnOk.cons k5 kn5_ok
def ka6 : List PV := [(.lst false 4 [(.int .i64 0), (.int .i64 0), (.int .i64 (-2)), (.int .i64 1), (.int .i64 (-6)), (.int .i64 2), (.int .i64 (-3)), (.int .i64 1)])]
def kr6 : PV := (.tup [(.lst false 3 [(.int .i64 0), (.int .i64 1), (.int .i64 2)]), (.int .i64 0)])
theorem k6 : FnP Try.prog 24 ka6 kr6 := runE_ok (doms := nthL domL) (fzr := noFz) (n := 6000) tab_ok mixed kn6_ok (by kernel_rfl)
def kn7 : Known := ⟨(24, ka6, kr6) :: kn6.p, kn6.i⟩
theorem kn7_ok : KnOk Try.prog kn7 := KnOk.cons k6 kn6_ok
def ka7 : List PV := []
def kr7 : PV := (.lst false 3 [(.int .i64 0), (.int .i64 0), (.int .i64 (-3)), (.int .i64 1), (.int .i64 (-4)), (.int .i64 2)])
theorem k7 : FnP Try.prog 43 ka7 kr7 := runE_ok (doms := nthL domL) (fzr := noFz) (n := 6000) tab_ok mixed kn7_ok (by kernel_rfl)
def kn8 : Known := ⟨(43, ka7, kr7) :: kn7.p, kn7.i⟩
theorem kn8_ok : KnOk Try.prog kn8 := KnOk.cons k7 kn7_ok
def ka8 : List PV := [(.lst false 3 [(.int .i64 0), (.int .i64 0), (.int .i64 (-3)), (.int .i64 1), (.int .i64 (-4)), (.int .i64 2)])]
def kr8 : PV := (.int .i64 0)
theorem k8 : FnP Try.prog 22 ka8 kr8 := runE_ok (doms := nthL domL) (fzr := noFz) (n := 6000) tab_ok mixed kn8_ok (by kernel_rfl)
def kn9 : Known := ⟨(22, ka8, kr8) :: kn8.p, kn8.i⟩
theorem kn9_ok : KnOk Try.prog kn9 := KnOk.cons k8 kn8_ok
def ka9 : List PV := [(.lst false 3 [(.int .i64 0), (.int .i64 0), (.int .i64 (-3)), (.int .i64 1), (.int .i64 (-4)), (.int .i64 2)])]
def kr9 : PV := (.tup [(.lst false 1 [(.int .i64 2), (.int .i64 1)]), (.int .i64 0)])
theorem k9 : FnP Try.prog 26 ka9 kr9 := runE_ok (doms := nthL domL) (fzr := noFz) (n := 6000) tab_ok mixed kn9_ok (by kernel_rfl)
def kn10 : Known := ⟨(26, ka9, kr9) :: kn9.p, kn9.i⟩
theorem kn10_ok : KnOk Try.prog kn10 := KnOk.cons k9 kn9_ok
def ka10 : List PV := [(.lst false 3 [(.int .i64 0), (.int .i64 0), (.int .i64 (-3)), (.int .i64 1), (.int .i64 (-4)), (.int .i64 2)]), (.int .i64 1)]
def kr10 : PV := (.tup [(.int .i64 0), (.int .i64 2), (.int .i64 0)])
theorem k10 : FnP Try.prog 28 ka10 kr10 := runE_ok (doms := nthL domL) (fzr := noFz) (n := 6000) tab_ok mixed kn10_ok (by kernel_rfl)
def kn11 : Known := ⟨(28, ka10, kr10) :: kn10.p, kn10.i⟩
theorem kn11_ok : KnOk Try.prog kn11 := KnOk.cons k10 kn10_ok
def ka11 : List PV := [(.lst false 3 [(.int .i64 0), (.int .i64 0), (.int .i64 (-3)), (.int .i64 1), (.int .i64 (-4)), (.int .i64 2)]), (.int .i64 3)]
def kr11 : PV := (.tup [(.int .i64 0), (.int .i64 0), (.int .i64 2)])
theorem k11 : FnP Try.prog 28 ka11 kr11 := runE_ok (doms := nthL domL) (fzr := noFz) (n := 6000) tab_ok mixed kn11_ok (by kernel_rfl)
def kn12 : Known := ⟨(28, ka11, kr11) :: kn11.p, kn11.i⟩
theorem kn12_ok : KnOk Try.prog kn12 := KnOk.cons k11 kn11_ok
def ka12 : List PV := [(.lst false 4 [(.int .i64 0), (.int .i64 0), (.int .i64 (-2)), (.int .i64 1), (.int .i64 (-6)), (.int .i64 2), (.int .i64 (-3)), (.int .i64 1)]), (.int .i64 1)]
def kr12 : PV := (.tup [(.agg [(.int .i64 (-2)), (.int .i64 1)]), (.int .i64 0)])
theorem k12 : FnP Try.prog 32 ka12 kr12 := runE_ok (doms := nthL domL) (fzr := noFz) (n := 6000) tab_ok mixed kn12_ok (by kernel_rfl)
def kn13 : Known := ⟨(32, ka12, kr12) :: kn12.p, kn12.i⟩
theorem kn13_ok : KnOk Try.prog kn13 := KnOk.cons k12 kn12_ok
def ka13 : List PV := [(.lst false 3 [(.int .i64 0), (.int .i64 0), (.int .i64 (-3)), (.int .i64 1), (.int .i64 (-4)), (.int .i64 2)]), (.int .i64 0)]
def kr13 : PV := (.tup [(.agg [(.int .i64 0), (.int .i64 1)]), (.int .i64 0)])
theorem k13 : FnP Try.prog 32 ka13 kr13 := runE_ok (doms := nthL domL) (fzr := noFz) (n := 6000) tab_ok mixed kn13_ok (by kernel_rfl)
def kn14 : Known := ⟨(32, ka13, kr13) :: kn13.p, kn13.i⟩
theorem kn14_ok : KnOk Try.prog kn14 := KnOk.cons k13 kn13_ok
def ka14 : List PV := [(.lst false 4 [(.int .i64 0), (.int .i64 0), (.int .i64 (-2)), (.int .i64 1), (.int .i64 (-6)), (.int .i64 2), (.int .i64 (-3)), (.int .i64 1)]), (.int .i64 11)]
def kr14 : PV := (.tup [(.agg [(.int .i64 0), (.int .i64 0)]), (.int .i64 1)])
theorem k14 : FnP Try.prog 32 ka14 kr14 := runE_ok (doms := nthL domL) (fzr := noFz) (n := 6000) tab_ok mixed kn14_ok (by kernel_rfl)
def kn15 : Known := ⟨(32, ka14, kr14) :: kn14.p, kn14.i⟩
theorem kn15_ok : KnOk Try.prog kn15 := KnOk.cons k14 kn14_ok
def ka15 : List PV := [(.lst false 4 [(.int .i64 0), (.int .i64 0), (.int .i64 (-2)), (.int .i64 1), (.int .i64 (-6)), (.int .i64 2), (.int .i64 (-3)), (.int .i64 1)]), (.agg [(.int .i64 1), (.int .i64 0)])]
def kr15 : PV := (.tup [(.agg [(.int .i64 0), (.int .i64 0)]), (.int .i64 1)])
theorem k15 : FnP Try.prog 17 ka15 kr15 := runE_ok (doms := nthL domL) (fzr := noFz) (n := 6000) tab_ok mixed kn15_ok (by kernel_rfl)
def kn16 : Known := ⟨(17, ka15, kr15) :: kn15.p, kn15.i⟩
theorem kn16_ok : KnOk Try.prog kn16 := KnOk.cons k15 kn15_ok
def ka16 : List PV := [(.lst false 4 [(.int .i64 0), (.int .i64 0), (.int .i64 (-2)), (.int .i64 1), (.int .i64 (-6)), (.int .i64 2), (.int .i64 (-3)), (.int .i64 1)]), (.agg [(.int .i64 1001), (.int .i64 1)])]
def kr16 : PV := (.tup [(.agg [(.int .i64 0), (.int .i64 0)]), (.int .i64 1)])
theorem k16 : FnP Try.prog 17 ka16 kr16 := runE_ok (doms := nthL domL) (fzr := noFz) (n := 6000) tab_ok mixed kn16_ok (by kernel_rfl)
def kn17 : Known := ⟨(17, ka16, kr16) :: kn16.p, kn16.i⟩
theorem kn17_ok : KnOk Try.prog kn17 := KnOk.cons k16 kn16_ok
def ka17 : List PV := [(.lst false 4 [(.int .i64 0), (.int .i64 0), (.int .i64 (-2)), (.int .i64 1), (.int .i64 (-6)), (.int .i64 2), (.int .i64 (-3)), (.int .i64 1)]), (.int .i64 3), (.int .i64 2), (.int .i64 2)]
def kr17 : PV := (.int .i64 14)
theorem k17 : FnP Try.prog 30 ka17 kr17 := runE_ok (doms := nthL domL) (fzr := noFz) (n := 6000) tab_ok mixed kn17_ok (by kernel_rfl)
def kn18 : Known := ⟨(30, ka17, kr17) :: kn17.p, kn17.i⟩
theorem kn18_ok : KnOk Try.prog kn18 := KnOk.cons k17 kn17_ok
def ka18 : List PV := [(.lst false 4 [(.int .i64 0), (.int .i64 0), (.int .i64 (-2)), (.int .i64 1), (.int .i64 (-6)), (.int .i64 2), (.int .i64 (-3)), (.int .i64 1)]), (.int .i64 3), (.int .i64 3), (.int .i64 1)]
def kr18 : PV := (.int .i64 6)
theorem k18 : FnP Try.prog 30 ka18 kr18 := runE_ok (doms := nthL domL) (fzr := noFz) (n := 6000) tab_ok mixed kn18_ok (by kernel_rfl)
def kn19 : Known := ⟨(30, ka18, kr18) :: kn18.p, kn18.i⟩
theorem kn19_ok : KnOk Try.prog kn19 := KnOk.cons k18 kn18_ok
def ka19 : List PV := [.nl]
def kr19 : PV := (.int .i64 4)
theorem k19 : FnP Try.prog 22 ka19 kr19 := runE_ok (doms := nthL domL) (fzr := noFz) (n := 6000) tab_ok mixed kn19_ok (by kernel_rfl)
def kn20 : Known := ⟨(22, ka19, kr19) :: kn19.p, kn19.i⟩
theorem kn20_ok : KnOk Try.prog kn20 := KnOk.cons k19 kn19_ok
def ka20 : List PV := [(.lst false 4 [(.int .i64 0), (.int .i64 0), (.int .i64 (-2)), (.int .i64 1), (.int .i64 (-6)), (.int .i64 2), (.int .i64 (-3)), (.int .i64 1)]), (.agg [(.int .i64 5), (.int .i64 2)])]
def kr20 : PV := (.tup [(.agg [(.int .i64 1), (.int .i64 2)]), (.int .i64 0)])
theorem k20 : FnP Try.prog 17 ka20 kr20 := runE_ok (doms := nthL domL) (fzr := noFz) (n := 6000) tab_ok mixed kn20_ok (by kernel_rfl)
def kn21 : Known := ⟨(17, ka20, kr20) :: kn20.p, kn20.i⟩
theorem kn21_ok : KnOk Try.prog kn21 := KnOk.cons k20 kn20_ok
def ka21 : List PV := [(.lst false 4 [(.int .i64 0), (.int .i64 0), (.int .i64 (-2)), (.int .i64 1), (.int .i64 (-6)), (.int .i64 2), (.int .i64 (-3)), (.int .i64 1)]), (.agg [(.int .i64 2), (.int .i64 1)])]
def kr21 : PV := (.tup [(.lst false 2 [(.int .i64 0), (.int .i64 1)]), (.int .i64 0)])
theorem k21 : FnP Try.prog 19 ka21 kr21 := runE_ok (doms := nthL domL) (fzr := noFz) (n := 6000) tab_ok mixed kn21_ok (by kernel_rfl)
def kn22 : Known := ⟨(19, ka21, kr21) :: kn21.p, kn21.i⟩
theorem kn22_ok : KnOk Try.prog kn22 := KnOk.cons k21 kn21_ok
def ka22 : List PV := [(.lst false 3 [(.int .i64 0), (.int .i64 0), (.int .i64 (-3)), (.int .i64 1), (.int .i64 (-4)), (.int .i64 2)])]
def kr22 : PV := (.tup [(.lst false 2 [(.int .i64 0), (.int .i64 2)]), (.int .i64 0)])
theorem k22 : FnP Try.prog 24 ka22 kr22 := runE_ok (doms := nthL domL) (fzr := noFz) (n := 6000) tab_ok mixed kn22_ok (by kernel_rfl)
def kn23 : Known := ⟨(24, ka22, kr22) :: kn22.p, kn22.i⟩
theorem kn23_ok : KnOk Try.prog kn23 := KnOk.cons k22 kn22_ok
def ka23 : List PV := [(.lst false 4 [(.int .i64 0), (.int .i64 0), (.int .i64 (-2)), (.int .i64 1), (.int .i64 (-6)), (.int .i64 2), (.int .i64 (-3)), (.int .i64 1)])]
def kr23 : PV := (.tup [(.lst false 2 [(.int .i64 2), (.int .i64 1), (.int .i64 4), (.int .i64 1)]), (.int .i64 0)])
theorem k23 : FnP Try.prog 26 ka23 kr23 := runE_ok (doms := nthL domL) (fzr := noFz) (n := 6000) tab_ok mixed kn23_ok (by kernel_rfl)
def kn24 : Known := ⟨(26, ka23, kr23) :: kn23.p, kn23.i⟩
theorem kn24_ok : KnOk Try.prog kn24 := KnOk.cons k23 kn23_ok
def ka24 : List PV := [(.lst false 4 [(.int .i64 0), (.int .i64 0), (.int .i64 (-2)), (.int .i64 1), (.int .i64 (-6)), (.int .i64 2), (.int .i64 (-3)), (.int .i64 1)]), (.int .i64 3)]
def kr24 : PV := (.tup [(.int .i64 0), (.int .i64 1), (.int .i64 0)])
theorem k24 : FnP Try.prog 28 ka24 kr24 := runE_ok (doms := nthL domL) (fzr := noFz) (n := 6000) tab_ok mixed kn24_ok (by kernel_rfl)
def kn25 : Known := ⟨(28, ka24, kr24) :: kn24.p, kn24.i⟩
theorem kn25_ok : KnOk Try.prog kn25 := KnOk.cons k24 kn24_ok
def ka25 : List PV := [(.lst false 3 [(.int .i64 0), (.int .i64 0), (.int .i64 (-3)), (.int .i64 1), (.int .i64 (-4)), (.int .i64 2)]), (.int .i64 1)]
def kr25 : PV := (.tup [(.agg [(.int .i64 (-2)), (.int .i64 1)]), (.int .i64 0)])
theorem k25 : FnP Try.prog 32 ka25 kr25 := runE_ok (doms := nthL domL) (fzr := noFz) (n := 6000) tab_ok mixed kn25_ok (by kernel_rfl)
def kn26 : Known := ⟨(32, ka25, kr25) :: kn25.p, kn25.i⟩
theorem kn26_ok : KnOk Try.prog kn26 := KnOk.cons k25 kn25_ok
def ka26 : List PV := [(.lst false 4 [(.int .i64 0), (.int .i64 0), (.int .i64 (-2)), (.int .i64 1), (.int .i64 (-6)), (.int .i64 2), (.int .i64 (-3)), (.int .i64 1)]), (.lst false 3 [(.int .i64 0), (.int .i64 0), (.int .i64 (-3)), (.int .i64 1), (.int .i64 (-4)), (.int .i64 2)])]
def kr26 : PV := (.tup [(.lst false 3 [(.int .i64 0), (.int .i64 0), (.int .i64 (-6)), (.int .i64 3), (.int .i64 (-10)), (.int .i64 4)]), (.int .i64 0)])
theorem k26 : FnP Try.prog 34 ka26 kr26 := runE_ok (doms := nthL domL) (fzr := noFz) (n := 6000) tab_ok mixed kn26_ok (by kernel_rfl)
def kn27 : Known := ⟨(34, ka26, kr26) :: kn26.p, kn26.i⟩
theorem kn27_ok : KnOk Try.prog kn27 := KnOk.cons k26 kn26_ok
def ka27 : List PV := [(.lst false 4 [(.int .i64 0), (.int .i64 0), (.int .i64 (-2)), (.int .i64 1), (.int .i64 (-6)), (.int .i64 2), (.int .i64 (-3)), (.int .i64 1)]), (.int .i64 1)]
def kr27 : PV := (.tup [(.int .i64 0), (.int .i64 0), (.int .i64 13)])
theorem k27 : FnP Try.prog 28 ka27 kr27 := runE_ok (doms := nthL domL) (fzr := noFz) (n := 6000) tab_ok mixed kn27_ok (by kernel_rfl)
def kn28 : Known := ⟨(28, ka27, kr27) :: kn27.p, kn27.i⟩
theorem kn28_ok : KnOk Try.prog kn28 := KnOk.cons k27 kn27_ok
def ka28 : List PV := [(.lst false 4 [(.int .i64 0), (.int .i64 0), (.int .i64 (-2)), (.int .i64 1), (.int .i64 (-6)), (.int .i64 2), (.int .i64 (-3)), (.int .i64 1)]), (.int .i64 3)]
def kr28 : PV := (.tup [(.agg [(.int .i64 0), (.int .i64 0)]), (.int .i64 12)])
theorem k28 : FnP Try.prog 32 ka28 kr28 := runE_ok (doms := nthL domL) (fzr := noFz) (n := 6000) tab_ok mixed kn28_ok (by kernel_rfl)
def kn29 : Known := ⟨(32, ka28, kr28) :: kn28.p, kn28.i⟩
theorem kn29_ok : KnOk Try.prog kn29 := KnOk.cons k28 kn28_ok
def ka29 : List PV := [(.lst false 4 [(.int .i64 0), (.int .i64 0), (.int .i64 (-2)), (.int .i64 1), (.int .i64 (-6)), (.int .i64 2), (.int .i64 (-3)), (.int .i64 1)]), (.int .i64 3), (.int .i64 0), (.int .i64 2)]
def kr29 : PV := (.int .i64 0)
theorem k29 : FnP Try.prog 30 ka29 kr29 := runE_ok (doms := nthL domL) (fzr := noFz) (n := 6000) tab_ok mixed kn29_ok (by kernel_rfl)
def kn30 : Known := ⟨(30, ka29, kr29) :: kn29.p, kn29.i⟩
theorem kn30_ok : KnOk Try.prog kn30 := KnOk.cons k29 kn29_ok
def ka30 : List PV := [(.lst false 4 [(.int .i64 0), (.int .i64 0), (.int .i64 (-2)), (.int .i64 1), (.int .i64 (-6)), (.int .i64 2), (.int .i64 (-3)), (.int .i64 1)]), (.int .i64 1), (.int .i64 0), (.int .i64 2)]
def kr30 : PV := (.int .i64 14)
theorem k30 : FnP Try.prog 30 ka30 kr30 := runE_ok (doms := nthL domL) (fzr := noFz) (n := 6000) tab_ok mixed kn30_ok (by kernel_rfl)
def kn31 : Known := ⟨(30, ka30, kr30) :: kn30.p, kn30.i⟩
theorem kn31_ok : KnOk Try.prog kn31 := KnOk.cons k30 kn30_ok
def ka31 : List PV := []
def kr31 : PV := (.bool true)
theorem k31 : FnP Try.prog 15 ka31 kr31 := runE_ok (doms := nthL domL) (fzr := noFz) (n := 6000) tab_ok mixed kn31_ok (by kernel_rfl)
def kn32 : Known := ⟨(15, ka31, kr31) :: kn31.p, kn31.i⟩
theorem kn32_ok : KnOk Try.prog kn32 := KnOk.cons k31 kn31_ok
def ka32 : List PV := []
def kr32 : PV := (.bool true)
theorem k32 : FnP Try.prog 9 ka32 kr32 := runE_ok (doms := nthL domL) (fzr := noFz) (n := 6000) tab_ok mixed kn32_ok (by kernel_rfl)
def kn33 : Known := ⟨(9, ka32, kr32) :: kn32.p, kn32.i⟩
theorem kn33_ok : KnOk Try.prog kn33 := KnOk.cons k32 kn32_ok
end Go.Proofs.Ytgnphlpoofaojaa
