/-
  Runs on constants, each a contract: worked out by the executor in the kernel.
-/
import Derived.Test.YteidcinajdehkaaB
namespace Go.Proofs.Yteidcinajdehkaa
open Go.V
set_option maxRecDepth 100000
def domL : List (List Nat) := [[], [], [], [0, 1, 2, 4, 6, 7, 8, 9, 10, 11, 12, 13, 14, 15, 25], [0, 1, 3, 4, 5, 6, 7, 8, 9, 10, 11, 12, 13, 19], [0, 2, 3, 4, 5, 6, 7, 8, 9, 10, 11, 12, 13, 14, 15, 16, 18], [0, 1, 2, 3, 5, 7, 8, 9, 10, 11, 12, 13, 14, 36], [0, 1, 2, 3, 4, 5, 6, 7, 8, 9, 10, 11, 12, 13, 14, 15, 16, 17, 18, 19, 20, 21, 22, 23, 24, 25, 121, 133, 134], [0, 1, 2, 3, 4, 5, 6, 7, 8, 9, 10, 12, 13, 14, 15, 16, 17, 18, 19, 20, 21, 22, 23, 24, 25, 26, 27, 28, 51, 92, 94, 95, 96, 101, 102, 103, 104, 130, 144, 147, 148, 149, 150, 174, 175, 176, 177, 200, 201, 202, 203, 207, 208, 209, 210, 226, 242, 249], [0, 1, 2, 3, 4, 5, 8, 9, 10, 11, 12, 13, 14, 15, 16, 38, 39, 42, 43, 44, 47, 48, 49, 74, 75, 76, 81, 82, 83, 84, 110], [0, 1, 2, 3, 4, 6, 8, 9, 10, 11, 12, 13, 14, 15, 16, 137], [0, 1, 2, 3, 4, 5, 6, 7, 8, 9, 10, 11, 12, 13, 14, 15, 16, 17, 18, 19, 20, 21, 22, 23, 24, 25, 26, 27, 28, 29, 31, 33, 34, 35, 36, 37, 52, 53, 54, 73, 74, 75, 76, 172, 221, 222, 223, 224, 225, 228, 229, 230, 231, 235, 244, 246], [0, 1, 2, 3, 4, 8, 9, 10, 11, 12, 13, 15, 16, 17, 18, 19, 20, 21, 22, 23, 24, 25, 26, 27, 28, 29, 30, 31, 32, 33, 34, 35, 36, 37, 38, 39, 57, 58, 59, 60, 84, 85, 86, 100, 101, 102, 122, 123, 124, 183], [0, 1, 2, 3, 4, 8, 9, 10, 11, 12, 13, 15, 16, 17, 18, 19, 20, 21, 22, 23, 24, 26, 28, 29, 30, 31, 32, 33, 34, 35, 36, 54, 55, 56, 57, 130, 133, 134, 135, 136, 148, 149, 150, 151, 171], [0, 1, 2, 3, 5, 6, 7, 8, 9, 10, 11, 12, 34], [0, 2, 3, 6, 10, 18], [0, 1, 2], [0, 1, 2, 3, 4, 5, 6, 7, 8, 9, 10, 11, 12, 13, 14, 15, 16, 17, 79], [0, 1, 3, 4, 5, 6, 7, 12], [0, 1, 3, 4, 5, 6, 7, 8, 9, 10, 11, 12, 13, 14, 15, 20, 26, 41, 62], [0, 1, 2, 4, 6, 7, 8, 9, 10, 11, 12, 13, 14, 18, 22, 33, 39, 40, 41, 42, 53, 54, 55, 56, 57, 82], [0, 1, 2, 4, 6, 7, 8, 9, 10, 11, 12, 13, 14, 19, 26, 30, 41, 49, 57, 61, 80, 93, 97, 109], [0, 1, 4, 5, 10, 14, 26], [0, 2, 4, 5, 16, 27, 28, 29, 30, 33, 41], [0, 2, 3, 13, 23, 27, 39, 45], [0, 1, 3, 4, 5, 9, 11, 28, 37], [0, 1, 3, 4, 5, 9, 26, 36, 43], [0, 1, 2, 3, 4, 5, 6, 7, 8, 13], [0, 1, 3, 4, 5, 6, 7, 8, 9, 14, 27, 39], [0, 1, 3, 4, 5, 6, 7, 12], [0, 1, 3, 4, 5, 6, 11], [0, 2, 3, 4, 8], [0, 2, 3, 4, 8], [0, 2, 3, 4, 5, 6, 7, 8, 12, 15, 16, 17, 24, 30, 31, 32, 41, 52], [0, 2, 3, 4, 5, 9, 15], [0, 1, 2, 3, 4, 5, 6, 10, 17], [0, 2, 3, 4, 5, 6, 7, 8, 9, 10, 11, 12, 13, 17, 30, 36, 45, 54, 86], [0, 1, 4, 5, 10, 14, 25], [0, 1, 2, 3, 4, 5, 6, 7, 9, 14, 23], [0, 1, 3, 4, 5, 6, 7, 8, 9, 10, 11, 22, 24, 49, 69], [0, 1, 3, 4, 5, 6, 7, 8, 9, 12, 16, 33, 42, 43, 44, 45, 49, 50, 51, 52, 68], [0, 1, 3, 4, 5, 9], [0, 1, 2, 3, 5, 7, 8, 9, 10, 11, 12, 13, 14, 15, 24, 30, 33, 34, 35, 36, 51, 52, 53, 54, 69], [0, 1, 2, 3, 5, 7, 8, 9, 10, 11, 12, 13, 22, 27, 33, 53, 71], [0, 1, 2, 3, 4, 5, 6, 7, 8, 9, 10, 11, 12, 14, 15, 16, 29, 30, 31, 33, 34, 35, 48, 65, 70, 105, 106, 107, 108, 134], [0, 1, 2, 3, 4, 5, 6], [0, 1, 2, 3, 4, 5, 6, 7, 8, 9, 10, 16, 17, 18, 29, 30, 31, 32, 36, 37, 38, 46, 47, 48, 49, 53, 54, 55], [0, 2, 3, 4, 5, 6, 8, 9, 10, 17, 23, 24, 25, 34, 42], [0], [0], [0, 2], [0, 2], [0], [0, 2, 4], [0, 2, 3, 9], [0, 2, 3, 4, 7, 15], [0, 1, 2, 3, 4], [0, 1, 2, 3, 4, 5, 6], [0, 1, 2, 3, 4, 5, 7, 9, 10, 12, 13, 14, 15, 16, 17, 20, 21, 22, 23, 44], [0], [0, 1, 2, 3, 4, 5, 6, 18, 19, 20], [0, 1, 2, 4, 5, 6, 7, 8, 31, 49], [0, 1, 2, 3], [0, 1, 2, 3, 4, 5, 6, 7, 8, 20, 61], [0, 2, 3, 4, 8], [0, 1, 4], [0, 1, 3], [0, 2], [0, 1, 2, 4, 5, 6], [0, 2, 3, 5, 6, 7, 8, 9], [0, 1, 2, 6, 7, 11, 21], [0, 1, 4, 5, 6, 7, 11, 20], [0, 1, 2, 4, 5, 6, 7, 8, 33, 47, 48, 49, 50, 75, 79], [0, 1, 2, 3, 4, 6, 7, 8, 9, 10, 11, 12, 13, 14, 15, 16, 20, 21, 22, 23, 46, 50, 51, 52, 53], [0, 1, 4, 5, 6, 7, 8, 9, 10, 11, 14, 25, 31, 56], [0, 1], [0, 1, 2, 6, 7, 8, 9, 10, 11, 12, 16, 37, 67], [0, 2, 3, 4, 8, 9, 10], [0, 2, 3, 4, 5, 6, 10, 18, 26, 36, 69], [0, 1, 3, 4, 5], [0, 1, 2, 3, 4, 5], [0, 1, 2, 3, 4, 6], [0, 1, 4, 5, 6, 10, 15, 21], [0, 1, 2, 3, 4, 12], [0, 1, 3, 4, 5, 6, 22, 32, 36, 45, 66], [0, 1, 2, 3, 4, 5, 6, 7, 8, 9, 10, 20, 21, 22], [0, 1, 2, 3, 4, 6, 8, 18, 20, 21, 22, 23], [0, 1, 4, 5, 6, 7, 8, 9, 10, 11, 12, 13, 17, 18, 19, 20], [0, 1, 2, 3, 4, 10], [0, 1, 2, 3, 5, 9, 13, 14, 15, 20], [0, 1, 4], [0, 1, 4, 5, 7, 8, 9, 16], [0, 1, 4], [0, 1, 2, 4], [0, 1, 2, 6], [0, 1, 2, 6, 11], [0, 1, 4, 5, 6, 11, 26], [0, 1, 4, 5, 6, 7, 8, 11, 13, 25, 37], [0, 1, 2, 3, 6, 7, 8, 11, 15, 16, 17, 18, 38], [0, 1, 2, 6, 7, 16], [0, 1, 4, 5, 9, 17], [0, 1, 2, 3, 4, 5, 6, 7, 9, 10, 11, 16, 36, 64], [0, 1, 4, 5, 7, 8, 9, 16], [0, 1, 4, 5, 7, 8, 9, 16], [0], [0], [0], [0], [0], [0], [0], [0], [0], [0], [0], [0], [0], [0], [0], [0]]
def nthL : List (List Nat) → Nat → List Nat
  | [], _ => []
  | x :: _, 0 => x
  | _ :: l, n + 1 => nthL l n
def noFz (n : Nat) : Bool := bif Nat.beq n 0 then false else false
def kn0 : Known := ⟨[], []⟩
theorem kn0_ok : KnOk Try.prog kn0 := KnOk.nil
def ka0 : List PV := []
def kr0 : PV := (.lst true 2 [(.lst true 2 [(.int .i64 1), (.int .i64 2)]), (.lst true 2 [(.int .i64 2), (.int .i64 1)])])
theorem k0 : FnP Try.prog 48 ka0 kr0 := runE_ok (doms := nthL domL) (fzr := noFz) (n := 4000) tab_ok mixed kn0_ok (by kernel_rfl)
def kn1 : Known := ⟨(48, ka0, kr0) :: kn0.p, kn0.i⟩
theorem kn1_ok : KnOk Try.prog kn1 := KnOk.cons k0 kn0_ok
def ka1 : List PV := []
def kr1 : PV := (.agg [(.lst true 2 [(.int .i64 2), (.int .i64 1)]), (.lst true 2 [(.int .i64 1), (.int .i64 2)])])
theorem k1 : FnP Try.prog 49 ka1 kr1 := runE_ok (doms := nthL domL) (fzr := noFz) (n := 4000) tab_ok mixed kn1_ok (by kernel_rfl)
def kn2 : Known := ⟨(49, ka1, kr1) :: kn1.p, kn1.i⟩
theorem kn2_ok : KnOk Try.prog kn2 := KnOk.cons k1 kn1_ok
def ka2 : List PV := [(.lst true 2 [(.lst true 2 [(.int .i64 1), (.int .i64 2)]), (.lst true 2 [(.int .i64 2), (.int .i64 1)])])]
def kr2 : PV := (.int .i64 0)
theorem k2 : FnP Try.prog 23 ka2 kr2 := runE_ok (doms := nthL domL) (fzr := noFz) (n := 4000) tab_ok mixed kn2_ok (by kernel_rfl)
def kn3 : Known := ⟨(23, ka2, kr2) :: kn2.p, kn2.i⟩
theorem kn3_ok : KnOk Try.prog kn3 := KnOk.cons k2 kn2_ok
def ka3 : List PV := [(.lst true 2 [(.lst true 2 [(.int .i64 1), (.int .i64 2)]), (.lst true 2 [(.int .i64 2), (.int .i64 1)])]), (.agg [(.lst true 2 [(.int .i64 2), (.int .i64 1)]), (.lst true 2 [(.int .i64 1), (.int .i64 2)])])]
def kr3 : PV := (.int .i64 0)
theorem k3 : FnP Try.prog 25 ka3 kr3 := runE_ok (doms := nthL domL) (fzr := noFz) (n := 4000) tab_ok mixed kn3_ok (by kernel_rfl)
def kn4 : Known := ⟨(25, ka3, kr3) :: kn3.p, kn3.i⟩
theorem kn4_ok : KnOk Try.prog kn4 := KnOk.cons k3 kn3_ok
def ka4 : List PV := [(.lst true 2 [(.lst true 2 [(.int .i64 1), (.int .i64 2)]), (.lst true 2 [(.int .i64 2), (.int .i64 1)])]), (.agg [(.lst true 2 [(.int .i64 2), (.int .i64 1)]), (.lst true 2 [(.int .i64 1), (.int .i64 2)])])]
def kr4 : PV := (.tup [(.lst false 2 [(.lst true 2 [(.int .i64 1), (.int .i64 1)]), (.lst true 2 [(.int .i64 0), (.int .i64 1)])]), (.int .i64 0)])
theorem k4 : FnP Try.prog 27 ka4 kr4 := runE_ok (doms := nthL domL) (fzr := noFz) (n := 4000) tab_ok mixed kn4_ok (by kernel_rfl)
def kn5 : Known := ⟨(27, ka4, kr4) :: kn4.p, kn4.i⟩
theorem kn5_ok : KnOk Try.prog kn5 := KnOk.cons k4 kn4_ok
def ka5 : List PV := []
def kr5 : PV := (.lst true 2 [(.lst true 2 [(.int .i64 2), (.int .i64 1)]), (.lst true 2 [(.int .i64 1), (.int .i64 2)])])
theorem k5 : FnP Try.prog 52 ka5 kr5 := runE_ok (doms := nthL domL) (fzr := noFz) (n := 4000) tab_ok mixed kn5_ok (by kernel_rfl)
def kn6 : Known := ⟨(52, ka5, kr5) :: kn5.p, kn5.i⟩
theorem kn6_ok : KnOk Try.prog kn6 := KnOk.cons k5 kn5_ok
def ka6 : List PV := [(.lst true 2 [(.lst true 2 [(.int .i64 2), (.int .i64 1)]), (.lst true 2 [(.int .i64 1), (.int .i64 2)])])]
def kr6 : PV := (.int .i64 0)
theorem k6 : FnP Try.prog 23 ka6 kr6 := runE_ok (doms := nthL domL) (fzr := noFz) (n := 4000) tab_ok mixed kn6_ok (by kernel_rfl)
def kn7 : Known := ⟨(23, ka6, kr6) :: kn6.p, kn6.i⟩
theorem kn7_ok : KnOk Try.prog kn7 := KnOk.cons k6 kn6_ok
def ka7 : List PV := [(.lst true 2 [(.lst true 2 [(.int .i64 2), (.int .i64 1)]), (.lst true 2 [(.int .i64 1), (.int .i64 2)])])]
def kr7 : PV := (.tup [(.bool false), (.int .i64 0)])
theorem k7 : FnP Try.prog 31 ka7 kr7 := runE_ok (doms := nthL domL) (fzr := noFz) (n := 4000) tab_ok mixed kn7_ok (by kernel_rfl)
def kn8 : Known := ⟨(31, ka7, kr7) :: kn7.p, kn7.i⟩
theorem kn8_ok : KnOk Try.prog kn8 := KnOk.cons k7 kn7_ok
def ka8 : List PV := [(.lst true 2 [(.lst true 2 [(.int .i64 2), (.int .i64 1)]), (.lst true 2 [(.int .i64 1), (.int .i64 2)])])]
def kr8 : PV := (.tup [(.lst true 4 [(.int .i64 0), (.int .i64 1), (.int .i64 0), (.int .i64 1)]), (.int .i64 0)])
theorem k8 : FnP Try.prog 33 ka8 kr8 := runE_ok (doms := nthL domL) (fzr := noFz) (n := 4000) tab_ok mixed kn8_ok (by kernel_rfl)
def kn9 : Known := ⟨(33, ka8, kr8) :: kn8.p, kn8.i⟩
theorem kn9_ok : KnOk Try.prog kn9 := KnOk.cons k8 kn8_ok
def ka9 : List PV := [(.lst true 2 [(.lst true 2 [(.int .i64 1), (.int .i64 2)]), (.lst true 2 [(.int .i64 2), (.int .i64 1)])])]
def kr9 : PV := (.tup [(.lst false 2 [(.int .i64 0), (.int .i64 1)]), (.lst false 2 [(.int .i64 0), (.int .i64 1)]), (.int .i64 0)])
theorem k9 : FnP Try.prog 35 ka9 kr9 := runE_ok (doms := nthL domL) (fzr := noFz) (n := 4000) tab_ok mixed kn9_ok (by kernel_rfl)
def kn10 : Known := ⟨(35, ka9, kr9) :: kn9.p, kn9.i⟩
theorem kn10_ok : KnOk Try.prog kn10 := KnOk.cons k9 kn9_ok
def ka10 : List PV := [.nl]
def kr10 : PV := (.int .i64 4)
theorem k10 : FnP Try.prog 23 ka10 kr10 := runE_ok (doms := nthL domL) (fzr := noFz) (n := 4000) tab_ok mixed kn10_ok (by kernel_rfl)
def kn11 : Known := ⟨(23, ka10, kr10) :: kn10.p, kn10.i⟩
theorem kn11_ok : KnOk Try.prog kn11 := KnOk.cons k10 kn10_ok
def ka11 : List PV := [(.lst true 2 [(.lst true 2 [(.int .i64 1), (.int .i64 2)]), (.lst true 2 [(.int .i64 2), (.int .i64 1)])]), (.agg [(.lst true 2 [(.int .i64 2), (.int .i64 1)]), (.lst true 2 [(.int .i64 1), (.int .i64 2)])])]
def kr11 : PV := (.tup [(.lst false 2 [(.lst true 2 [(.int .i64 1), (.int .i64 1)]), (.lst true 2 [(.int .i64 0), (.int .i64 1)])]), (.int .i64 0)])
theorem k11 : FnP Try.prog 18 ka11 kr11 := runE_ok (doms := nthL domL) (fzr := noFz) (n := 4000) tab_ok mixed kn11_ok (by kernel_rfl)
def kn12 : Known := ⟨(18, ka11, kr11) :: kn11.p, kn11.i⟩
theorem kn12_ok : KnOk Try.prog kn12 := KnOk.cons k11 kn11_ok
def ka12 : List PV := [(.lst true 2 [(.lst true 2 [(.int .i64 2), (.int .i64 1)]), (.lst true 2 [(.int .i64 1), (.int .i64 2)])]), (.agg [(.lst true 2 [(.int .i64 2), (.int .i64 1)]), (.lst true 2 [(.int .i64 1), (.int .i64 2)])])]
def kr12 : PV := (.int .i64 0)
theorem k12 : FnP Try.prog 25 ka12 kr12 := runE_ok (doms := nthL domL) (fzr := noFz) (n := 4000) tab_ok mixed kn12_ok (by kernel_rfl)
def kn13 : Known := ⟨(25, ka12, kr12) :: kn12.p, kn12.i⟩
theorem kn13_ok : KnOk Try.prog kn13 := KnOk.cons k12 kn12_ok
def ka13 : List PV := [(.lst true 2 [(.lst true 2 [(.int .i64 2), (.int .i64 1)]), (.lst true 2 [(.int .i64 1), (.int .i64 2)])]), (.agg [(.lst true 2 [(.int .i64 2), (.int .i64 1)]), (.lst true 2 [(.int .i64 1), (.int .i64 2)])])]
def kr13 : PV := (.tup [(.lst false 2 [(.lst true 2 [(.int .i64 0), (.int .i64 2)]), (.lst true 2 [(.int .i64 1), (.int .i64 0)])]), (.int .i64 0)])
theorem k13 : FnP Try.prog 27 ka13 kr13 := runE_ok (doms := nthL domL) (fzr := noFz) (n := 4000) tab_ok mixed kn13_ok (by kernel_rfl)
def kn14 : Known := ⟨(27, ka13, kr13) :: kn13.p, kn13.i⟩
theorem kn14_ok : KnOk Try.prog kn14 := KnOk.cons k13 kn13_ok
def ka14 : List PV := [(.lst true 2 [(.lst true 2 [(.int .i64 1), (.int .i64 2)]), (.lst true 2 [(.int .i64 2), (.int .i64 1)])]), (.agg [(.lst true 2 [(.int .i64 2), (.int .i64 1)]), (.lst true 2 [(.int .i64 1), (.int .i64 2)])])]
def kr14 : PV := (.tup [(.int .i64 2), (.int .i64 0)])
theorem k14 : FnP Try.prog 29 ka14 kr14 := runE_ok (doms := nthL domL) (fzr := noFz) (n := 4000) tab_ok mixed kn14_ok (by kernel_rfl)
def kn15 : Known := ⟨(29, ka14, kr14) :: kn14.p, kn14.i⟩
theorem kn15_ok : KnOk Try.prog kn15 := KnOk.cons k14 kn14_ok
def ka15 : List PV := [(.lst true 2 [(.lst true 2 [(.int .i64 1), (.int .i64 2)]), (.lst true 2 [(.int .i64 2), (.int .i64 1)])])]
def kr15 : PV := (.tup [(.bool true), (.int .i64 0)])
theorem k15 : FnP Try.prog 31 ka15 kr15 := runE_ok (doms := nthL domL) (fzr := noFz) (n := 4000) tab_ok mixed kn15_ok (by kernel_rfl)
def kn16 : Known := ⟨(31, ka15, kr15) :: kn15.p, kn15.i⟩
theorem kn16_ok : KnOk Try.prog kn16 := KnOk.cons k15 kn15_ok
def ka16 : List PV := []
def kr16 : PV := (.lst true 3 [(.lst true 3 [(.int .i64 0), (.int .i64 1), (.int .i64 1)]), (.lst true 3 [(.int .i64 1), (.int .i64 0), (.int .i64 1)]), (.lst true 3 [(.int .i64 1), (.int .i64 1), (.int .i64 0)])])
theorem k16 : FnP Try.prog 59 ka16 kr16 := runE_ok (doms := nthL domL) (fzr := noFz) (n := 4000) tab_ok mixed kn16_ok (by kernel_rfl)
def kn17 : Known := ⟨(59, ka16, kr16) :: kn16.p, kn16.i⟩
theorem kn17_ok : KnOk Try.prog kn17 := KnOk.cons k16 kn16_ok
def ka17 : List PV := [(.lst true 3 [(.lst true 3 [(.int .i64 0), (.int .i64 1), (.int .i64 1)]), (.lst true 3 [(.int .i64 1), (.int .i64 0), (.int .i64 1)]), (.lst true 3 [(.int .i64 1), (.int .i64 1), (.int .i64 0)])])]
def kr17 : PV := (.int .i64 0)
theorem k17 : FnP Try.prog 23 ka17 kr17 := runE_ok (doms := nthL domL) (fzr := noFz) (n := 4000) tab_ok mixed kn17_ok (by kernel_rfl)
def kn18 : Known := ⟨(23, ka17, kr17) :: kn17.p, kn17.i⟩
theorem kn18_ok : KnOk Try.prog kn18 := KnOk.cons k17 kn17_ok
def ka18 : List PV := [(.lst true 3 [(.lst true 3 [(.int .i64 0), (.int .i64 1), (.int .i64 1)]), (.lst true 3 [(.int .i64 1), (.int .i64 0), (.int .i64 1)]), (.lst true 3 [(.int .i64 1), (.int .i64 1), (.int .i64 0)])])]
def kr18 : PV := (.tup [(.bool false), (.int .i64 0)])
theorem k18 : FnP Try.prog 31 ka18 kr18 := runE_ok (doms := nthL domL) (fzr := noFz) (n := 4000) tab_ok mixed kn18_ok (by kernel_rfl)
def kn19 : Known := ⟨(31, ka18, kr18) :: kn18.p, kn18.i⟩
theorem kn19_ok : KnOk Try.prog kn19 := KnOk.cons k18 kn18_ok
def ka19 : List PV := [(.lst true 3 [(.lst true 3 [(.int .i64 0), (.int .i64 1), (.int .i64 1)]), (.lst true 3 [(.int .i64 1), (.int .i64 0), (.int .i64 1)]), (.lst true 3 [(.int .i64 1), (.int .i64 1), (.int .i64 0)])])]
def kr19 : PV := (.tup [(.lst true 4 [(.int .i64 0), (.int .i64 1), (.int .i64 1), (.int .i64 2)]), (.int .i64 0)])
theorem k19 : FnP Try.prog 33 ka19 kr19 := runE_ok (doms := nthL domL) (fzr := noFz) (n := 4000) tab_ok mixed kn19_ok (by kernel_rfl)
def kn20 : Known := ⟨(33, ka19, kr19) :: kn19.p, kn19.i⟩
theorem kn20_ok : KnOk Try.prog kn20 := KnOk.cons k19 kn19_ok
def ka20 : List PV := [(.lst true 2 [(.lst true 2 [(.int .i64 2), (.int .i64 1)]), (.lst true 2 [(.int .i64 1), (.int .i64 2)])])]
def kr20 : PV := (.tup [(.lst false 2 [(.int .i64 0), (.int .i64 1)]), (.lst false 2 [(.int .i64 1), (.int .i64 0)]), (.int .i64 0)])
theorem k20 : FnP Try.prog 35 ka20 kr20 := runE_ok (doms := nthL domL) (fzr := noFz) (n := 4000) tab_ok mixed kn20_ok (by kernel_rfl)
def kn21 : Known := ⟨(35, ka20, kr20) :: kn20.p, kn20.i⟩
theorem kn21_ok : KnOk Try.prog kn21 := KnOk.cons k20 kn20_ok
def ka21 : List PV := [(.lst true 3 [(.lst true 3 [(.int .i64 0), (.int .i64 1), (.int .i64 1)]), (.lst true 3 [(.int .i64 1), (.int .i64 0), (.int .i64 1)]), (.lst true 3 [(.int .i64 1), (.int .i64 1), (.int .i64 0)])])]
def kr21 : PV := (.tup [.nl, .nl, (.int .i64 12)])
theorem k21 : FnP Try.prog 35 ka21 kr21 := runE_ok (doms := nthL domL) (fzr := noFz) (n := 4000) tab_ok mixed kn21_ok (by kernel_rfl)
def kn22 : Known := ⟨(35, ka21, kr21) :: kn21.p, kn21.i⟩
theorem kn22_ok : KnOk Try.prog kn22 := KnOk.cons k21 kn21_ok
def ka22 : List PV := [(.lst true 2 [(.lst true 2 [(.int .i64 1), (.int .i64 2)]), (.lst true 2 [(.int .i64 2), (.int .i64 1)])]), (.agg [(.lst true 2 [(.int .i64 2), (.int .i64 1)]), (.lst true 2 [(.int .i64 1), (.int .i64 2)])])]
def kr22 : PV := (.tup [(.agg [(.lst false 2 [(.int .i64 0), (.int .i64 (-1))]), (.lst false 2 [(.int .i64 1), (.int .i64 2)])]), (.int .i64 0)])
theorem k22 : FnP Try.prog 38 ka22 kr22 := runE_ok (doms := nthL domL) (fzr := noFz) (n := 4000) tab_ok mixed kn22_ok (by kernel_rfl)
def kn23 : Known := ⟨(38, ka22, kr22) :: kn22.p, kn22.i⟩
theorem kn23_ok : KnOk Try.prog kn23 := KnOk.cons k22 kn22_ok
def ka23 : List PV := [(.lst true 2 [(.lst true 2 [(.int .i64 2), (.int .i64 1)]), (.lst true 2 [(.int .i64 1), (.int .i64 2)])]), (.agg [(.lst true 2 [(.int .i64 2), (.int .i64 1)]), (.lst true 2 [(.int .i64 1), (.int .i64 2)])])]
def kr23 : PV := (.tup [(.agg [.nl, .nl]), (.int .i64 13)])
theorem k23 : FnP Try.prog 38 ka23 kr23 := runE_ok (doms := nthL domL) (fzr := noFz) (n := 4000) tab_ok mixed kn23_ok (by kernel_rfl)
def kn24 : Known := ⟨(38, ka23, kr23) :: kn23.p, kn23.i⟩
theorem kn24_ok : KnOk Try.prog kn24 := KnOk.cons k23 kn23_ok
def ka24 : List PV := [(.lst true 2 [(.lst true 2 [(.int .i64 1), (.int .i64 2)]), (.lst true 2 [(.int .i64 2), (.int .i64 1)])])]
def kr24 : PV := (.tup [.nl, (.int .i64 13)])
theorem k24 : FnP Try.prog 33 ka24 kr24 := runE_ok (doms := nthL domL) (fzr := noFz) (n := 4000) tab_ok mixed kn24_ok (by kernel_rfl)
def kn25 : Known := ⟨(33, ka24, kr24) :: kn24.p, kn24.i⟩
theorem kn25_ok : KnOk Try.prog kn25 := KnOk.cons k24 kn24_ok
def ka25 : List PV := []
def kr25 : PV := (.bool true)
theorem k25 : FnP Try.prog 17 ka25 kr25 := runE_ok (doms := nthL domL) (fzr := noFz) (n := 4000) tab_ok mixed kn25_ok (by kernel_rfl)
def kn26 : Known := ⟨(17, ka25, kr25) :: kn25.p, kn25.i⟩
theorem kn26_ok : KnOk Try.prog kn26 := KnOk.cons k25 kn25_ok
def ka26 : List PV := []
def kr26 : PV := (.bool true)
theorem k26 : FnP Try.prog 10 ka26 kr26 := runE_ok (doms := nthL domL) (fzr := noFz) (n := 4000) tab_ok mixed kn26_ok (by kernel_rfl)
def kn27 : Known := ⟨(10, ka26, kr26) :: kn26.p, kn26.i⟩
theorem kn27_ok : KnOk Try.prog kn27 := KnOk.cons k26 kn26_ok
end Go.Proofs.Yteidcinajdehkaa
