/-
  Runs on constants, each a contract: worked out by the executor in the kernel.
-/
import Derived.Test.YtcaecfofgdogbaaDoorB
namespace Go.Proofs.YtcaecfofgdogbaaDoor
open Go.V
set_option maxRecDepth 100000
def domL : List (List Nat) := [[], [], [], [0, 1, 4, 5, 6, 7, 8, 9, 10, 11, 12, 13, 14, 15, 16, 18, 72], [0, 1, 4, 5, 6, 7, 8, 9, 10, 11, 12, 13, 14, 15, 16, 18, 61], [0, 1, 2, 3, 4, 5, 6, 7, 8, 9, 10, 11, 35, 39, 61, 62, 63], [0, 1, 2, 3, 4, 5, 6, 7, 8, 9, 10, 11, 13, 15, 16, 17, 18, 19, 38, 41, 42, 43, 44, 48, 49, 50, 51, 74, 75, 76, 77, 78, 86, 96, 97, 98, 99, 107, 114, 128], [0, 1, 2, 3, 4, 5, 6, 7, 8, 9, 10, 11, 12, 13, 14, 40, 41, 42, 43, 44, 48, 49, 50, 51, 63, 79], [0, 1, 2, 3, 4, 5, 6, 7, 8, 9, 10, 12, 22, 73, 76], [0, 1, 2, 4, 5, 6, 7, 8, 9, 10, 11, 12, 13, 15, 16, 18, 36, 37, 38, 39, 63, 64, 65, 74, 75, 76, 77], [0, 2, 3, 4, 5, 6], [0, 1, 2, 6, 7, 8, 9, 10, 11, 12, 13, 14, 16], [0, 1, 2, 3, 4, 5, 6, 8, 9, 10, 11, 12, 13, 14, 15, 16], [0, 1, 2, 3, 4, 5, 6, 8, 9, 10, 11, 12, 13, 14, 15, 16, 17, 18, 19, 21, 22, 24, 25, 26, 27, 28, 30, 45, 46, 47, 80, 108, 109, 110, 111, 114, 115, 116, 117, 173], [0, 1, 2, 3, 5, 6, 7, 8, 9, 10, 12, 13, 14, 15, 16, 17, 18, 19, 21, 23, 25, 26, 27, 28, 30, 31, 32, 33, 34, 35, 36, 37, 38, 49, 50, 51, 52, 69, 95, 96, 97, 98, 102, 103, 104, 105, 111, 112, 113, 114, 122, 128, 130, 164, 167, 168, 169, 170, 175, 191, 198, 221, 223], [0, 2, 3, 6, 10, 18], [0, 1, 2, 3, 4, 5, 6, 7, 8, 9, 10, 11, 12, 13, 14, 15, 16, 17, 80], [0, 1, 4, 5, 6, 7, 8, 9, 18, 20, 21, 22], [0, 1, 4, 5, 6, 7, 8, 9, 10, 15, 19, 24, 31], [0, 1, 4, 5, 6, 7, 8, 16, 20], [0, 1, 4, 5, 6, 11], [0, 1, 4, 5, 10, 14, 26], [0, 1, 4, 5, 10, 14, 25], [0, 1, 4, 6], [0, 1, 4], [0, 1, 4, 5, 6, 7, 8, 16, 20], [0, 1, 4, 5, 6, 11], [0, 1, 4, 5, 6, 7, 9, 10, 11, 12, 17, 19, 20, 21, 22, 27, 28, 29, 30], [0, 1, 4, 5, 6, 7, 8, 9, 10, 15, 20, 27], [0, 1, 4, 5, 6, 7, 8, 17], [0, 1, 4, 5, 6, 11], [0, 2, 3, 4, 5, 6, 7, 13, 16, 17, 18, 20, 21, 22, 29], [0, 2, 3, 4, 5, 6, 7, 10, 13, 18], [0, 1, 4, 5, 6, 7, 17], [0, 1, 4, 5, 6, 7, 12, 18], [0, 1, 4, 5, 6, 7], [0, 1, 4, 5, 6, 11], [0, 1, 2, 4, 5, 6, 7, 8, 9, 21, 22, 23], [0, 1, 2, 3, 4, 5, 6], [0, 2, 4], [0, 1, 4, 5, 6, 7, 8, 10, 14, 15, 16, 17, 18, 25, 26, 27, 28, 29, 46, 49, 50, 51, 52, 60], [0, 1, 2, 3, 4, 5], [0, 2, 3, 4, 5, 6, 9, 14], [0, 2], [0, 1, 2, 3, 4, 6, 7, 8, 10, 18, 40, 41, 42, 43], [0, 1, 4, 5, 6, 7, 14, 18], [0, 1, 4, 5, 6, 7, 12, 16, 22], [0, 1, 4, 5, 6, 8, 9, 18, 30], [0, 1, 4, 5, 6, 7, 8, 13, 22], [0, 1, 4, 7], [0, 1, 4], [0, 1, 2, 6, 7, 8, 15, 19, 27], [0, 1, 2, 6, 7, 19, 28], [0], [0], [0, 2, 3, 9], [0, 2, 4], [0, 1, 4], [0, 1, 2, 3, 4, 5, 7, 9, 10, 12, 13, 14, 19, 23, 24, 25, 26, 42, 43, 44, 45, 48, 49, 50, 51, 79], [0, 1, 4, 5, 10, 12, 13, 14, 24], [0], [0, 1, 2, 6, 7, 8, 9, 10, 11, 12, 13, 20, 27, 28, 29, 30, 42, 43, 44, 45, 46, 50, 58, 69], [0, 2, 3, 5], [0, 1, 2, 6, 7, 11, 31], [0, 1, 2, 3, 4, 5, 6], [0, 1, 2, 4, 5, 6, 7, 8, 9], [0, 1, 4, 5, 16], [0, 1, 4, 5, 6, 7, 8, 9, 15, 20, 37], [0, 1, 2, 6, 7, 8, 11, 15, 19, 33, 36, 49, 63, 75], [0, 2, 3, 4, 5, 7, 8, 14, 15, 19], [0, 1, 4, 5, 11], [0, 2, 3, 4, 5, 9, 10, 12, 13], [0, 1, 2, 3], [0, 1, 2, 6], [0, 1, 2, 3, 5, 6, 7, 8, 9, 17, 21], [0, 1, 3], [0, 1, 4, 5, 16], [0, 2, 3, 4, 5, 6, 7, 14, 20, 38, 59], [0, 1, 3], [0, 1, 2, 3, 4, 6, 7, 9, 13, 18, 19, 20, 25, 26, 27, 28, 43], [0, 1, 2, 3, 4, 5, 8, 9, 13, 22, 23, 24, 25, 38], [0, 1, 4, 5, 6, 7, 8, 9, 10, 11, 12, 21, 23, 24, 25, 28, 29, 30, 52], [0, 1, 2, 6, 7, 8, 12, 20], [0, 1, 4, 5, 6, 7, 8, 9, 12], [0, 1, 2, 6, 7, 8, 9, 10, 11, 12, 13, 14, 20, 31, 36, 70, 85], [0, 2, 5], [0, 1, 4, 5, 7, 8, 9, 16], [0, 2], [0, 1, 2, 3, 4, 5, 8, 9, 10, 17, 28, 48, 63], [0, 1, 2, 6], [0, 1, 2, 6], [0, 1, 4, 5, 6, 10, 15, 21], [0, 1, 4, 5, 9, 17], [0, 2, 3, 4, 8], [0, 1, 2, 3, 4, 5, 6, 10, 11, 12, 16, 28, 29, 30, 31, 63], [0, 2, 4], [0, 2, 4], [0], [0], [0], [0], [0], [0], [0], [0], [0], [0], [0], [0], [0], [0], [0], [0, 2, 3], [0, 1, 4], [0, 2, 3], [0, 1, 4], [0], [], [], [], [], []]
def nthL : List (List Nat) → Nat → List Nat
  | [], _ => []
  | x :: _, 0 => x
  | _ :: l, n + 1 => nthL l n
def noFz (n : Nat) : Bool := Nat.beq n 94
def kn0 : Known := ⟨[], []⟩
theorem kn0_ok : KnOk Tryd.prog kn0 := KnOk.nil
def ka0 : List PV := [(.int .u64 31)]
def kr0 : PV := (.int .i64 0)
theorem k0 : FnP Tryd.prog 87 ka0 kr0 := runE_ok (doms := nthL domL) (fzr := noFz) (n := 6000) tab_ok mixed kn0_ok (by kernel_rfl)
def kn1 : Known := ⟨(87, ka0, kr0) :: kn0.p, kn0.i⟩
theorem kn1_ok : KnOk Tryd.prog kn1 := KnOk.cons k0 kn0_ok
def ka1 : List PV := [(.int .u64 30)]
def kr1 : PV := (.int .i64 1)
theorem k1 : FnP Tryd.prog 87 ka1 kr1 := runE_ok (doms := nthL domL) (fzr := noFz) (n := 6000) tab_ok mixed kn1_ok (by kernel_rfl)
def kn2 : Known := ⟨(87, ka1, kr1) :: kn1.p, kn1.i⟩
theorem kn2_ok : KnOk Tryd.prog kn2 := KnOk.cons k1 kn1_ok
def ka2 : List PV := [(.int .u64 29)]
def kr2 : PV := (.int .i64 0)
theorem k2 : FnP Tryd.prog 87 ka2 kr2 := runE_ok (doms := nthL domL) (fzr := noFz) (n := 6000) tab_ok mixed kn2_ok (by kernel_rfl)
def kn3 : Known := ⟨(87, ka2, kr2) :: kn2.p, kn2.i⟩
theorem kn3_ok : KnOk Tryd.prog kn3 := KnOk.cons k2 kn2_ok
def ka3 : List PV := [(.int .u64 28)]
def kr3 : PV := (.int .i64 2)
theorem k3 : FnP Tryd.prog 87 ka3 kr3 := runE_ok (doms := nthL domL) (fzr := noFz) (n := 6000) tab_ok mixed kn3_ok (by kernel_rfl)
def kn4 : Known := ⟨(87, ka3, kr3) :: kn3.p, kn3.i⟩
theorem kn4_ok : KnOk Tryd.prog kn4 := KnOk.cons k3 kn3_ok
def ka4 : List PV := [(.int .u64 27)]
def kr4 : PV := (.int .i64 0)
theorem k4 : FnP Tryd.prog 87 ka4 kr4 := runE_ok (doms := nthL domL) (fzr := noFz) (n := 6000) tab_ok mixed kn4_ok (by kernel_rfl)
def kn5 : Known := ⟨(87, ka4, kr4) :: kn4.p, kn4.i⟩
theorem kn5_ok : KnOk Tryd.prog kn5 := KnOk.cons k4 kn4_ok
def ka5 : List PV := [(.int .u64 26)]
def kr5 : PV := (.int .i64 1)
theorem k5 : FnP Tryd.prog 87 ka5 kr5 := runE_ok (doms := nthL domL) (fzr := noFz) (n := 6000) tab_ok mixed kn5_ok (by kernel_rfl)
def kn6 : Known := ⟨(87, ka5, kr5) :: kn5.p, kn5.i⟩
theorem kn6_ok : KnOk Tryd.prog kn6 := KnOk.cons k5 kn5_ok
def ka6 : List PV := [(.int .u64 25)]
def kr6 : PV := (.int .i64 0)
theorem k6 : FnP Tryd.prog 87 ka6 kr6 := runE_ok (doms := nthL domL) (fzr := noFz) (n := 6000) tab_ok mixed kn6_ok (by kernel_rfl)
def kn7 : Known := ⟨(87, ka6, kr6) :: kn6.p, kn6.i⟩
theorem kn7_ok : KnOk Tryd.prog kn7 := KnOk.cons k6 kn6_ok
def ka7 : List PV := [(.int .u64 24)]
def kr7 : PV := (.int .i64 3)
theorem k7 : FnP Tryd.prog 87 ka7 kr7 := runE_ok (doms := nthL domL) (fzr := noFz) (n := 6000) tab_ok mixed kn7_ok (by kernel_rfl)
def kn8 : Known := ⟨(87, ka7, kr7) :: kn7.p, kn7.i⟩
theorem kn8_ok : KnOk Tryd.prog kn8 := KnOk.cons k7 kn7_ok
def ka8 : List PV := [(.int .u64 23)]
def kr8 : PV := (.int .i64 0)
theorem k8 : FnP Tryd.prog 87 ka8 kr8 := runE_ok (doms := nthL domL) (fzr := noFz) (n := 6000) tab_ok mixed kn8_ok (by kernel_rfl)
def kn9 : Known := ⟨(87, ka8, kr8) :: kn8.p, kn8.i⟩
theorem kn9_ok : KnOk Tryd.prog kn9 := KnOk.cons k8 kn8_ok
def ka9 : List PV := [(.int .u64 22)]
def kr9 : PV := (.int .i64 1)
theorem k9 : FnP Tryd.prog 87 ka9 kr9 := runE_ok (doms := nthL domL) (fzr := noFz) (n := 6000) tab_ok mixed kn9_ok (by kernel_rfl)
def kn10 : Known := ⟨(87, ka9, kr9) :: kn9.p, kn9.i⟩
theorem kn10_ok : KnOk Tryd.prog kn10 := KnOk.cons k9 kn9_ok
def ka10 : List PV := [(.int .u64 21)]
def kr10 : PV := (.int .i64 0)
theorem k10 : FnP Tryd.prog 87 ka10 kr10 := runE_ok (doms := nthL domL) (fzr := noFz) (n := 6000) tab_ok mixed kn10_ok (by kernel_rfl)
def kn11 : Known := ⟨(87, ka10, kr10) :: kn10.p, kn10.i⟩
theorem kn11_ok : KnOk Tryd.prog kn11 := KnOk.cons k10 kn10_ok
def ka11 : List PV := [(.int .u64 20)]
def kr11 : PV := (.int .i64 2)
theorem k11 : FnP Tryd.prog 87 ka11 kr11 := runE_ok (doms := nthL domL) (fzr := noFz) (n := 6000) tab_ok mixed kn11_ok (by kernel_rfl)
def kn12 : Known := ⟨(87, ka11, kr11) :: kn11.p, kn11.i⟩
theorem kn12_ok : KnOk Tryd.prog kn12 := KnOk.cons k11 kn11_ok
def ka12 : List PV := [(.int .u64 19)]
def kr12 : PV := (.int .i64 0)
theorem k12 : FnP Tryd.prog 87 ka12 kr12 := runE_ok (doms := nthL domL) (fzr := noFz) (n := 6000) tab_ok mixed kn12_ok (by kernel_rfl)
def kn13 : Known := ⟨(87, ka12, kr12) :: kn12.p, kn12.i⟩
theorem kn13_ok : KnOk Tryd.prog kn13 := KnOk.cons k12 kn12_ok
def ka13 : List PV := [(.int .u64 18)]
def kr13 : PV := (.int .i64 1)
theorem k13 : FnP Tryd.prog 87 ka13 kr13 := runE_ok (doms := nthL domL) (fzr := noFz) (n := 6000) tab_ok mixed kn13_ok (by kernel_rfl)
def kn14 : Known := ⟨(87, ka13, kr13) :: kn13.p, kn13.i⟩
theorem kn14_ok : KnOk Tryd.prog kn14 := KnOk.cons k13 kn13_ok
def ka14 : List PV := [(.int .u64 17)]
def kr14 : PV := (.int .i64 0)
theorem k14 : FnP Tryd.prog 87 ka14 kr14 := runE_ok (doms := nthL domL) (fzr := noFz) (n := 6000) tab_ok mixed kn14_ok (by kernel_rfl)
def kn15 : Known := ⟨(87, ka14, kr14) :: kn14.p, kn14.i⟩
theorem kn15_ok : KnOk Tryd.prog kn15 := KnOk.cons k14 kn14_ok
def ka15 : List PV := [(.int .u64 16)]
def kr15 : PV := (.int .i64 4)
theorem k15 : FnP Tryd.prog 87 ka15 kr15 := runE_ok (doms := nthL domL) (fzr := noFz) (n := 6000) tab_ok mixed kn15_ok (by kernel_rfl)
def kn16 : Known := ⟨(87, ka15, kr15) :: kn15.p, kn15.i⟩
theorem kn16_ok : KnOk Tryd.prog kn16 := KnOk.cons k15 kn15_ok
def ka16 : List PV := [(.int .u64 13)]
def kr16 : PV := (.int .i64 0)
theorem k16 : FnP Tryd.prog 87 ka16 kr16 := runE_ok (doms := nthL domL) (fzr := noFz) (n := 6000) tab_ok mixed kn16_ok (by kernel_rfl)
def kn17 : Known := ⟨(87, ka16, kr16) :: kn16.p, kn16.i⟩
theorem kn17_ok : KnOk Tryd.prog kn17 := KnOk.cons k16 kn16_ok
def ka17 : List PV := [(.int .u64 12)]
def kr17 : PV := (.int .i64 2)
theorem k17 : FnP Tryd.prog 87 ka17 kr17 := runE_ok (doms := nthL domL) (fzr := noFz) (n := 6000) tab_ok mixed kn17_ok (by kernel_rfl)
def kn18 : Known := ⟨(87, ka17, kr17) :: kn17.p, kn17.i⟩
theorem kn18_ok : KnOk Tryd.prog kn18 := KnOk.cons k17 kn17_ok
def ka18 : List PV := [(.int .u64 11)]
def kr18 : PV := (.int .i64 0)
theorem k18 : FnP Tryd.prog 87 ka18 kr18 := runE_ok (doms := nthL domL) (fzr := noFz) (n := 6000) tab_ok mixed kn18_ok (by kernel_rfl)
def kn19 : Known := ⟨(87, ka18, kr18) :: kn18.p, kn18.i⟩
theorem kn19_ok : KnOk Tryd.prog kn19 := KnOk.cons k18 kn18_ok
def ka19 : List PV := [(.int .u64 10)]
def kr19 : PV := (.int .i64 1)
theorem k19 : FnP Tryd.prog 87 ka19 kr19 := runE_ok (doms := nthL domL) (fzr := noFz) (n := 6000) tab_ok mixed kn19_ok (by kernel_rfl)
def kn20 : Known := ⟨(87, ka19, kr19) :: kn19.p, kn19.i⟩
theorem kn20_ok : KnOk Tryd.prog kn20 := KnOk.cons k19 kn19_ok
def ka20 : List PV := [(.int .u64 9)]
def kr20 : PV := (.int .i64 0)
theorem k20 : FnP Tryd.prog 87 ka20 kr20 := runE_ok (doms := nthL domL) (fzr := noFz) (n := 6000) tab_ok mixed kn20_ok (by kernel_rfl)
def kn21 : Known := ⟨(87, ka20, kr20) :: kn20.p, kn20.i⟩
theorem kn21_ok : KnOk Tryd.prog kn21 := KnOk.cons k20 kn20_ok
def ka21 : List PV := [(.int .u64 8)]
def kr21 : PV := (.int .i64 3)
theorem k21 : FnP Tryd.prog 87 ka21 kr21 := runE_ok (doms := nthL domL) (fzr := noFz) (n := 6000) tab_ok mixed kn21_ok (by kernel_rfl)
def kn22 : Known := ⟨(87, ka21, kr21) :: kn21.p, kn21.i⟩
theorem kn22_ok : KnOk Tryd.prog kn22 := KnOk.cons k21 kn21_ok
def ka22 : List PV := [(.int .u64 7)]
def kr22 : PV := (.int .i64 0)
theorem k22 : FnP Tryd.prog 87 ka22 kr22 := runE_ok (doms := nthL domL) (fzr := noFz) (n := 6000) tab_ok mixed kn22_ok (by kernel_rfl)
def kn23 : Known := ⟨(87, ka22, kr22) :: kn22.p, kn22.i⟩
theorem kn23_ok : KnOk Tryd.prog kn23 := KnOk.cons k22 kn22_ok
def ka23 : List PV := [(.int .u64 3)]
def kr23 : PV := (.int .i64 0)
theorem k23 : FnP Tryd.prog 87 ka23 kr23 := runE_ok (doms := nthL domL) (fzr := noFz) (n := 6000) tab_ok mixed kn23_ok (by kernel_rfl)
def kn24 : Known := ⟨(87, ka23, kr23) :: kn23.p, kn23.i⟩
theorem kn24_ok : KnOk Tryd.prog kn24 := KnOk.cons k23 kn23_ok
def ka24 : List PV := []
def kr24 : PV := (.lst true 1 [(.lst true 3 [(.int .i64 0), (.int .i64 1), (.int .i64 2)])])
theorem k24 : FnP Tryd.prog 53 ka24 kr24 := runE_ok (doms := nthL domL) (fzr := noFz) (n := 6000) tab_ok mixed kn24_ok (by kernel_rfl)
def kn25 : Known := ⟨(53, ka24, kr24) :: kn24.p, kn24.i⟩
theorem kn25_ok : KnOk Tryd.prog kn25 := KnOk.cons k24 kn24_ok
def ka25 : List PV := [(.int .u64 6)]
def kr25 : PV := (.int .i64 1)
theorem k25 : FnP Tryd.prog 87 ka25 kr25 := runE_ok (doms := nthL domL) (fzr := noFz) (n := 6000) tab_ok mixed kn25_ok (by kernel_rfl)
def kn26 : Known := ⟨(87, ka25, kr25) :: kn25.p, kn25.i⟩
theorem kn26_ok : KnOk Tryd.prog kn26 := KnOk.cons k25 kn25_ok
def ka26 : List PV := [(.int .u64 5)]
def kr26 : PV := (.int .i64 0)
theorem k26 : FnP Tryd.prog 87 ka26 kr26 := runE_ok (doms := nthL domL) (fzr := noFz) (n := 6000) tab_ok mixed kn26_ok (by kernel_rfl)
def kn27 : Known := ⟨(87, ka26, kr26) :: kn26.p, kn26.i⟩
theorem kn27_ok : KnOk Tryd.prog kn27 := KnOk.cons k26 kn26_ok
def ka27 : List PV := [(.int .u64 4)]
def kr27 : PV := (.int .i64 2)
theorem k27 : FnP Tryd.prog 87 ka27 kr27 := runE_ok (doms := nthL domL) (fzr := noFz) (n := 6000) tab_ok mixed kn27_ok (by kernel_rfl)
def kn28 : Known := ⟨(87, ka27, kr27) :: kn27.p, kn27.i⟩
theorem kn28_ok : KnOk Tryd.prog kn28 := KnOk.cons k27 kn27_ok
def ka28 : List PV := [(.int .u64 1)]
def kr28 : PV := (.int .i64 0)
theorem k28 : FnP Tryd.prog 87 ka28 kr28 := runE_ok (doms := nthL domL) (fzr := noFz) (n := 6000) tab_ok mixed kn28_ok (by kernel_rfl)
def kn29 : Known := ⟨(87, ka28, kr28) :: kn28.p, kn28.i⟩
theorem kn29_ok : KnOk Tryd.prog kn29 := KnOk.cons k28 kn28_ok
def ka29 : List PV := [(.int .u64 2)]
def kr29 : PV := (.int .i64 1)
theorem k29 : FnP Tryd.prog 87 ka29 kr29 := runE_ok (doms := nthL domL) (fzr := noFz) (n := 6000) tab_ok mixed kn29_ok (by kernel_rfl)
def kn30 : Known := ⟨(87, ka29, kr29) :: kn29.p, kn29.i⟩
theorem kn30_ok : KnOk Tryd.prog kn30 := KnOk.cons k29 kn29_ok
def ka30 : List PV := [(.int .i64 3), (.lst true 1 [(.lst true 3 [(.int .i64 0), (.int .i64 1), (.int .i64 2)])])]
def kr30 : PV := (.tup [(.int .i64 2), (.int .i64 0)])
theorem k30 : FnP Tryd.prog 25 ka30 kr30 := runE_ok (doms := nthL domL) (fzr := noFz) (n := 6000) tab_ok mixed kn30_ok (by kernel_rfl)
def kn31 : Known := ⟨(25, ka30, kr30) :: kn30.p, kn30.i⟩
theorem kn31_ok : KnOk Tryd.prog kn31 := KnOk.cons k30 kn30_ok
def ka31 : List PV := [(.int .u64 15)]
def kr31 : PV := (.int .i64 0)
theorem k31 : FnP Tryd.prog 87 ka31 kr31 := runE_ok (doms := nthL domL) (fzr := noFz) (n := 6000) tab_ok mixed kn31_ok (by kernel_rfl)
def kn32 : Known := ⟨(87, ka31, kr31) :: kn31.p, kn31.i⟩
theorem kn32_ok : KnOk Tryd.prog kn32 := KnOk.cons k31 kn31_ok
def ka32 : List PV := [(.int .u64 14)]
def kr32 : PV := (.int .i64 1)
theorem k32 : FnP Tryd.prog 87 ka32 kr32 := runE_ok (doms := nthL domL) (fzr := noFz) (n := 6000) tab_ok mixed kn32_ok (by kernel_rfl)
def kn33 : Known := ⟨(87, ka32, kr32) :: kn32.p, kn32.i⟩
theorem kn33_ok : KnOk Tryd.prog kn33 := KnOk.cons k32 kn32_ok
def ka33 : List PV := [(.int .i64 4), .nl]
def kr33 : PV := (.tup [(.int .i64 24), (.int .i64 0)])
theorem k33 : FnP Tryd.prog 25 ka33 kr33 := runE_ok (doms := nthL domL) (fzr := noFz) (n := 6000) tab_ok mixed kn33_ok (by kernel_rfl)
def kn34 : Known := ⟨(25, ka33, kr33) :: kn33.p, kn33.i⟩
theorem kn34_ok : KnOk Tryd.prog kn34 := KnOk.cons k33 kn33_ok
def ka34 : List PV := [(.int .i64 4)]
def kr34 : PV := (.lst false 4 [(.lst false 4 [(.int .i64 0), (.int .i64 1), (.int .i64 2), (.int .i64 3)]), (.lst false 4 [(.int .i64 1), (.int .i64 2), (.int .i64 3), (.int .i64 0)]), (.lst false 4 [(.int .i64 2), (.int .i64 3), (.int .i64 0), (.int .i64 1)]), (.lst false 4 [(.int .i64 3), (.int .i64 0), (.int .i64 1), (.int .i64 2)])])
theorem k34 : FnP Tryd.prog 42 ka34 kr34 := runE_ok (doms := nthL domL) (fzr := noFz) (n := 6000) tab_ok mixed kn34_ok (by kernel_rfl)
def kn35 : Known := ⟨(42, ka34, kr34) :: kn34.p, kn34.i⟩
theorem kn35_ok : KnOk Tryd.prog kn35 := KnOk.cons k34 kn34_ok
def ka35 : List PV := [(.int .i64 4), (.lst false 1 [(.lst false 4 [(.int .i64 0), (.int .i64 1), (.int .i64 2), (.int .i64 3)])])]
def kr35 : PV := (.tup [(.int .i64 9), (.int .i64 0)])
theorem k35 : FnP Tryd.prog 25 ka35 kr35 := runE_ok (doms := nthL domL) (fzr := noFz) (n := 6000) tab_ok mixed kn35_ok (by kernel_rfl)
def kn36 : Known := ⟨(25, ka35, kr35) :: kn35.p, kn35.i⟩
theorem kn36_ok : KnOk Tryd.prog kn36 := KnOk.cons k35 kn35_ok
end Go.Proofs.YtcaecfofgdogbaaDoor
