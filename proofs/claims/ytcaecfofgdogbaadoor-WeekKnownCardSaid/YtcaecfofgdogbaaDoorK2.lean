/-
  Runs on constants, each a contract: worked out by the executor in the kernel.
-/
import Derived.Test.YtcaecfofgdogbaaDoorK
namespace Go.Proofs.YtcaecfofgdogbaaDoor
open Go.V
set_option maxRecDepth 100000
def ka36 : List PV := [(.int .i64 4), (.lst false 4 [(.lst false 4 [(.int .i64 0), (.int .i64 1), (.int .i64 2), (.int .i64 3)]), (.lst false 4 [(.int .i64 1), (.int .i64 2), (.int .i64 3), (.int .i64 0)]), (.lst false 4 [(.int .i64 2), (.int .i64 3), (.int .i64 0), (.int .i64 1)]), (.lst false 4 [(.int .i64 3), (.int .i64 0), (.int .i64 1), (.int .i64 2)])])]
def kr36 : PV := (.tup [(.int .i64 0), (.int .i64 16)])
theorem k36 : FnP Tryd.prog 25 ka36 kr36 := runE_ok (doms := nthL domL) (fzr := noFz) (n := 6000) tab_ok mixed kn36_ok (by kernel_rfl)
def kn37 : Known := ⟨(25, ka36, kr36) :: kn36.p, kn36.i⟩
theorem kn37_ok : KnOk Tryd.prog kn37 := KnOk.cons k36 kn36_ok
def ka37 : List PV := [(.agg [(.int .i64 0), (.int .i64 1), (.int .i64 (-1)), (.int .i64 (-1)), (.int .i64 (-1)), (.int .i64 1), (.int .i64 0), (.int .i64 (-1)), (.int .i64 (-1)), (.int .i64 (-1)), (.int .i64 (-1)), (.int .i64 (-1)), (.int .i64 (-1)), (.int .i64 (-1)), (.int .i64 (-1)), (.int .i64 (-1)), (.int .i64 (-1)), (.int .i64 (-1)), (.int .i64 (-1)), (.int .i64 (-1)), (.int .i64 (-1)), (.int .i64 (-1)), (.int .i64 (-1)), (.int .i64 (-1)), (.int .i64 (-1))]), (.int .i64 2)]
def kr37 : PV := (.lst false 2 [(.lst false 2 [(.int .i64 0), (.int .i64 1)]), (.lst false 2 [(.int .i64 1), (.int .i64 0)])])
theorem k37 : FnP Tryd.prog 65 ka37 kr37 := runE_ok (doms := nthL domL) (fzr := noFz) (n := 6000) tab_ok mixed kn37_ok (by kernel_rfl)
def kn38 : Known := ⟨(65, ka37, kr37) :: kn37.p, kn37.i⟩
theorem kn38_ok : KnOk Tryd.prog kn38 := KnOk.cons k37 kn37_ok
def ka38 : List PV := [(.int .i64 2)]
def kr38 : PV := (.tup [(.lst false 2 [(.lst false 2 [(.int .i64 0), (.int .i64 1)]), (.lst false 2 [(.int .i64 1), (.int .i64 0)])]), (.int .i64 0)])
theorem k38 : FnP Tryd.prog 31 ka38 kr38 := runE_ok (doms := nthL domL) (fzr := noFz) (n := 6000) tab_ok mixed kn38_ok (by kernel_rfl)
def kn39 : Known := ⟨(31, ka38, kr38) :: kn38.p, kn38.i⟩
theorem kn39_ok : KnOk Tryd.prog kn39 := KnOk.cons k38 kn38_ok
def ka39 : List PV := [(.int .i64 2), .nl]
def kr39 : PV := (.tup [(.lst false 2 [(.lst false 2 [(.int .i64 0), (.int .i64 1)]), (.lst false 2 [(.int .i64 1), (.int .i64 0)])]), (.int .i64 0)])
theorem k39 : FnP Tryd.prog 47 ka39 kr39 := runE_ok (doms := nthL domL) (fzr := noFz) (n := 6000) tab_ok mixed kn39_ok (by kernel_rfl)
def kn40 : Known := ⟨(47, ka39, kr39) :: kn39.p, kn39.i⟩
theorem kn40_ok : KnOk Tryd.prog kn40 := KnOk.cons k39 kn39_ok
def ka40 : List PV := [(.int .i64 5)]
def kr40 : PV := (.lst false 5 [(.lst false 5 [(.int .i64 0), (.int .i64 1), (.int .i64 2), (.int .i64 3), (.int .i64 4)]), (.lst false 5 [(.int .i64 1), (.int .i64 2), (.int .i64 3), (.int .i64 4), (.int .i64 0)]), (.lst false 5 [(.int .i64 2), (.int .i64 3), (.int .i64 4), (.int .i64 0), (.int .i64 1)]), (.lst false 5 [(.int .i64 3), (.int .i64 4), (.int .i64 0), (.int .i64 1), (.int .i64 2)]), (.lst false 5 [(.int .i64 4), (.int .i64 0), (.int .i64 1), (.int .i64 2), (.int .i64 3)])])
theorem k40 : FnP Tryd.prog 42 ka40 kr40 := runE_ok (doms := nthL domL) (fzr := noFz) (n := 6000) tab_ok mixed kn40_ok (by kernel_rfl)
def kn41 : Known := ⟨(42, ka40, kr40) :: kn40.p, kn40.i⟩
theorem kn41_ok : KnOk Tryd.prog kn41 := KnOk.cons k40 kn40_ok
def ka41 : List D := [(.sl false 0 0 1 1), (.v (.int .u64 1)), (.v (.int .u64 1)), (.ptr 1 0), (.ptr 2 0), (.ptr 3 0), (.ptr 4 0)]
def ko41 : Obs := [(0, (.p [(.int .i64 0)])), (1, (.p [(.int .i64 5)])), (2, (.r [(.fn 78 [(.ptr 5 0)])])), (3, (.r [(.ptr 6 0)])), (4, (.r [(.fn 94 [(.ptr 1 0), (.ptr 2 0), (.ptr 3 0), (.ptr 4 0)])])), (5, (.p [(.int .i64 0)])), (6, (.p [(.int .i64 5), (.int .i64 0), (.int .i64 1), (.int .i64 2), (.int .i64 3), (.int .i64 4), (.int .i64 1), (.int .i64 2), (.int .i64 3), (.int .i64 4), (.int .i64 0), (.int .i64 2), (.int .i64 3), (.int .i64 4), (.int .i64 0), (.int .i64 1), (.int .i64 3), (.int .i64 4), (.int .i64 0), (.int .i64 1), (.int .i64 2), (.int .i64 4), (.int .i64 0), (.int .i64 1), (.int .i64 2), (.int .i64 3), (.int .u64 31), (.int .u64 31), (.int .u64 31), (.int .u64 31), (.int .u64 31), (.int .u64 31), (.int .u64 31), (.int .u64 31), (.int .u64 31), (.int .u64 31)]))]
def kr41 : D := (.v (.bool true))
def kq41 : Obs := [(0, (.p [(.int .i64 0)])), (1, (.p [(.int .i64 5)])), (2, (.r [(.fn 78 [(.ptr 5 0)])])), (3, (.r [(.ptr 6 0)])), (4, (.r [(.fn 94 [(.ptr 1 0), (.ptr 2 0), (.ptr 3 0), (.ptr 4 0)])])), (5, (.p [(.int .i64 3)])), (6, (.p [(.int .i64 5), (.int .i64 0), (.int .i64 1), (.int .i64 2), (.int .i64 3), (.int .i64 4), (.int .i64 1), (.int .i64 2), (.int .i64 3), (.int .i64 4), (.int .i64 0), (.int .i64 2), (.int .i64 3), (.int .i64 4), (.int .i64 0), (.int .i64 1), (.int .i64 3), (.int .i64 4), (.int .i64 0), (.int .i64 1), (.int .i64 2), (.int .i64 4), (.int .i64 0), (.int .i64 1), (.int .i64 2), (.int .i64 3), (.int .u64 31), (.int .u64 31), (.int .u64 31), (.int .u64 31), (.int .u64 31), (.int .u64 31), (.int .u64 31), (.int .u64 31), (.int .u64 31), (.int .u64 31)]))]
theorem k41 : Go.V.Fn Tryd.prog 94 7 ka41 ko41 (fun d ob' => d = kr41 ∧ ob' = kq41) := runI_ok (doms := nthL domL) (fzr := noFz) (n := 6000) tab_ok mixed kn41_ok (by kernel_rfl)
def kn42 : Known := ⟨kn41.p, ⟨94, 7, ka41, ko41, kr41, kq41⟩ :: kn41.i⟩
theorem kn42_ok : KnOk Tryd.prog kn42 := KnOk.consI k41 kn41_ok
def ka42 : List D := [(.sl false 0 0 1 1), (.v (.int .u64 2)), (.v (.int .u64 2)), (.ptr 1 0), (.ptr 2 0), (.ptr 3 0), (.ptr 4 0)]
def ko42 : Obs := [(0, (.p [(.int .i64 1)])), (1, (.p [(.int .i64 5)])), (2, (.r [(.fn 78 [(.ptr 5 0)])])), (3, (.r [(.ptr 6 0)])), (4, (.r [(.fn 94 [(.ptr 1 0), (.ptr 2 0), (.ptr 3 0), (.ptr 4 0)])])), (5, (.p [(.int .i64 3)])), (6, (.p [(.int .i64 5), (.int .i64 0), (.int .i64 1), (.int .i64 2), (.int .i64 3), (.int .i64 4), (.int .i64 1), (.int .i64 2), (.int .i64 3), (.int .i64 4), (.int .i64 0), (.int .i64 2), (.int .i64 3), (.int .i64 4), (.int .i64 0), (.int .i64 1), (.int .i64 3), (.int .i64 4), (.int .i64 0), (.int .i64 1), (.int .i64 2), (.int .i64 4), (.int .i64 0), (.int .i64 1), (.int .i64 2), (.int .i64 3), (.int .u64 31), (.int .u64 31), (.int .u64 31), (.int .u64 31), (.int .u64 31), (.int .u64 31), (.int .u64 31), (.int .u64 31), (.int .u64 31), (.int .u64 31)]))]
def kr42 : D := (.v (.bool true))
def kq42 : Obs := [(0, (.p [(.int .i64 1)])), (1, (.p [(.int .i64 5)])), (2, (.r [(.fn 78 [(.ptr 5 0)])])), (3, (.r [(.ptr 6 0)])), (4, (.r [(.fn 94 [(.ptr 1 0), (.ptr 2 0), (.ptr 3 0), (.ptr 4 0)])])), (5, (.p [(.int .i64 6)])), (6, (.p [(.int .i64 5), (.int .i64 0), (.int .i64 1), (.int .i64 2), (.int .i64 3), (.int .i64 4), (.int .i64 1), (.int .i64 2), (.int .i64 3), (.int .i64 4), (.int .i64 0), (.int .i64 2), (.int .i64 3), (.int .i64 4), (.int .i64 0), (.int .i64 1), (.int .i64 3), (.int .i64 4), (.int .i64 0), (.int .i64 1), (.int .i64 2), (.int .i64 4), (.int .i64 0), (.int .i64 1), (.int .i64 2), (.int .i64 3), (.int .u64 31), (.int .u64 31), (.int .u64 31), (.int .u64 31), (.int .u64 31), (.int .u64 31), (.int .u64 31), (.int .u64 31), (.int .u64 31), (.int .u64 31)]))]
theorem k42 : Go.V.Fn Tryd.prog 94 7 ka42 ko42 (fun d ob' => d = kr42 ∧ ob' = kq42) := runI_ok (doms := nthL domL) (fzr := noFz) (n := 6000) tab_ok mixed kn42_ok (by kernel_rfl)
def kn43 : Known := ⟨kn42.p, ⟨94, 7, ka42, ko42, kr42, kq42⟩ :: kn42.i⟩
theorem kn43_ok : KnOk Tryd.prog kn43 := KnOk.consI k42 kn42_ok
def ka43 : List D := [(.sl false 0 0 1 1), (.v (.int .u64 4)), (.v (.int .u64 4)), (.ptr 1 0), (.ptr 2 0), (.ptr 3 0), (.ptr 4 0)]
def ko43 : Obs := [(0, (.p [(.int .i64 2)])), (1, (.p [(.int .i64 5)])), (2, (.r [(.fn 78 [(.ptr 5 0)])])), (3, (.r [(.ptr 6 0)])), (4, (.r [(.fn 94 [(.ptr 1 0), (.ptr 2 0), (.ptr 3 0), (.ptr 4 0)])])), (5, (.p [(.int .i64 6)])), (6, (.p [(.int .i64 5), (.int .i64 0), (.int .i64 1), (.int .i64 2), (.int .i64 3), (.int .i64 4), (.int .i64 1), (.int .i64 2), (.int .i64 3), (.int .i64 4), (.int .i64 0), (.int .i64 2), (.int .i64 3), (.int .i64 4), (.int .i64 0), (.int .i64 1), (.int .i64 3), (.int .i64 4), (.int .i64 0), (.int .i64 1), (.int .i64 2), (.int .i64 4), (.int .i64 0), (.int .i64 1), (.int .i64 2), (.int .i64 3), (.int .u64 31), (.int .u64 31), (.int .u64 31), (.int .u64 31), (.int .u64 31), (.int .u64 31), (.int .u64 31), (.int .u64 31), (.int .u64 31), (.int .u64 31)]))]
def kr43 : D := (.v (.bool true))
def kq43 : Obs := [(0, (.p [(.int .i64 2)])), (1, (.p [(.int .i64 5)])), (2, (.r [(.fn 78 [(.ptr 5 0)])])), (3, (.r [(.ptr 6 0)])), (4, (.r [(.fn 94 [(.ptr 1 0), (.ptr 2 0), (.ptr 3 0), (.ptr 4 0)])])), (5, (.p [(.int .i64 9)])), (6, (.p [(.int .i64 5), (.int .i64 0), (.int .i64 1), (.int .i64 2), (.int .i64 3), (.int .i64 4), (.int .i64 1), (.int .i64 2), (.int .i64 3), (.int .i64 4), (.int .i64 0), (.int .i64 2), (.int .i64 3), (.int .i64 4), (.int .i64 0), (.int .i64 1), (.int .i64 3), (.int .i64 4), (.int .i64 0), (.int .i64 1), (.int .i64 2), (.int .i64 4), (.int .i64 0), (.int .i64 1), (.int .i64 2), (.int .i64 3), (.int .u64 31), (.int .u64 31), (.int .u64 31), (.int .u64 31), (.int .u64 31), (.int .u64 31), (.int .u64 31), (.int .u64 31), (.int .u64 31), (.int .u64 31)]))]
theorem k43 : Go.V.Fn Tryd.prog 94 7 ka43 ko43 (fun d ob' => d = kr43 ∧ ob' = kq43) := runI_ok (doms := nthL domL) (fzr := noFz) (n := 6000) tab_ok mixed kn43_ok (by kernel_rfl)
def kn44 : Known := ⟨kn43.p, ⟨94, 7, ka43, ko43, kr43, kq43⟩ :: kn43.i⟩
theorem kn44_ok : KnOk Tryd.prog kn44 := KnOk.consI k43 kn43_ok
def ka44 : List D := [(.sl false 0 0 1 1), (.v (.int .u64 8)), (.v (.int .u64 8)), (.ptr 1 0), (.ptr 2 0), (.ptr 3 0), (.ptr 4 0)]
def ko44 : Obs := [(0, (.p [(.int .i64 3)])), (1, (.p [(.int .i64 5)])), (2, (.r [(.fn 78 [(.ptr 5 0)])])), (3, (.r [(.ptr 6 0)])), (4, (.r [(.fn 94 [(.ptr 1 0), (.ptr 2 0), (.ptr 3 0), (.ptr 4 0)])])), (5, (.p [(.int .i64 9)])), (6, (.p [(.int .i64 5), (.int .i64 0), (.int .i64 1), (.int .i64 2), (.int .i64 3), (.int .i64 4), (.int .i64 1), (.int .i64 2), (.int .i64 3), (.int .i64 4), (.int .i64 0), (.int .i64 2), (.int .i64 3), (.int .i64 4), (.int .i64 0), (.int .i64 1), (.int .i64 3), (.int .i64 4), (.int .i64 0), (.int .i64 1), (.int .i64 2), (.int .i64 4), (.int .i64 0), (.int .i64 1), (.int .i64 2), (.int .i64 3), (.int .u64 31), (.int .u64 31), (.int .u64 31), (.int .u64 31), (.int .u64 31), (.int .u64 31), (.int .u64 31), (.int .u64 31), (.int .u64 31), (.int .u64 31)]))]
def kr44 : D := (.v (.bool true))
def kq44 : Obs := [(0, (.p [(.int .i64 3)])), (1, (.p [(.int .i64 5)])), (2, (.r [(.fn 78 [(.ptr 5 0)])])), (3, (.r [(.ptr 6 0)])), (4, (.r [(.fn 94 [(.ptr 1 0), (.ptr 2 0), (.ptr 3 0), (.ptr 4 0)])])), (5, (.p [(.int .i64 12)])), (6, (.p [(.int .i64 5), (.int .i64 0), (.int .i64 1), (.int .i64 2), (.int .i64 3), (.int .i64 4), (.int .i64 1), (.int .i64 2), (.int .i64 3), (.int .i64 4), (.int .i64 0), (.int .i64 2), (.int .i64 3), (.int .i64 4), (.int .i64 0), (.int .i64 1), (.int .i64 3), (.int .i64 4), (.int .i64 0), (.int .i64 1), (.int .i64 2), (.int .i64 4), (.int .i64 0), (.int .i64 1), (.int .i64 2), (.int .i64 3), (.int .u64 31), (.int .u64 31), (.int .u64 31), (.int .u64 31), (.int .u64 31), (.int .u64 31), (.int .u64 31), (.int .u64 31), (.int .u64 31), (.int .u64 31)]))]
theorem k44 : Go.V.Fn Tryd.prog 94 7 ka44 ko44 (fun d ob' => d = kr44 ∧ ob' = kq44) := runI_ok (doms := nthL domL) (fzr := noFz) (n := 6000) tab_ok mixed kn44_ok (by kernel_rfl)
def kn45 : Known := ⟨kn44.p, ⟨94, 7, ka44, ko44, kr44, kq44⟩ :: kn44.i⟩
theorem kn45_ok : KnOk Tryd.prog kn45 := KnOk.consI k44 kn44_ok
def ka45 : List D := [(.sl false 0 0 1 1), (.v (.int .u64 16)), (.v (.int .u64 16)), (.ptr 1 0), (.ptr 2 0), (.ptr 3 0), (.ptr 4 0)]
def ko45 : Obs := [(0, (.p [(.int .i64 4)])), (1, (.p [(.int .i64 5)])), (2, (.r [(.fn 78 [(.ptr 5 0)])])), (3, (.r [(.ptr 6 0)])), (4, (.r [(.fn 94 [(.ptr 1 0), (.ptr 2 0), (.ptr 3 0), (.ptr 4 0)])])), (5, (.p [(.int .i64 12)])), (6, (.p [(.int .i64 5), (.int .i64 0), (.int .i64 1), (.int .i64 2), (.int .i64 3), (.int .i64 4), (.int .i64 1), (.int .i64 2), (.int .i64 3), (.int .i64 4), (.int .i64 0), (.int .i64 2), (.int .i64 3), (.int .i64 4), (.int .i64 0), (.int .i64 1), (.int .i64 3), (.int .i64 4), (.int .i64 0), (.int .i64 1), (.int .i64 2), (.int .i64 4), (.int .i64 0), (.int .i64 1), (.int .i64 2), (.int .i64 3), (.int .u64 31), (.int .u64 31), (.int .u64 31), (.int .u64 31), (.int .u64 31), (.int .u64 31), (.int .u64 31), (.int .u64 31), (.int .u64 31), (.int .u64 31)]))]
def kr45 : D := (.v (.bool true))
def kq45 : Obs := [(0, (.p [(.int .i64 4)])), (1, (.p [(.int .i64 5)])), (2, (.r [(.fn 78 [(.ptr 5 0)])])), (3, (.r [(.ptr 6 0)])), (4, (.r [(.fn 94 [(.ptr 1 0), (.ptr 2 0), (.ptr 3 0), (.ptr 4 0)])])), (5, (.p [(.int .i64 15)])), (6, (.p [(.int .i64 5), (.int .i64 0), (.int .i64 1), (.int .i64 2), (.int .i64 3), (.int .i64 4), (.int .i64 1), (.int .i64 2), (.int .i64 3), (.int .i64 4), (.int .i64 0), (.int .i64 2), (.int .i64 3), (.int .i64 4), (.int .i64 0), (.int .i64 1), (.int .i64 3), (.int .i64 4), (.int .i64 0), (.int .i64 1), (.int .i64 2), (.int .i64 4), (.int .i64 0), (.int .i64 1), (.int .i64 2), (.int .i64 3), (.int .u64 31), (.int .u64 31), (.int .u64 31), (.int .u64 31), (.int .u64 31), (.int .u64 31), (.int .u64 31), (.int .u64 31), (.int .u64 31), (.int .u64 31)]))]
theorem k45 : Go.V.Fn Tryd.prog 94 7 ka45 ko45 (fun d ob' => d = kr45 ∧ ob' = kq45) := runI_ok (doms := nthL domL) (fzr := noFz) (n := 6000) tab_ok mixed kn45_ok (by kernel_rfl)
def kn46 : Known := ⟨kn45.p, ⟨94, 7, ka45, ko45, kr45, kq45⟩ :: kn45.i⟩
theorem kn46_ok : KnOk Tryd.prog kn46 := KnOk.consI k45 kn45_ok
def ka46 : List PV := [(.int .i64 5), (.lst false 5 [(.lst false 5 [(.int .i64 0), (.int .i64 1), (.int .i64 2), (.int .i64 3), (.int .i64 4)]), (.lst false 5 [(.int .i64 1), (.int .i64 2), (.int .i64 3), (.int .i64 4), (.int .i64 0)]), (.lst false 5 [(.int .i64 2), (.int .i64 3), (.int .i64 4), (.int .i64 0), (.int .i64 1)]), (.lst false 5 [(.int .i64 3), (.int .i64 4), (.int .i64 0), (.int .i64 1), (.int .i64 2)]), (.lst false 5 [(.int .i64 4), (.int .i64 0), (.int .i64 1), (.int .i64 2), (.int .i64 3)])])]
def kr46 : PV := (.tup [(.int .i64 15), (.int .i64 0)])
theorem k46 : FnP Tryd.prog 35 ka46 kr46 := runE_ok (doms := nthL domL) (fzr := noFz) (n := 6000) tab_ok mixed kn46_ok (by kernel_rfl)
def kn47 : Known := ⟨(35, ka46, kr46) :: kn46.p, kn46.i⟩
theorem kn47_ok : KnOk Tryd.prog kn47 := KnOk.cons k46 kn46_ok
def ka47 : List D := [(.sl false 0 0 1 1), (.v (.int .u64 1)), (.v (.int .u64 1)), (.ptr 1 0), (.ptr 2 0), (.ptr 3 0), (.ptr 4 0)]
def ko47 : Obs := [(0, (.p [(.int .i64 0)])), (1, (.p [(.int .i64 4)])), (2, (.r [(.fn 78 [(.ptr 5 0)])])), (3, (.r [(.ptr 6 0)])), (4, (.r [(.fn 94 [(.ptr 1 0), (.ptr 2 0), (.ptr 3 0), (.ptr 4 0)])])), (5, (.p [(.int .i64 0)])), (6, (.p [(.int .i64 4), (.int .i64 0), (.int .i64 1), (.int .i64 2), (.int .i64 3), (.int .i64 (-1)), (.int .i64 1), (.int .i64 2), (.int .i64 3), (.int .i64 0), (.int .i64 (-1)), (.int .i64 2), (.int .i64 3), (.int .i64 0), (.int .i64 1), (.int .i64 (-1)), (.int .i64 3), (.int .i64 0), (.int .i64 1), (.int .i64 2), (.int .i64 (-1)), (.int .i64 (-1)), (.int .i64 (-1)), (.int .i64 (-1)), (.int .i64 (-1)), (.int .i64 (-1)), (.int .u64 15), (.int .u64 15), (.int .u64 15), (.int .u64 15), (.int .u64 0), (.int .u64 15), (.int .u64 15), (.int .u64 15), (.int .u64 15), (.int .u64 0)]))]
def kr47 : D := (.v (.bool true))
def kq47 : Obs := [(0, (.p [(.int .i64 0)])), (1, (.p [(.int .i64 4)])), (2, (.r [(.fn 78 [(.ptr 5 0)])])), (3, (.r [(.ptr 6 0)])), (4, (.r [(.fn 94 [(.ptr 1 0), (.ptr 2 0), (.ptr 3 0), (.ptr 4 0)])])), (5, (.p [(.int .i64 0)])), (6, (.p [(.int .i64 4), (.int .i64 0), (.int .i64 1), (.int .i64 2), (.int .i64 3), (.int .i64 (-1)), (.int .i64 1), (.int .i64 2), (.int .i64 3), (.int .i64 0), (.int .i64 (-1)), (.int .i64 2), (.int .i64 3), (.int .i64 0), (.int .i64 1), (.int .i64 (-1)), (.int .i64 3), (.int .i64 0), (.int .i64 1), (.int .i64 2), (.int .i64 (-1)), (.int .i64 (-1)), (.int .i64 (-1)), (.int .i64 (-1)), (.int .i64 (-1)), (.int .i64 (-1)), (.int .u64 15), (.int .u64 15), (.int .u64 15), (.int .u64 15), (.int .u64 0), (.int .u64 15), (.int .u64 15), (.int .u64 15), (.int .u64 15), (.int .u64 0)]))]
theorem k47 : Go.V.Fn Tryd.prog 94 7 ka47 ko47 (fun d ob' => d = kr47 ∧ ob' = kq47) := runI_ok (doms := nthL domL) (fzr := noFz) (n := 6000) tab_ok mixed kn47_ok (by kernel_rfl)
def kn48 : Known := ⟨kn47.p, ⟨94, 7, ka47, ko47, kr47, kq47⟩ :: kn47.i⟩
theorem kn48_ok : KnOk Tryd.prog kn48 := KnOk.consI k47 kn47_ok
def ka48 : List D := [(.sl false 0 0 1 1), (.v (.int .u64 2)), (.v (.int .u64 2)), (.ptr 1 0), (.ptr 2 0), (.ptr 3 0), (.ptr 4 0)]
def ko48 : Obs := [(0, (.p [(.int .i64 1)])), (1, (.p [(.int .i64 4)])), (2, (.r [(.fn 78 [(.ptr 5 0)])])), (3, (.r [(.ptr 6 0)])), (4, (.r [(.fn 94 [(.ptr 1 0), (.ptr 2 0), (.ptr 3 0), (.ptr 4 0)])])), (5, (.p [(.int .i64 0)])), (6, (.p [(.int .i64 4), (.int .i64 0), (.int .i64 1), (.int .i64 2), (.int .i64 3), (.int .i64 (-1)), (.int .i64 1), (.int .i64 2), (.int .i64 3), (.int .i64 0), (.int .i64 (-1)), (.int .i64 2), (.int .i64 3), (.int .i64 0), (.int .i64 1), (.int .i64 (-1)), (.int .i64 3), (.int .i64 0), (.int .i64 1), (.int .i64 2), (.int .i64 (-1)), (.int .i64 (-1)), (.int .i64 (-1)), (.int .i64 (-1)), (.int .i64 (-1)), (.int .i64 (-1)), (.int .u64 15), (.int .u64 15), (.int .u64 15), (.int .u64 15), (.int .u64 0), (.int .u64 15), (.int .u64 15), (.int .u64 15), (.int .u64 15), (.int .u64 0)]))]
def kr48 : D := (.v (.bool true))
def kq48 : Obs := [(0, (.p [(.int .i64 1)])), (1, (.p [(.int .i64 4)])), (2, (.r [(.fn 78 [(.ptr 5 0)])])), (3, (.r [(.ptr 6 0)])), (4, (.r [(.fn 94 [(.ptr 1 0), (.ptr 2 0), (.ptr 3 0), (.ptr 4 0)])])), (5, (.p [(.int .i64 0)])), (6, (.p [(.int .i64 4), (.int .i64 0), (.int .i64 1), (.int .i64 2), (.int .i64 3), (.int .i64 (-1)), (.int .i64 1), (.int .i64 2), (.int .i64 3), (.int .i64 0), (.int .i64 (-1)), (.int .i64 2), (.int .i64 3), (.int .i64 0), (.int .i64 1), (.int .i64 (-1)), (.int .i64 3), (.int .i64 0), (.int .i64 1), (.int .i64 2), (.int .i64 (-1)), (.int .i64 (-1)), (.int .i64 (-1)), (.int .i64 (-1)), (.int .i64 (-1)), (.int .i64 (-1)), (.int .u64 15), (.int .u64 15), (.int .u64 15), (.int .u64 15), (.int .u64 0), (.int .u64 15), (.int .u64 15), (.int .u64 15), (.int .u64 15), (.int .u64 0)]))]
theorem k48 : Go.V.Fn Tryd.prog 94 7 ka48 ko48 (fun d ob' => d = kr48 ∧ ob' = kq48) := runI_ok (doms := nthL domL) (fzr := noFz) (n := 6000) tab_ok mixed kn48_ok (by kernel_rfl)
def kn49 : Known := ⟨kn48.p, ⟨94, 7, ka48, ko48, kr48, kq48⟩ :: kn48.i⟩
theorem kn49_ok : KnOk Tryd.prog kn49 := KnOk.consI k48 kn48_ok
def ka49 : List D := [(.sl false 0 0 1 1), (.v (.int .u64 4)), (.v (.int .u64 4)), (.ptr 1 0), (.ptr 2 0), (.ptr 3 0), (.ptr 4 0)]
def ko49 : Obs := [(0, (.p [(.int .i64 2)])), (1, (.p [(.int .i64 4)])), (2, (.r [(.fn 78 [(.ptr 5 0)])])), (3, (.r [(.ptr 6 0)])), (4, (.r [(.fn 94 [(.ptr 1 0), (.ptr 2 0), (.ptr 3 0), (.ptr 4 0)])])), (5, (.p [(.int .i64 0)])), (6, (.p [(.int .i64 4), (.int .i64 0), (.int .i64 1), (.int .i64 2), (.int .i64 3), (.int .i64 (-1)), (.int .i64 1), (.int .i64 2), (.int .i64 3), (.int .i64 0), (.int .i64 (-1)), (.int .i64 2), (.int .i64 3), (.int .i64 0), (.int .i64 1), (.int .i64 (-1)), (.int .i64 3), (.int .i64 0), (.int .i64 1), (.int .i64 2), (.int .i64 (-1)), (.int .i64 (-1)), (.int .i64 (-1)), (.int .i64 (-1)), (.int .i64 (-1)), (.int .i64 (-1)), (.int .u64 15), (.int .u64 15), (.int .u64 15), (.int .u64 15), (.int .u64 0), (.int .u64 15), (.int .u64 15), (.int .u64 15), (.int .u64 15), (.int .u64 0)]))]
def kr49 : D := (.v (.bool true))
def kq49 : Obs := [(0, (.p [(.int .i64 2)])), (1, (.p [(.int .i64 4)])), (2, (.r [(.fn 78 [(.ptr 5 0)])])), (3, (.r [(.ptr 6 0)])), (4, (.r [(.fn 94 [(.ptr 1 0), (.ptr 2 0), (.ptr 3 0), (.ptr 4 0)])])), (5, (.p [(.int .i64 0)])), (6, (.p [(.int .i64 4), (.int .i64 0), (.int .i64 1), (.int .i64 2), (.int .i64 3), (.int .i64 (-1)), (.int .i64 1), (.int .i64 2), (.int .i64 3), (.int .i64 0), (.int .i64 (-1)), (.int .i64 2), (.int .i64 3), (.int .i64 0), (.int .i64 1), (.int .i64 (-1)), (.int .i64 3), (.int .i64 0), (.int .i64 1), (.int .i64 2), (.int .i64 (-1)), (.int .i64 (-1)), (.int .i64 (-1)), (.int .i64 (-1)), (.int .i64 (-1)), (.int .i64 (-1)), (.int .u64 15), (.int .u64 15), (.int .u64 15), (.int .u64 15), (.int .u64 0), (.int .u64 15), (.int .u64 15), (.int .u64 15), (.int .u64 15), (.int .u64 0)]))]
theorem k49 : Go.V.Fn Tryd.prog 94 7 ka49 ko49 (fun d ob' => d = kr49 ∧ ob' = kq49) := runI_ok (doms := nthL domL) (fzr := noFz) (n := 6000) tab_ok mixed kn49_ok (by kernel_rfl)
def kn50 : Known := ⟨kn49.p, ⟨94, 7, ka49, ko49, kr49, kq49⟩ :: kn49.i⟩
theorem kn50_ok : KnOk Tryd.prog kn50 := KnOk.consI k49 kn49_ok
def ka50 : List D := [(.sl false 0 0 1 1), (.v (.int .u64 8)), (.v (.int .u64 8)), (.ptr 1 0), (.ptr 2 0), (.ptr 3 0), (.ptr 4 0)]
def ko50 : Obs := [(0, (.p [(.int .i64 3)])), (1, (.p [(.int .i64 4)])), (2, (.r [(.fn 78 [(.ptr 5 0)])])), (3, (.r [(.ptr 6 0)])), (4, (.r [(.fn 94 [(.ptr 1 0), (.ptr 2 0), (.ptr 3 0), (.ptr 4 0)])])), (5, (.p [(.int .i64 0)])), (6, (.p [(.int .i64 4), (.int .i64 0), (.int .i64 1), (.int .i64 2), (.int .i64 3), (.int .i64 (-1)), (.int .i64 1), (.int .i64 2), (.int .i64 3), (.int .i64 0), (.int .i64 (-1)), (.int .i64 2), (.int .i64 3), (.int .i64 0), (.int .i64 1), (.int .i64 (-1)), (.int .i64 3), (.int .i64 0), (.int .i64 1), (.int .i64 2), (.int .i64 (-1)), (.int .i64 (-1)), (.int .i64 (-1)), (.int .i64 (-1)), (.int .i64 (-1)), (.int .i64 (-1)), (.int .u64 15), (.int .u64 15), (.int .u64 15), (.int .u64 15), (.int .u64 0), (.int .u64 15), (.int .u64 15), (.int .u64 15), (.int .u64 15), (.int .u64 0)]))]
def kr50 : D := (.v (.bool true))
def kq50 : Obs := [(0, (.p [(.int .i64 3)])), (1, (.p [(.int .i64 4)])), (2, (.r [(.fn 78 [(.ptr 5 0)])])), (3, (.r [(.ptr 6 0)])), (4, (.r [(.fn 94 [(.ptr 1 0), (.ptr 2 0), (.ptr 3 0), (.ptr 4 0)])])), (5, (.p [(.int .i64 0)])), (6, (.p [(.int .i64 4), (.int .i64 0), (.int .i64 1), (.int .i64 2), (.int .i64 3), (.int .i64 (-1)), (.int .i64 1), (.int .i64 2), (.int .i64 3), (.int .i64 0), (.int .i64 (-1)), (.int .i64 2), (.int .i64 3), (.int .i64 0), (.int .i64 1), (.int .i64 (-1)), (.int .i64 3), (.int .i64 0), (.int .i64 1), (.int .i64 2), (.int .i64 (-1)), (.int .i64 (-1)), (.int .i64 (-1)), (.int .i64 (-1)), (.int .i64 (-1)), (.int .i64 (-1)), (.int .u64 15), (.int .u64 15), (.int .u64 15), (.int .u64 15), (.int .u64 0), (.int .u64 15), (.int .u64 15), (.int .u64 15), (.int .u64 15), (.int .u64 0)]))]
theorem k50 : Go.V.Fn Tryd.prog 94 7 ka50 ko50 (fun d ob' => d = kr50 ∧ ob' = kq50) := runI_ok (doms := nthL domL) (fzr := noFz) (n := 6000) tab_ok mixed kn50_ok (by kernel_rfl)
def kn51 : Known := ⟨kn50.p, ⟨94, 7, ka50, ko50, kr50, kq50⟩ :: kn50.i⟩
theorem kn51_ok : KnOk Tryd.prog kn51 := KnOk.consI k50 kn50_ok
def ka51 : List PV := [(.int .i64 4), (.lst false 4 [(.lst false 4 [(.int .i64 0), (.int .i64 1), (.int .i64 2), (.int .i64 3)]), (.lst false 4 [(.int .i64 1), (.int .i64 2), (.int .i64 3), (.int .i64 0)]), (.lst false 4 [(.int .i64 2), (.int .i64 3), (.int .i64 0), (.int .i64 1)]), (.lst false 4 [(.int .i64 3), (.int .i64 0), (.int .i64 1), (.int .i64 2)])])]
def kr51 : PV := (.tup [(.int .i64 0), (.int .i64 0)])
theorem k51 : FnP Tryd.prog 35 ka51 kr51 := runE_ok (doms := nthL domL) (fzr := noFz) (n := 6000) tab_ok mixed kn51_ok (by kernel_rfl)
def kn52 : Known := ⟨(35, ka51, kr51) :: kn51.p, kn51.i⟩
theorem kn52_ok : KnOk Tryd.prog kn52 := KnOk.cons k51 kn51_ok
def ka52 : List PV := [(.lst false 2 [(.int .i64 0), (.int .i64 1)]), (.lst false 2 [(.int .i64 0), (.int .i64 1)])]
def kr52 : PV := (.bool true)
theorem k52 : FnP Tryd.prog 22 ka52 kr52 := runE_ok (doms := nthL domL) (fzr := noFz) (n := 6000) tab_ok mixed kn52_ok (by kernel_rfl)
def kn53 : Known := ⟨(22, ka52, kr52) :: kn52.p, kn52.i⟩
theorem kn53_ok : KnOk Tryd.prog kn53 := KnOk.cons k52 kn52_ok
def ka53 : List PV := [(.lst false 2 [(.int .i64 1), (.int .i64 0)]), (.lst false 2 [(.int .i64 1), (.int .i64 0)])]
def kr53 : PV := (.bool true)
theorem k53 : FnP Tryd.prog 22 ka53 kr53 := runE_ok (doms := nthL domL) (fzr := noFz) (n := 6000) tab_ok mixed kn53_ok (by kernel_rfl)
def kn54 : Known := ⟨(22, ka53, kr53) :: kn53.p, kn53.i⟩
theorem kn54_ok : KnOk Tryd.prog kn54 := KnOk.cons k53 kn53_ok
def ka54 : List PV := [(.lst false 2 [(.lst false 2 [(.int .i64 0), (.int .i64 1)]), (.lst false 2 [(.int .i64 1), (.int .i64 0)])]), (.lst false 2 [(.lst false 2 [(.int .i64 0), (.int .i64 1)]), (.lst false 2 [(.int .i64 1), (.int .i64 0)])])]
def kr54 : PV := (.bool true)
theorem k54 : FnP Tryd.prog 21 ka54 kr54 := runE_ok (doms := nthL domL) (fzr := noFz) (n := 6000) tab_ok mixed kn54_ok (by kernel_rfl)
def kn55 : Known := ⟨(21, ka54, kr54) :: kn54.p, kn54.i⟩
theorem kn55_ok : KnOk Tryd.prog kn55 := KnOk.cons k54 kn54_ok
def ka55 : List PV := []
def kr55 : PV := (.lst true 2 [(.lst true 2 [(.int .i64 0), (.int .i64 1)]), (.lst true 2 [(.int .i64 1), (.int .i64 0)])])
theorem k55 : FnP Tryd.prog 54 ka55 kr55 := runE_ok (doms := nthL domL) (fzr := noFz) (n := 6000) tab_ok mixed kn55_ok (by kernel_rfl)
def kn56 : Known := ⟨(54, ka55, kr55) :: kn55.p, kn55.i⟩
theorem kn56_ok : KnOk Tryd.prog kn56 := KnOk.cons k55 kn55_ok
def ka56 : List PV := [(.int .i64 3), (.lst true 2 [(.lst true 2 [(.int .i64 0), (.int .i64 1)]), (.lst true 2 [(.int .i64 1), (.int .i64 0)])]), (.int .i64 3)]
def kr56 : PV := (.int .i64 2)
theorem k56 : FnP Tryd.prog 51 ka56 kr56 := runE_ok (doms := nthL domL) (fzr := noFz) (n := 6000) tab_ok mixed kn56_ok (by kernel_rfl)
def kn57 : Known := ⟨(51, ka56, kr56) :: kn56.p, kn56.i⟩
theorem kn57_ok : KnOk Tryd.prog kn57 := KnOk.cons k56 kn56_ok
def ka57 : List PV := [(.int .i64 6), .nl]
def kr57 : PV := (.int .i64 1)
theorem k57 : FnP Tryd.prog 49 ka57 kr57 := runE_ok (doms := nthL domL) (fzr := noFz) (n := 6000) tab_ok mixed kn57_ok (by kernel_rfl)
def kn58 : Known := ⟨(49, ka57, kr57) :: kn57.p, kn57.i⟩
theorem kn58_ok : KnOk Tryd.prog kn58 := KnOk.cons k57 kn57_ok
def ka58 : List PV := [(.int .u64 6)]
def kr58 : PV := (.lst false 2 [(.int .i64 1), (.int .i64 2)])
theorem k58 : FnP Tryd.prog 62 ka58 kr58 := runE_ok (doms := nthL domL) (fzr := noFz) (n := 6000) tab_ok mixed kn58_ok (by kernel_rfl)
def kn59 : Known := ⟨(62, ka58, kr58) :: kn58.p, kn58.i⟩
theorem kn59_ok : KnOk Tryd.prog kn59 := KnOk.cons k58 kn58_ok
def ka59 : List PV := [(.int .u64 5)]
def kr59 : PV := (.lst false 2 [(.int .i64 0), (.int .i64 2)])
theorem k59 : FnP Tryd.prog 62 ka59 kr59 := runE_ok (doms := nthL domL) (fzr := noFz) (n := 6000) tab_ok mixed kn59_ok (by kernel_rfl)
def kn60 : Known := ⟨(62, ka59, kr59) :: kn59.p, kn59.i⟩
theorem kn60_ok : KnOk Tryd.prog kn60 := KnOk.cons k59 kn59_ok
def ka60 : List PV := [(.int .u64 3)]
def kr60 : PV := (.lst false 2 [(.int .i64 0), (.int .i64 1)])
theorem k60 : FnP Tryd.prog 62 ka60 kr60 := runE_ok (doms := nthL domL) (fzr := noFz) (n := 6000) tab_ok mixed kn60_ok (by kernel_rfl)
def kn61 : Known := ⟨(62, ka60, kr60) :: kn60.p, kn60.i⟩
theorem kn61_ok : KnOk Tryd.prog kn61 := KnOk.cons k60 kn60_ok
def ka61 : List PV := [(.int .i64 3), (.lst true 1 [(.lst true 3 [(.int .i64 0), (.int .i64 1), (.int .i64 2)])])]
def kr61 : PV := (.tup [(.lst false 3 [(.lst false 2 [(.int .i64 1), (.int .i64 2)]), (.lst false 2 [(.int .i64 0), (.int .i64 2)]), (.lst false 2 [(.int .i64 0), (.int .i64 1)])]), (.int .i64 0)])
theorem k61 : FnP Tryd.prog 17 ka61 kr61 := runE_ok (doms := nthL domL) (fzr := noFz) (n := 6000) tab_ok mixed kn61_ok (by kernel_rfl)
def kn62 : Known := ⟨(17, ka61, kr61) :: kn61.p, kn61.i⟩
theorem kn62_ok : KnOk Tryd.prog kn62 := KnOk.cons k61 kn61_ok
def ka62 : List PV := [(.agg [(.int .i64 0), (.int .i64 1), (.int .i64 2), (.int .i64 (-1)), (.int .i64 (-1)), (.int .i64 1), (.int .i64 2), (.int .i64 0), (.int .i64 (-1)), (.int .i64 (-1)), (.int .i64 (-1)), (.int .i64 (-1)), (.int .i64 (-1)), (.int .i64 (-1)), (.int .i64 (-1)), (.int .i64 (-1)), (.int .i64 (-1)), (.int .i64 (-1)), (.int .i64 (-1)), (.int .i64 (-1)), (.int .i64 (-1)), (.int .i64 (-1)), (.int .i64 (-1)), (.int .i64 (-1)), (.int .i64 (-1))]), (.int .i64 3)]
def kr62 : PV := (.lst false 3 [(.lst false 3 [(.int .i64 0), (.int .i64 1), (.int .i64 2)]), (.lst false 3 [(.int .i64 1), (.int .i64 2), (.int .i64 0)]), (.lst false 3 [(.int .i64 (-1)), (.int .i64 (-1)), (.int .i64 (-1))])])
theorem k62 : FnP Tryd.prog 65 ka62 kr62 := runE_ok (doms := nthL domL) (fzr := noFz) (n := 6000) tab_ok mixed kn62_ok (by kernel_rfl)
def kn63 : Known := ⟨(65, ka62, kr62) :: kn62.p, kn62.i⟩
theorem kn63_ok : KnOk Tryd.prog kn63 := KnOk.cons k62 kn62_ok
def ka63 : List PV := [(.int .i64 3), (.lst true 1 [(.lst true 3 [(.int .i64 0), (.int .i64 1), (.int .i64 2)])])]
def kr63 : PV := (.tup [(.lst false 3 [(.int .i64 1), (.int .i64 2), (.int .i64 0)]), (.int .i64 0)])
theorem k63 : FnP Tryd.prog 19 ka63 kr63 := runE_ok (doms := nthL domL) (fzr := noFz) (n := 6000) tab_ok mixed kn63_ok (by kernel_rfl)
def kn64 : Known := ⟨(19, ka63, kr63) :: kn63.p, kn63.i⟩
theorem kn64_ok : KnOk Tryd.prog kn64 := KnOk.cons k63 kn63_ok
def ka64 : List PV := [(.int .i64 4), (.lst false 2 [(.lst false 4 [(.int .i64 0), (.int .i64 1), (.int .i64 2), (.int .i64 3)]), (.lst false 4 [(.int .i64 1), (.int .i64 2), (.int .i64 3), (.int .i64 0)])])]
def kr64 : PV := (.tup [(.int .i64 2), (.int .i64 0)])
theorem k64 : FnP Tryd.prog 25 ka64 kr64 := runE_ok (doms := nthL domL) (fzr := noFz) (n := 6000) tab_ok mixed kn64_ok (by kernel_rfl)
def kn65 : Known := ⟨(25, ka64, kr64) :: kn64.p, kn64.i⟩
theorem kn65_ok : KnOk Tryd.prog kn65 := KnOk.cons k64 kn64_ok
def ka65 : List PV := [(.agg [(.int .i64 0), (.int .i64 1), (.int .i64 2), (.int .i64 (-1)), (.int .i64 (-1)), (.int .i64 1), (.int .i64 2), (.int .i64 0), (.int .i64 (-1)), (.int .i64 (-1)), (.int .i64 2), (.int .i64 0), (.int .i64 1), (.int .i64 (-1)), (.int .i64 (-1)), (.int .i64 (-1)), (.int .i64 (-1)), (.int .i64 (-1)), (.int .i64 (-1)), (.int .i64 (-1)), (.int .i64 (-1)), (.int .i64 (-1)), (.int .i64 (-1)), (.int .i64 (-1)), (.int .i64 (-1))]), (.int .i64 3)]
def kr65 : PV := (.lst false 3 [(.lst false 3 [(.int .i64 0), (.int .i64 1), (.int .i64 2)]), (.lst false 3 [(.int .i64 1), (.int .i64 2), (.int .i64 0)]), (.lst false 3 [(.int .i64 2), (.int .i64 0), (.int .i64 1)])])
theorem k65 : FnP Tryd.prog 65 ka65 kr65 := runE_ok (doms := nthL domL) (fzr := noFz) (n := 6000) tab_ok mixed kn65_ok (by kernel_rfl)
def kn66 : Known := ⟨(65, ka65, kr65) :: kn65.p, kn65.i⟩
theorem kn66_ok : KnOk Tryd.prog kn66 := KnOk.cons k65 kn65_ok
end Go.Proofs.YtcaecfofgdogbaaDoor
