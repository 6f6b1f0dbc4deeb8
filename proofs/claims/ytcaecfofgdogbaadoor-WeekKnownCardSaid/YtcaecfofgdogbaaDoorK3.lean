/-
  Runs on constants, each a contract: worked out by the executor in the kernel.
-/
import Derived.Test.YtcaecfofgdogbaaDoorK2
namespace Go.Proofs.YtcaecfofgdogbaaDoor
open Go.V
set_option maxRecDepth 100000
def ka66 : List PV := [(.int .i64 3), (.lst true 1 [(.lst true 3 [(.int .i64 0), (.int .i64 1), (.int .i64 2)])])]
def kr66 : PV := (.tup [(.lst false 3 [(.lst false 3 [(.int .i64 0), (.int .i64 1), (.int .i64 2)]), (.lst false 3 [(.int .i64 1), (.int .i64 2), (.int .i64 0)]), (.lst false 3 [(.int .i64 2), (.int .i64 0), (.int .i64 1)])]), (.int .i64 0)])
theorem k66 : FnP Tryd.prog 29 ka66 kr66 := runE_ok (doms := nthL domL) (fzr := noFz) (n := 6000) tab_ok mixed kn66_ok (by kernel_rfl)
def kn67 : Known := ⟨(29, ka66, kr66) :: kn66.p, kn66.i⟩
theorem kn67_ok : KnOk Tryd.prog kn67 := KnOk.cons k66 kn66_ok
def ka67 : List PV := [(.int .i64 3), (.lst true 2 [(.lst true 2 [(.int .i64 0), (.int .i64 1)]), (.lst true 2 [(.int .i64 1), (.int .i64 0)])])]
def kr67 : PV := (.tup [(.int .i64 2), (.int .i64 0)])
theorem k67 : FnP Tryd.prog 45 ka67 kr67 := runE_ok (doms := nthL domL) (fzr := noFz) (n := 6000) tab_ok mixed kn67_ok (by kernel_rfl)
def kn68 : Known := ⟨(45, ka67, kr67) :: kn67.p, kn67.i⟩
theorem kn68_ok : KnOk Tryd.prog kn68 := KnOk.cons k67 kn67_ok
def ka68 : List PV := []
def kr68 : PV := (.lst true 2 [(.lst true 2 [(.int .i64 0), (.int .i64 1)]), (.lst true 2 [(.int .i64 1), (.int .i64 2)])])
theorem k68 : FnP Tryd.prog 60 ka68 kr68 := runE_ok (doms := nthL domL) (fzr := noFz) (n := 6000) tab_ok mixed kn68_ok (by kernel_rfl)
def kn69 : Known := ⟨(60, ka68, kr68) :: kn68.p, kn68.i⟩
theorem kn69_ok : KnOk Tryd.prog kn69 := KnOk.cons k68 kn68_ok
def ka69 : List PV := [(.int .i64 3), (.lst true 2 [(.lst true 2 [(.int .i64 0), (.int .i64 1)]), (.lst true 2 [(.int .i64 1), (.int .i64 2)])])]
def kr69 : PV := (.tup [(.lst false 3 [(.lst false 3 [(.int .i64 0), (.int .i64 1), (.int .i64 2)]), (.lst false 3 [(.int .i64 1), (.int .i64 2), (.int .i64 0)]), (.lst false 3 [(.int .i64 2), (.int .i64 0), (.int .i64 1)])]), (.int .i64 0)])
theorem k69 : FnP Tryd.prog 47 ka69 kr69 := runE_ok (doms := nthL domL) (fzr := noFz) (n := 6000) tab_ok mixed kn69_ok (by kernel_rfl)
def kn70 : Known := ⟨(47, ka69, kr69) :: kn69.p, kn69.i⟩
theorem kn70_ok : KnOk Tryd.prog kn70 := KnOk.cons k69 kn69_ok
def ka70 : List PV := [(.int .i64 3)]
def kr70 : PV := (.tup [(.lst false 3 [(.lst false 3 [(.int .i64 0), (.int .i64 1), (.int .i64 2)]), (.lst false 3 [(.int .i64 1), (.int .i64 2), (.int .i64 0)]), (.lst false 3 [(.int .i64 2), (.int .i64 0), (.int .i64 1)])]), (.int .i64 0)])
theorem k70 : FnP Tryd.prog 31 ka70 kr70 := runE_ok (doms := nthL domL) (fzr := noFz) (n := 6000) tab_ok mixed kn70_ok (by kernel_rfl)
def kn71 : Known := ⟨(31, ka70, kr70) :: kn70.p, kn70.i⟩
theorem kn71_ok : KnOk Tryd.prog kn71 := KnOk.cons k70 kn70_ok
def ka71 : List PV := [(.int .i64 3)]
def kr71 : PV := (.lst false 3 [(.lst false 3 [(.int .i64 0), (.int .i64 1), (.int .i64 2)]), (.lst false 3 [(.int .i64 1), (.int .i64 2), (.int .i64 0)]), (.lst false 3 [(.int .i64 2), (.int .i64 0), (.int .i64 1)])])
theorem k71 : FnP Tryd.prog 42 ka71 kr71 := runE_ok (doms := nthL domL) (fzr := noFz) (n := 6000) tab_ok mixed kn71_ok (by kernel_rfl)
def kn72 : Known := ⟨(42, ka71, kr71) :: kn71.p, kn71.i⟩
theorem kn72_ok : KnOk Tryd.prog kn72 := KnOk.cons k71 kn71_ok
def ka72 : List D := [(.sl false 0 0 1 1), (.v (.int .u64 1)), (.v (.int .u64 1)), (.ptr 1 0), (.ptr 2 0), (.ptr 3 0), (.ptr 4 0)]
def ko72 : Obs := [(0, (.p [(.int .i64 0)])), (1, (.p [(.int .i64 3)])), (2, (.r [(.fn 75 [(.ptr 5 0)])])), (3, (.r [(.ptr 6 0)])), (4, (.r [(.fn 94 [(.ptr 1 0), (.ptr 2 0), (.ptr 3 0), (.ptr 4 0)])])), (5, (.p [.nl])), (6, (.p [(.int .i64 3), (.int .i64 0), (.int .i64 1), (.int .i64 2), (.int .i64 (-1)), (.int .i64 (-1)), (.int .i64 1), (.int .i64 2), (.int .i64 0), (.int .i64 (-1)), (.int .i64 (-1)), (.int .i64 2), (.int .i64 0), (.int .i64 1), (.int .i64 (-1)), (.int .i64 (-1)), (.int .i64 (-1)), (.int .i64 (-1)), (.int .i64 (-1)), (.int .i64 (-1)), (.int .i64 (-1)), (.int .i64 (-1)), (.int .i64 (-1)), (.int .i64 (-1)), (.int .i64 (-1)), (.int .i64 (-1)), (.int .u64 7), (.int .u64 7), (.int .u64 7), (.int .u64 0), (.int .u64 0), (.int .u64 7), (.int .u64 7), (.int .u64 7), (.int .u64 0), (.int .u64 0)]))]
def kr72 : D := (.v (.bool false))
def kq72 : Obs := [(0, (.p [(.int .i64 0)])), (1, (.p [(.int .i64 3)])), (2, (.r [(.fn 75 [(.ptr 5 0)])])), (3, (.r [(.ptr 6 0)])), (4, (.r [(.fn 94 [(.ptr 1 0), (.ptr 2 0), (.ptr 3 0), (.ptr 4 0)])])), (5, (.r [(.sl false 7 0 3 1)])), (6, (.p [(.int .i64 3), (.int .i64 0), (.int .i64 1), (.int .i64 2), (.int .i64 (-1)), (.int .i64 (-1)), (.int .i64 1), (.int .i64 2), (.int .i64 0), (.int .i64 (-1)), (.int .i64 (-1)), (.int .i64 2), (.int .i64 0), (.int .i64 1), (.int .i64 (-1)), (.int .i64 (-1)), (.int .i64 (-1)), (.int .i64 (-1)), (.int .i64 (-1)), (.int .i64 (-1)), (.int .i64 (-1)), (.int .i64 (-1)), (.int .i64 (-1)), (.int .i64 (-1)), (.int .i64 (-1)), (.int .i64 (-1)), (.int .u64 7), (.int .u64 7), (.int .u64 7), (.int .u64 0), (.int .u64 0), (.int .u64 7), (.int .u64 7), (.int .u64 7), (.int .u64 0), (.int .u64 0)])), (7, (.p [(.int .i64 0), (.int .i64 1), (.int .i64 2)]))]
theorem k72 : Go.V.Fn Tryd.prog 94 7 ka72 ko72 (fun d ob' => d = kr72 ∧ ob' = kq72) := runI_ok (doms := nthL domL) (fzr := noFz) (n := 6000) tab_ok mixed kn72_ok (by kernel_rfl)
def kn73 : Known := ⟨kn72.p, ⟨94, 7, ka72, ko72, kr72, kq72⟩ :: kn72.i⟩
theorem kn73_ok : KnOk Tryd.prog kn73 := KnOk.consI k72 kn72_ok
def ka73 : List PV := [(.int .i64 3), (.lst false 3 [(.lst false 3 [(.int .i64 0), (.int .i64 1), (.int .i64 2)]), (.lst false 3 [(.int .i64 1), (.int .i64 2), (.int .i64 0)]), (.lst false 3 [(.int .i64 2), (.int .i64 0), (.int .i64 1)])])]
def kr73 : PV := (.tup [(.lst false 3 [(.int .i64 0), (.int .i64 1), (.int .i64 2)]), (.int .i64 0)])
theorem k73 : FnP Tryd.prog 33 ka73 kr73 := runE_ok (doms := nthL domL) (fzr := noFz) (n := 6000) tab_ok mixed kn73_ok (by kernel_rfl)
def kn74 : Known := ⟨(33, ka73, kr73) :: kn73.p, kn73.i⟩
theorem kn74_ok : KnOk Tryd.prog kn74 := KnOk.cons k73 kn73_ok
def ka74 : List D := [(.sl false 0 0 1 1), (.v (.int .u64 1)), (.v (.int .u64 1)), (.ptr 1 0), (.ptr 2 0), (.ptr 3 0), (.ptr 4 0)]
def ko74 : Obs := [(0, (.p [(.int .i64 0)])), (1, (.p [(.int .i64 3)])), (2, (.r [(.fn 78 [(.ptr 5 0)])])), (3, (.r [(.ptr 6 0)])), (4, (.r [(.fn 94 [(.ptr 1 0), (.ptr 2 0), (.ptr 3 0), (.ptr 4 0)])])), (5, (.p [(.int .i64 0)])), (6, (.p [(.int .i64 3), (.int .i64 0), (.int .i64 1), (.int .i64 2), (.int .i64 (-1)), (.int .i64 (-1)), (.int .i64 1), (.int .i64 2), (.int .i64 0), (.int .i64 (-1)), (.int .i64 (-1)), (.int .i64 2), (.int .i64 0), (.int .i64 1), (.int .i64 (-1)), (.int .i64 (-1)), (.int .i64 (-1)), (.int .i64 (-1)), (.int .i64 (-1)), (.int .i64 (-1)), (.int .i64 (-1)), (.int .i64 (-1)), (.int .i64 (-1)), (.int .i64 (-1)), (.int .i64 (-1)), (.int .i64 (-1)), (.int .u64 7), (.int .u64 7), (.int .u64 7), (.int .u64 0), (.int .u64 0), (.int .u64 7), (.int .u64 7), (.int .u64 7), (.int .u64 0), (.int .u64 0)]))]
def kr74 : D := (.v (.bool true))
def kq74 : Obs := [(0, (.p [(.int .i64 0)])), (1, (.p [(.int .i64 3)])), (2, (.r [(.fn 78 [(.ptr 5 0)])])), (3, (.r [(.ptr 6 0)])), (4, (.r [(.fn 94 [(.ptr 1 0), (.ptr 2 0), (.ptr 3 0), (.ptr 4 0)])])), (5, (.p [(.int .i64 1)])), (6, (.p [(.int .i64 3), (.int .i64 0), (.int .i64 1), (.int .i64 2), (.int .i64 (-1)), (.int .i64 (-1)), (.int .i64 1), (.int .i64 2), (.int .i64 0), (.int .i64 (-1)), (.int .i64 (-1)), (.int .i64 2), (.int .i64 0), (.int .i64 1), (.int .i64 (-1)), (.int .i64 (-1)), (.int .i64 (-1)), (.int .i64 (-1)), (.int .i64 (-1)), (.int .i64 (-1)), (.int .i64 (-1)), (.int .i64 (-1)), (.int .i64 (-1)), (.int .i64 (-1)), (.int .i64 (-1)), (.int .i64 (-1)), (.int .u64 7), (.int .u64 7), (.int .u64 7), (.int .u64 0), (.int .u64 0), (.int .u64 7), (.int .u64 7), (.int .u64 7), (.int .u64 0), (.int .u64 0)]))]
theorem k74 : Go.V.Fn Tryd.prog 94 7 ka74 ko74 (fun d ob' => d = kr74 ∧ ob' = kq74) := runI_ok (doms := nthL domL) (fzr := noFz) (n := 6000) tab_ok mixed kn74_ok (by kernel_rfl)
def kn75 : Known := ⟨kn74.p, ⟨94, 7, ka74, ko74, kr74, kq74⟩ :: kn74.i⟩
theorem kn75_ok : KnOk Tryd.prog kn75 := KnOk.consI k74 kn74_ok
def ka75 : List D := [(.sl false 0 0 1 1), (.v (.int .u64 2)), (.v (.int .u64 2)), (.ptr 1 0), (.ptr 2 0), (.ptr 3 0), (.ptr 4 0)]
def ko75 : Obs := [(0, (.p [(.int .i64 1)])), (1, (.p [(.int .i64 3)])), (2, (.r [(.fn 78 [(.ptr 5 0)])])), (3, (.r [(.ptr 6 0)])), (4, (.r [(.fn 94 [(.ptr 1 0), (.ptr 2 0), (.ptr 3 0), (.ptr 4 0)])])), (5, (.p [(.int .i64 1)])), (6, (.p [(.int .i64 3), (.int .i64 0), (.int .i64 1), (.int .i64 2), (.int .i64 (-1)), (.int .i64 (-1)), (.int .i64 1), (.int .i64 2), (.int .i64 0), (.int .i64 (-1)), (.int .i64 (-1)), (.int .i64 2), (.int .i64 0), (.int .i64 1), (.int .i64 (-1)), (.int .i64 (-1)), (.int .i64 (-1)), (.int .i64 (-1)), (.int .i64 (-1)), (.int .i64 (-1)), (.int .i64 (-1)), (.int .i64 (-1)), (.int .i64 (-1)), (.int .i64 (-1)), (.int .i64 (-1)), (.int .i64 (-1)), (.int .u64 7), (.int .u64 7), (.int .u64 7), (.int .u64 0), (.int .u64 0), (.int .u64 7), (.int .u64 7), (.int .u64 7), (.int .u64 0), (.int .u64 0)]))]
def kr75 : D := (.v (.bool true))
def kq75 : Obs := [(0, (.p [(.int .i64 1)])), (1, (.p [(.int .i64 3)])), (2, (.r [(.fn 78 [(.ptr 5 0)])])), (3, (.r [(.ptr 6 0)])), (4, (.r [(.fn 94 [(.ptr 1 0), (.ptr 2 0), (.ptr 3 0), (.ptr 4 0)])])), (5, (.p [(.int .i64 2)])), (6, (.p [(.int .i64 3), (.int .i64 0), (.int .i64 1), (.int .i64 2), (.int .i64 (-1)), (.int .i64 (-1)), (.int .i64 1), (.int .i64 2), (.int .i64 0), (.int .i64 (-1)), (.int .i64 (-1)), (.int .i64 2), (.int .i64 0), (.int .i64 1), (.int .i64 (-1)), (.int .i64 (-1)), (.int .i64 (-1)), (.int .i64 (-1)), (.int .i64 (-1)), (.int .i64 (-1)), (.int .i64 (-1)), (.int .i64 (-1)), (.int .i64 (-1)), (.int .i64 (-1)), (.int .i64 (-1)), (.int .i64 (-1)), (.int .u64 7), (.int .u64 7), (.int .u64 7), (.int .u64 0), (.int .u64 0), (.int .u64 7), (.int .u64 7), (.int .u64 7), (.int .u64 0), (.int .u64 0)]))]
theorem k75 : Go.V.Fn Tryd.prog 94 7 ka75 ko75 (fun d ob' => d = kr75 ∧ ob' = kq75) := runI_ok (doms := nthL domL) (fzr := noFz) (n := 6000) tab_ok mixed kn75_ok (by kernel_rfl)
def kn76 : Known := ⟨kn75.p, ⟨94, 7, ka75, ko75, kr75, kq75⟩ :: kn75.i⟩
theorem kn76_ok : KnOk Tryd.prog kn76 := KnOk.consI k75 kn75_ok
def ka76 : List D := [(.sl false 0 0 1 1), (.v (.int .u64 4)), (.v (.int .u64 4)), (.ptr 1 0), (.ptr 2 0), (.ptr 3 0), (.ptr 4 0)]
def ko76 : Obs := [(0, (.p [(.int .i64 2)])), (1, (.p [(.int .i64 3)])), (2, (.r [(.fn 78 [(.ptr 5 0)])])), (3, (.r [(.ptr 6 0)])), (4, (.r [(.fn 94 [(.ptr 1 0), (.ptr 2 0), (.ptr 3 0), (.ptr 4 0)])])), (5, (.p [(.int .i64 2)])), (6, (.p [(.int .i64 3), (.int .i64 0), (.int .i64 1), (.int .i64 2), (.int .i64 (-1)), (.int .i64 (-1)), (.int .i64 1), (.int .i64 2), (.int .i64 0), (.int .i64 (-1)), (.int .i64 (-1)), (.int .i64 2), (.int .i64 0), (.int .i64 1), (.int .i64 (-1)), (.int .i64 (-1)), (.int .i64 (-1)), (.int .i64 (-1)), (.int .i64 (-1)), (.int .i64 (-1)), (.int .i64 (-1)), (.int .i64 (-1)), (.int .i64 (-1)), (.int .i64 (-1)), (.int .i64 (-1)), (.int .i64 (-1)), (.int .u64 7), (.int .u64 7), (.int .u64 7), (.int .u64 0), (.int .u64 0), (.int .u64 7), (.int .u64 7), (.int .u64 7), (.int .u64 0), (.int .u64 0)]))]
def kr76 : D := (.v (.bool true))
def kq76 : Obs := [(0, (.p [(.int .i64 2)])), (1, (.p [(.int .i64 3)])), (2, (.r [(.fn 78 [(.ptr 5 0)])])), (3, (.r [(.ptr 6 0)])), (4, (.r [(.fn 94 [(.ptr 1 0), (.ptr 2 0), (.ptr 3 0), (.ptr 4 0)])])), (5, (.p [(.int .i64 3)])), (6, (.p [(.int .i64 3), (.int .i64 0), (.int .i64 1), (.int .i64 2), (.int .i64 (-1)), (.int .i64 (-1)), (.int .i64 1), (.int .i64 2), (.int .i64 0), (.int .i64 (-1)), (.int .i64 (-1)), (.int .i64 2), (.int .i64 0), (.int .i64 1), (.int .i64 (-1)), (.int .i64 (-1)), (.int .i64 (-1)), (.int .i64 (-1)), (.int .i64 (-1)), (.int .i64 (-1)), (.int .i64 (-1)), (.int .i64 (-1)), (.int .i64 (-1)), (.int .i64 (-1)), (.int .i64 (-1)), (.int .i64 (-1)), (.int .u64 7), (.int .u64 7), (.int .u64 7), (.int .u64 0), (.int .u64 0), (.int .u64 7), (.int .u64 7), (.int .u64 7), (.int .u64 0), (.int .u64 0)]))]
theorem k76 : Go.V.Fn Tryd.prog 94 7 ka76 ko76 (fun d ob' => d = kr76 ∧ ob' = kq76) := runI_ok (doms := nthL domL) (fzr := noFz) (n := 6000) tab_ok mixed kn76_ok (by kernel_rfl)
def kn77 : Known := ⟨kn76.p, ⟨94, 7, ka76, ko76, kr76, kq76⟩ :: kn76.i⟩
theorem kn77_ok : KnOk Tryd.prog kn77 := KnOk.consI k76 kn76_ok
def ka77 : List PV := [(.int .i64 3), (.lst false 3 [(.lst false 3 [(.int .i64 0), (.int .i64 1), (.int .i64 2)]), (.lst false 3 [(.int .i64 1), (.int .i64 2), (.int .i64 0)]), (.lst false 3 [(.int .i64 2), (.int .i64 0), (.int .i64 1)])])]
def kr77 : PV := (.tup [(.int .i64 3), (.int .i64 0)])
theorem k77 : FnP Tryd.prog 35 ka77 kr77 := runE_ok (doms := nthL domL) (fzr := noFz) (n := 6000) tab_ok mixed kn77_ok (by kernel_rfl)
def kn78 : Known := ⟨(35, ka77, kr77) :: kn77.p, kn77.i⟩
theorem kn78_ok : KnOk Tryd.prog kn78 := KnOk.cons k77 kn77_ok
def ka78 : List D := [(.sl false 0 0 1 1), (.v (.int .u64 1)), (.v (.int .u64 1)), (.ptr 1 0), (.ptr 2 0), (.ptr 3 0), (.ptr 4 0)]
def ko78 : Obs := [(0, (.p [(.int .i64 0)])), (1, (.p [(.int .i64 4)])), (2, (.r [(.fn 75 [(.ptr 5 0)])])), (3, (.r [(.ptr 6 0)])), (4, (.r [(.fn 94 [(.ptr 1 0), (.ptr 2 0), (.ptr 3 0), (.ptr 4 0)])])), (5, (.p [.nl])), (6, (.p [(.int .i64 4), (.int .i64 0), (.int .i64 1), (.int .i64 2), (.int .i64 3), (.int .i64 (-1)), (.int .i64 1), (.int .i64 2), (.int .i64 3), (.int .i64 0), (.int .i64 (-1)), (.int .i64 2), (.int .i64 3), (.int .i64 0), (.int .i64 1), (.int .i64 (-1)), (.int .i64 3), (.int .i64 0), (.int .i64 1), (.int .i64 2), (.int .i64 (-1)), (.int .i64 (-1)), (.int .i64 (-1)), (.int .i64 (-1)), (.int .i64 (-1)), (.int .i64 (-1)), (.int .u64 15), (.int .u64 15), (.int .u64 15), (.int .u64 15), (.int .u64 0), (.int .u64 15), (.int .u64 15), (.int .u64 15), (.int .u64 15), (.int .u64 0)]))]
def kr78 : D := (.v (.bool true))
def kq78 : Obs := [(0, (.p [(.int .i64 0)])), (1, (.p [(.int .i64 4)])), (2, (.r [(.fn 75 [(.ptr 5 0)])])), (3, (.r [(.ptr 6 0)])), (4, (.r [(.fn 94 [(.ptr 1 0), (.ptr 2 0), (.ptr 3 0), (.ptr 4 0)])])), (5, (.p [.nl])), (6, (.p [(.int .i64 4), (.int .i64 0), (.int .i64 1), (.int .i64 2), (.int .i64 3), (.int .i64 (-1)), (.int .i64 1), (.int .i64 2), (.int .i64 3), (.int .i64 0), (.int .i64 (-1)), (.int .i64 2), (.int .i64 3), (.int .i64 0), (.int .i64 1), (.int .i64 (-1)), (.int .i64 3), (.int .i64 0), (.int .i64 1), (.int .i64 2), (.int .i64 (-1)), (.int .i64 (-1)), (.int .i64 (-1)), (.int .i64 (-1)), (.int .i64 (-1)), (.int .i64 (-1)), (.int .u64 15), (.int .u64 15), (.int .u64 15), (.int .u64 15), (.int .u64 0), (.int .u64 15), (.int .u64 15), (.int .u64 15), (.int .u64 15), (.int .u64 0)]))]
theorem k78 : Go.V.Fn Tryd.prog 94 7 ka78 ko78 (fun d ob' => d = kr78 ∧ ob' = kq78) := runI_ok (doms := nthL domL) (fzr := noFz) (n := 6000) tab_ok mixed kn78_ok (by kernel_rfl)
def kn79 : Known := ⟨kn78.p, ⟨94, 7, ka78, ko78, kr78, kq78⟩ :: kn78.i⟩
theorem kn79_ok : KnOk Tryd.prog kn79 := KnOk.consI k78 kn78_ok
def ka79 : List D := [(.sl false 0 0 1 1), (.v (.int .u64 2)), (.v (.int .u64 2)), (.ptr 1 0), (.ptr 2 0), (.ptr 3 0), (.ptr 4 0)]
def ko79 : Obs := [(0, (.p [(.int .i64 1)])), (1, (.p [(.int .i64 4)])), (2, (.r [(.fn 75 [(.ptr 5 0)])])), (3, (.r [(.ptr 6 0)])), (4, (.r [(.fn 94 [(.ptr 1 0), (.ptr 2 0), (.ptr 3 0), (.ptr 4 0)])])), (5, (.p [.nl])), (6, (.p [(.int .i64 4), (.int .i64 0), (.int .i64 1), (.int .i64 2), (.int .i64 3), (.int .i64 (-1)), (.int .i64 1), (.int .i64 2), (.int .i64 3), (.int .i64 0), (.int .i64 (-1)), (.int .i64 2), (.int .i64 3), (.int .i64 0), (.int .i64 1), (.int .i64 (-1)), (.int .i64 3), (.int .i64 0), (.int .i64 1), (.int .i64 2), (.int .i64 (-1)), (.int .i64 (-1)), (.int .i64 (-1)), (.int .i64 (-1)), (.int .i64 (-1)), (.int .i64 (-1)), (.int .u64 15), (.int .u64 15), (.int .u64 15), (.int .u64 15), (.int .u64 0), (.int .u64 15), (.int .u64 15), (.int .u64 15), (.int .u64 15), (.int .u64 0)]))]
def kr79 : D := (.v (.bool true))
def kq79 : Obs := [(0, (.p [(.int .i64 1)])), (1, (.p [(.int .i64 4)])), (2, (.r [(.fn 75 [(.ptr 5 0)])])), (3, (.r [(.ptr 6 0)])), (4, (.r [(.fn 94 [(.ptr 1 0), (.ptr 2 0), (.ptr 3 0), (.ptr 4 0)])])), (5, (.p [.nl])), (6, (.p [(.int .i64 4), (.int .i64 0), (.int .i64 1), (.int .i64 2), (.int .i64 3), (.int .i64 (-1)), (.int .i64 1), (.int .i64 2), (.int .i64 3), (.int .i64 0), (.int .i64 (-1)), (.int .i64 2), (.int .i64 3), (.int .i64 0), (.int .i64 1), (.int .i64 (-1)), (.int .i64 3), (.int .i64 0), (.int .i64 1), (.int .i64 2), (.int .i64 (-1)), (.int .i64 (-1)), (.int .i64 (-1)), (.int .i64 (-1)), (.int .i64 (-1)), (.int .i64 (-1)), (.int .u64 15), (.int .u64 15), (.int .u64 15), (.int .u64 15), (.int .u64 0), (.int .u64 15), (.int .u64 15), (.int .u64 15), (.int .u64 15), (.int .u64 0)]))]
theorem k79 : Go.V.Fn Tryd.prog 94 7 ka79 ko79 (fun d ob' => d = kr79 ∧ ob' = kq79) := runI_ok (doms := nthL domL) (fzr := noFz) (n := 6000) tab_ok mixed kn79_ok (by kernel_rfl)
def kn80 : Known := ⟨kn79.p, ⟨94, 7, ka79, ko79, kr79, kq79⟩ :: kn79.i⟩
theorem kn80_ok : KnOk Tryd.prog kn80 := KnOk.consI k79 kn79_ok
def ka80 : List D := [(.sl false 0 0 1 1), (.v (.int .u64 4)), (.v (.int .u64 4)), (.ptr 1 0), (.ptr 2 0), (.ptr 3 0), (.ptr 4 0)]
def ko80 : Obs := [(0, (.p [(.int .i64 2)])), (1, (.p [(.int .i64 4)])), (2, (.r [(.fn 75 [(.ptr 5 0)])])), (3, (.r [(.ptr 6 0)])), (4, (.r [(.fn 94 [(.ptr 1 0), (.ptr 2 0), (.ptr 3 0), (.ptr 4 0)])])), (5, (.p [.nl])), (6, (.p [(.int .i64 4), (.int .i64 0), (.int .i64 1), (.int .i64 2), (.int .i64 3), (.int .i64 (-1)), (.int .i64 1), (.int .i64 2), (.int .i64 3), (.int .i64 0), (.int .i64 (-1)), (.int .i64 2), (.int .i64 3), (.int .i64 0), (.int .i64 1), (.int .i64 (-1)), (.int .i64 3), (.int .i64 0), (.int .i64 1), (.int .i64 2), (.int .i64 (-1)), (.int .i64 (-1)), (.int .i64 (-1)), (.int .i64 (-1)), (.int .i64 (-1)), (.int .i64 (-1)), (.int .u64 15), (.int .u64 15), (.int .u64 15), (.int .u64 15), (.int .u64 0), (.int .u64 15), (.int .u64 15), (.int .u64 15), (.int .u64 15), (.int .u64 0)]))]
def kr80 : D := (.v (.bool true))
def kq80 : Obs := [(0, (.p [(.int .i64 2)])), (1, (.p [(.int .i64 4)])), (2, (.r [(.fn 75 [(.ptr 5 0)])])), (3, (.r [(.ptr 6 0)])), (4, (.r [(.fn 94 [(.ptr 1 0), (.ptr 2 0), (.ptr 3 0), (.ptr 4 0)])])), (5, (.p [.nl])), (6, (.p [(.int .i64 4), (.int .i64 0), (.int .i64 1), (.int .i64 2), (.int .i64 3), (.int .i64 (-1)), (.int .i64 1), (.int .i64 2), (.int .i64 3), (.int .i64 0), (.int .i64 (-1)), (.int .i64 2), (.int .i64 3), (.int .i64 0), (.int .i64 1), (.int .i64 (-1)), (.int .i64 3), (.int .i64 0), (.int .i64 1), (.int .i64 2), (.int .i64 (-1)), (.int .i64 (-1)), (.int .i64 (-1)), (.int .i64 (-1)), (.int .i64 (-1)), (.int .i64 (-1)), (.int .u64 15), (.int .u64 15), (.int .u64 15), (.int .u64 15), (.int .u64 0), (.int .u64 15), (.int .u64 15), (.int .u64 15), (.int .u64 15), (.int .u64 0)]))]
theorem k80 : Go.V.Fn Tryd.prog 94 7 ka80 ko80 (fun d ob' => d = kr80 ∧ ob' = kq80) := runI_ok (doms := nthL domL) (fzr := noFz) (n := 6000) tab_ok mixed kn80_ok (by kernel_rfl)
def kn81 : Known := ⟨kn80.p, ⟨94, 7, ka80, ko80, kr80, kq80⟩ :: kn80.i⟩
theorem kn81_ok : KnOk Tryd.prog kn81 := KnOk.consI k80 kn80_ok
def ka81 : List D := [(.sl false 0 0 1 1), (.v (.int .u64 8)), (.v (.int .u64 8)), (.ptr 1 0), (.ptr 2 0), (.ptr 3 0), (.ptr 4 0)]
def ko81 : Obs := [(0, (.p [(.int .i64 3)])), (1, (.p [(.int .i64 4)])), (2, (.r [(.fn 75 [(.ptr 5 0)])])), (3, (.r [(.ptr 6 0)])), (4, (.r [(.fn 94 [(.ptr 1 0), (.ptr 2 0), (.ptr 3 0), (.ptr 4 0)])])), (5, (.p [.nl])), (6, (.p [(.int .i64 4), (.int .i64 0), (.int .i64 1), (.int .i64 2), (.int .i64 3), (.int .i64 (-1)), (.int .i64 1), (.int .i64 2), (.int .i64 3), (.int .i64 0), (.int .i64 (-1)), (.int .i64 2), (.int .i64 3), (.int .i64 0), (.int .i64 1), (.int .i64 (-1)), (.int .i64 3), (.int .i64 0), (.int .i64 1), (.int .i64 2), (.int .i64 (-1)), (.int .i64 (-1)), (.int .i64 (-1)), (.int .i64 (-1)), (.int .i64 (-1)), (.int .i64 (-1)), (.int .u64 15), (.int .u64 15), (.int .u64 15), (.int .u64 15), (.int .u64 0), (.int .u64 15), (.int .u64 15), (.int .u64 15), (.int .u64 15), (.int .u64 0)]))]
def kr81 : D := (.v (.bool true))
def kq81 : Obs := [(0, (.p [(.int .i64 3)])), (1, (.p [(.int .i64 4)])), (2, (.r [(.fn 75 [(.ptr 5 0)])])), (3, (.r [(.ptr 6 0)])), (4, (.r [(.fn 94 [(.ptr 1 0), (.ptr 2 0), (.ptr 3 0), (.ptr 4 0)])])), (5, (.p [.nl])), (6, (.p [(.int .i64 4), (.int .i64 0), (.int .i64 1), (.int .i64 2), (.int .i64 3), (.int .i64 (-1)), (.int .i64 1), (.int .i64 2), (.int .i64 3), (.int .i64 0), (.int .i64 (-1)), (.int .i64 2), (.int .i64 3), (.int .i64 0), (.int .i64 1), (.int .i64 (-1)), (.int .i64 3), (.int .i64 0), (.int .i64 1), (.int .i64 2), (.int .i64 (-1)), (.int .i64 (-1)), (.int .i64 (-1)), (.int .i64 (-1)), (.int .i64 (-1)), (.int .i64 (-1)), (.int .u64 15), (.int .u64 15), (.int .u64 15), (.int .u64 15), (.int .u64 0), (.int .u64 15), (.int .u64 15), (.int .u64 15), (.int .u64 15), (.int .u64 0)]))]
theorem k81 : Go.V.Fn Tryd.prog 94 7 ka81 ko81 (fun d ob' => d = kr81 ∧ ob' = kq81) := runI_ok (doms := nthL domL) (fzr := noFz) (n := 6000) tab_ok mixed kn81_ok (by kernel_rfl)
def kn82 : Known := ⟨kn81.p, ⟨94, 7, ka81, ko81, kr81, kq81⟩ :: kn81.i⟩
theorem kn82_ok : KnOk Tryd.prog kn82 := KnOk.consI k81 kn81_ok
def ka82 : List PV := [(.int .i64 4), (.lst false 4 [(.lst false 4 [(.int .i64 0), (.int .i64 1), (.int .i64 2), (.int .i64 3)]), (.lst false 4 [(.int .i64 1), (.int .i64 2), (.int .i64 3), (.int .i64 0)]), (.lst false 4 [(.int .i64 2), (.int .i64 3), (.int .i64 0), (.int .i64 1)]), (.lst false 4 [(.int .i64 3), (.int .i64 0), (.int .i64 1), (.int .i64 2)])])]
def kr82 : PV := (.tup [.nl, (.int .i64 12)])
theorem k82 : FnP Tryd.prog 33 ka82 kr82 := runE_ok (doms := nthL domL) (fzr := noFz) (n := 6000) tab_ok mixed kn82_ok (by kernel_rfl)
def kn83 : Known := ⟨(33, ka82, kr82) :: kn82.p, kn82.i⟩
theorem kn83_ok : KnOk Tryd.prog kn83 := KnOk.cons k82 kn82_ok
def ka83 : List PV := [(.int .i64 3), (.lst true 2 [(.lst true 2 [(.int .i64 0), (.int .i64 1)]), (.lst true 2 [(.int .i64 1), (.int .i64 0)])])]
def kr83 : PV := (.tup [.nl, (.int .i64 12)])
theorem k83 : FnP Tryd.prog 47 ka83 kr83 := runE_ok (doms := nthL domL) (fzr := noFz) (n := 6000) tab_ok mixed kn83_ok (by kernel_rfl)
def kn84 : Known := ⟨(47, ka83, kr83) :: kn83.p, kn83.i⟩
theorem kn84_ok : KnOk Tryd.prog kn84 := KnOk.cons k83 kn83_ok
def ka84 : List PV := [(.int .i64 3), (.lst true 2 [(.lst true 2 [(.int .i64 0), (.int .i64 1)]), (.lst true 2 [(.int .i64 1), (.int .i64 2)])])]
def kr84 : PV := (.tup [(.int .i64 0), (.int .i64 13)])
theorem k84 : FnP Tryd.prog 45 ka84 kr84 := runE_ok (doms := nthL domL) (fzr := noFz) (n := 6000) tab_ok mixed kn84_ok (by kernel_rfl)
def kn85 : Known := ⟨(45, ka84, kr84) :: kn84.p, kn84.i⟩
theorem kn85_ok : KnOk Tryd.prog kn85 := KnOk.cons k84 kn84_ok
def ka85 : List PV := [(.int .i64 3), (.lst true 1 [(.lst true 3 [(.int .i64 0), (.int .i64 1), (.int .i64 2)])])]
def kr85 : PV := (.tup [.nl, (.int .i64 21)])
theorem k85 : FnP Tryd.prog 33 ka85 kr85 := runE_ok (doms := nthL domL) (fzr := noFz) (n := 6000) tab_ok mixed kn85_ok (by kernel_rfl)
def kn86 : Known := ⟨(33, ka85, kr85) :: kn85.p, kn85.i⟩
theorem kn86_ok : KnOk Tryd.prog kn86 := KnOk.cons k85 kn85_ok
def ka86 : List PV := [(.lst false 3 [(.int .i64 0), (.int .i64 1), (.int .i64 2)]), (.lst false 3 [(.int .i64 0), (.int .i64 1), (.int .i64 2)])]
def kr86 : PV := (.bool true)
theorem k86 : FnP Tryd.prog 22 ka86 kr86 := runE_ok (doms := nthL domL) (fzr := noFz) (n := 6000) tab_ok mixed kn86_ok (by kernel_rfl)
def kn87 : Known := ⟨(22, ka86, kr86) :: kn86.p, kn86.i⟩
theorem kn87_ok : KnOk Tryd.prog kn87 := KnOk.cons k86 kn86_ok
def ka87 : List PV := [(.lst false 3 [(.int .i64 1), (.int .i64 2), (.int .i64 0)]), (.lst false 3 [(.int .i64 1), (.int .i64 2), (.int .i64 0)])]
def kr87 : PV := (.bool true)
theorem k87 : FnP Tryd.prog 22 ka87 kr87 := runE_ok (doms := nthL domL) (fzr := noFz) (n := 6000) tab_ok mixed kn87_ok (by kernel_rfl)
def kn88 : Known := ⟨(22, ka87, kr87) :: kn87.p, kn87.i⟩
theorem kn88_ok : KnOk Tryd.prog kn88 := KnOk.cons k87 kn87_ok
def ka88 : List PV := [(.lst false 3 [(.int .i64 2), (.int .i64 0), (.int .i64 1)]), (.lst false 3 [(.int .i64 2), (.int .i64 0), (.int .i64 1)])]
def kr88 : PV := (.bool true)
theorem k88 : FnP Tryd.prog 22 ka88 kr88 := runE_ok (doms := nthL domL) (fzr := noFz) (n := 6000) tab_ok mixed kn88_ok (by kernel_rfl)
def kn89 : Known := ⟨(22, ka88, kr88) :: kn88.p, kn88.i⟩
theorem kn89_ok : KnOk Tryd.prog kn89 := KnOk.cons k88 kn88_ok
def ka89 : List PV := [(.lst false 3 [(.lst false 3 [(.int .i64 0), (.int .i64 1), (.int .i64 2)]), (.lst false 3 [(.int .i64 1), (.int .i64 2), (.int .i64 0)]), (.lst false 3 [(.int .i64 2), (.int .i64 0), (.int .i64 1)])]), (.lst false 3 [(.lst false 3 [(.int .i64 0), (.int .i64 1), (.int .i64 2)]), (.lst false 3 [(.int .i64 1), (.int .i64 2), (.int .i64 0)]), (.lst false 3 [(.int .i64 2), (.int .i64 0), (.int .i64 1)])])]
def kr89 : PV := (.bool true)
theorem k89 : FnP Tryd.prog 21 ka89 kr89 := runE_ok (doms := nthL domL) (fzr := noFz) (n := 6000) tab_ok mixed kn89_ok (by kernel_rfl)
def kn90 : Known := ⟨(21, ka89, kr89) :: kn89.p, kn89.i⟩
theorem kn90_ok : KnOk Tryd.prog kn90 := KnOk.cons k89 kn89_ok
def ka90 : List PV := [(.int .i64 3), (.lst true 2 [(.lst true 2 [(.int .i64 0), (.int .i64 1)]), (.lst true 2 [(.int .i64 1), (.int .i64 0)])]), (.int .i64 2)]
def kr90 : PV := (.int .i64 0)
theorem k90 : FnP Tryd.prog 51 ka90 kr90 := runE_ok (doms := nthL domL) (fzr := noFz) (n := 6000) tab_ok mixed kn90_ok (by kernel_rfl)
def kn91 : Known := ⟨(51, ka90, kr90) :: kn90.p, kn90.i⟩
theorem kn91_ok : KnOk Tryd.prog kn91 := KnOk.cons k90 kn90_ok
def ka91 : List PV := [(.int .i64 3), (.lst true 2 [(.lst true 2 [(.int .i64 0), (.int .i64 1)]), (.lst true 2 [(.int .i64 1), (.int .i64 0)])]), (.int .i64 0)]
def kr91 : PV := (.int .i64 14)
theorem k91 : FnP Tryd.prog 51 ka91 kr91 := runE_ok (doms := nthL domL) (fzr := noFz) (n := 6000) tab_ok mixed kn91_ok (by kernel_rfl)
def kn92 : Known := ⟨(51, ka91, kr91) :: kn91.p, kn91.i⟩
theorem kn92_ok : KnOk Tryd.prog kn92 := KnOk.cons k91 kn91_ok
def ka92 : List PV := []
def kr92 : PV := (.bool true)
theorem k92 : FnP Tryd.prog 16 ka92 kr92 := runE_ok (doms := nthL domL) (fzr := noFz) (n := 6000) tab_ok mixed kn92_ok (by kernel_rfl)
def kn93 : Known := ⟨(16, ka92, kr92) :: kn92.p, kn92.i⟩
theorem kn93_ok : KnOk Tryd.prog kn93 := KnOk.cons k92 kn92_ok
def ka93 : List PV := []
def kr93 : PV := (.bool true)
theorem k93 : FnP Tryd.prog 12 ka93 kr93 := runE_ok (doms := nthL domL) (fzr := noFz) (n := 6000) tab_ok mixed kn93_ok (by kernel_rfl)
def kn94 : Known := ⟨(12, ka93, kr93) :: kn93.p, kn93.i⟩
theorem kn94_ok : KnOk Tryd.prog kn94 := KnOk.cons k93 kn93_ok
end Go.Proofs.YtcaecfofgdogbaaDoor
