/-
  All runs that are known.
-/
import Derived.Test.YtnponojgpkbagaaDoorKI1
import Derived.Test.YtnponojgpkbagaaDoorKI2
import Derived.Test.YtnponojgpkbagaaDoorKI3
import Derived.Test.YtnponojgpkbagaaDoorKI4
namespace Go.Proofs.YtnponojgpkbagaaDoor
open Go.V
def jn0 : Known := kn30
theorem jn0_ok : KnOk Tryd.prog jn0 := kn30_ok
def jn1 : Known := ⟨jn0.p, ⟨99, 9, ja0, jo0, jr0, jq0⟩ :: jn0.i⟩
theorem jn1_ok : KnOk Tryd.prog jn1 := KnOk.consI j0 jn0_ok
def jn2 : Known := ⟨jn1.p, ⟨99, 9, ja1, jo1, jr1, jq1⟩ :: jn1.i⟩
theorem jn2_ok : KnOk Tryd.prog jn2 := KnOk.consI j1 jn1_ok
def jn3 : Known := ⟨jn2.p, ⟨99, 9, ja2, jo2, jr2, jq2⟩ :: jn2.i⟩
theorem jn3_ok : KnOk Tryd.prog jn3 := KnOk.consI j2 jn2_ok
def jn4 : Known := ⟨jn3.p, ⟨99, 9, ja3, jo3, jr3, jq3⟩ :: jn3.i⟩
theorem jn4_ok : KnOk Tryd.prog jn4 := KnOk.consI j3 jn3_ok
def jn5 : Known := ⟨jn4.p, ⟨99, 9, ja4, jo4, jr4, jq4⟩ :: jn4.i⟩
theorem jn5_ok : KnOk Tryd.prog jn5 := KnOk.consI j4 jn4_ok
def jn6 : Known := ⟨jn5.p, ⟨99, 9, ja5, jo5, jr5, jq5⟩ :: jn5.i⟩
theorem jn6_ok : KnOk Tryd.prog jn6 := KnOk.consI j5 jn5_ok
def jn7 : Known := ⟨jn6.p, ⟨99, 9, ja6, jo6, jr6, jq6⟩ :: jn6.i⟩
theorem jn7_ok : KnOk Tryd.prog jn7 := KnOk.consI j6 jn6_ok
def jn8 : Known := ⟨jn7.p, ⟨99, 9, ja7, jo7, jr7, jq7⟩ :: jn7.i⟩
theorem jn8_ok : KnOk Tryd.prog jn8 := KnOk.consI j7 jn7_ok
def jn9 : Known := ⟨jn8.p, ⟨99, 9, ja8, jo8, jr8, jq8⟩ :: jn8.i⟩
theorem jn9_ok : KnOk Tryd.prog jn9 := KnOk.consI j8 jn8_ok
def jn10 : Known := ⟨jn9.p, ⟨99, 9, ja9, jo9, jr9, jq9⟩ :: jn9.i⟩
theorem jn10_ok : KnOk Tryd.prog jn10 := KnOk.consI j9 jn9_ok
def jn11 : Known := ⟨jn10.p, ⟨99, 9, ja10, jo10, jr10, jq10⟩ :: jn10.i⟩
theorem jn11_ok : KnOk Tryd.prog jn11 := KnOk.consI j10 jn10_ok
def jn12 : Known := ⟨jn11.p, ⟨99, 9, ja11, jo11, jr11, jq11⟩ :: jn11.i⟩
theorem jn12_ok : KnOk Tryd.prog jn12 := KnOk.consI j11 jn11_ok
def jn13 : Known := ⟨jn12.p, ⟨99, 9, ja12, jo12, jr12, jq12⟩ :: jn12.i⟩
theorem jn13_ok : KnOk Tryd.prog jn13 := KnOk.consI j12 jn12_ok
def jn14 : Known := ⟨jn13.p, ⟨99, 9, ja13, jo13, jr13, jq13⟩ :: jn13.i⟩
theorem jn14_ok : KnOk Tryd.prog jn14 := KnOk.consI j13 jn13_ok
def jn15 : Known := ⟨jn14.p, ⟨99, 9, ja14, jo14, jr14, jq14⟩ :: jn14.i⟩
theorem jn15_ok : KnOk Tryd.prog jn15 := KnOk.consI j14 jn14_ok
def jn16 : Known := ⟨jn15.p, ⟨99, 9, ja15, jo15, jr15, jq15⟩ :: jn15.i⟩
theorem jn16_ok : KnOk Tryd.prog jn16 := KnOk.consI j15 jn15_ok
def jn17 : Known := ⟨jn16.p, ⟨99, 9, ja16, jo16, jr16, jq16⟩ :: jn16.i⟩
theorem jn17_ok : KnOk Tryd.prog jn17 := KnOk.consI j16 jn16_ok
def jn18 : Known := ⟨jn17.p, ⟨99, 9, ja17, jo17, jr17, jq17⟩ :: jn17.i⟩
theorem jn18_ok : KnOk Tryd.prog jn18 := KnOk.consI j17 jn17_ok
def jn19 : Known := ⟨jn18.p, ⟨99, 9, ja18, jo18, jr18, jq18⟩ :: jn18.i⟩
theorem jn19_ok : KnOk Tryd.prog jn19 := KnOk.consI j18 jn18_ok
def jn20 : Known := ⟨jn19.p, ⟨99, 9, ja19, jo19, jr19, jq19⟩ :: jn19.i⟩
theorem jn20_ok : KnOk Tryd.prog jn20 := KnOk.consI j19 jn19_ok
def jn21 : Known := ⟨jn20.p, ⟨99, 9, ja20, jo20, jr20, jq20⟩ :: jn20.i⟩
theorem jn21_ok : KnOk Tryd.prog jn21 := KnOk.consI j20 jn20_ok
def jn22 : Known := ⟨jn21.p, ⟨99, 9, ja21, jo21, jr21, jq21⟩ :: jn21.i⟩
theorem jn22_ok : KnOk Tryd.prog jn22 := KnOk.consI j21 jn21_ok
def jn23 : Known := ⟨jn22.p, ⟨99, 9, ja22, jo22, jr22, jq22⟩ :: jn22.i⟩
theorem jn23_ok : KnOk Tryd.prog jn23 := KnOk.consI j22 jn22_ok
def jn24 : Known := ⟨jn23.p, ⟨99, 9, ja23, jo23, jr23, jq23⟩ :: jn23.i⟩
theorem jn24_ok : KnOk Tryd.prog jn24 := KnOk.consI j23 jn23_ok
def jn25 : Known := ⟨jn24.p, ⟨99, 9, ja24, jo24, jr24, jq24⟩ :: jn24.i⟩
theorem jn25_ok : KnOk Tryd.prog jn25 := KnOk.consI j24 jn24_ok
def jn26 : Known := ⟨jn25.p, ⟨99, 9, ja25, jo25, jr25, jq25⟩ :: jn25.i⟩
theorem jn26_ok : KnOk Tryd.prog jn26 := KnOk.consI j25 jn25_ok
def jn27 : Known := ⟨jn26.p, ⟨99, 9, ja26, jo26, jr26, jq26⟩ :: jn26.i⟩
theorem jn27_ok : KnOk Tryd.prog jn27 := KnOk.consI j26 jn26_ok
def jn28 : Known := ⟨jn27.p, ⟨99, 9, ja27, jo27, jr27, jq27⟩ :: jn27.i⟩
theorem jn28_ok : KnOk Tryd.prog jn28 := KnOk.consI j27 jn27_ok
def jn29 : Known := ⟨jn28.p, ⟨99, 9, ja28, jo28, jr28, jq28⟩ :: jn28.i⟩
theorem jn29_ok : KnOk Tryd.prog jn29 := KnOk.consI j28 jn28_ok
def jn30 : Known := ⟨jn29.p, ⟨99, 9, ja29, jo29, jr29, jq29⟩ :: jn29.i⟩
theorem jn30_ok : KnOk Tryd.prog jn30 := KnOk.consI j29 jn29_ok
def jn31 : Known := ⟨jn30.p, ⟨99, 9, ja30, jo30, jr30, jq30⟩ :: jn30.i⟩
theorem jn31_ok : KnOk Tryd.prog jn31 := KnOk.consI j30 jn30_ok
def jn32 : Known := ⟨jn31.p, ⟨99, 9, ja31, jo31, jr31, jq31⟩ :: jn31.i⟩
theorem jn32_ok : KnOk Tryd.prog jn32 := KnOk.consI j31 jn31_ok
def jn33 : Known := ⟨jn32.p, ⟨99, 9, ja32, jo32, jr32, jq32⟩ :: jn32.i⟩
theorem jn33_ok : KnOk Tryd.prog jn33 := KnOk.consI j32 jn32_ok
def jn34 : Known := ⟨jn33.p, ⟨99, 9, ja33, jo33, jr33, jq33⟩ :: jn33.i⟩
theorem jn34_ok : KnOk Tryd.prog jn34 := KnOk.consI j33 jn33_ok
def jn35 : Known := ⟨jn34.p, ⟨99, 9, ja34, jo34, jr34, jq34⟩ :: jn34.i⟩
theorem jn35_ok : KnOk Tryd.prog jn35 := KnOk.consI j34 jn34_ok
def jn36 : Known := ⟨jn35.p, ⟨99, 9, ja35, jo35, jr35, jq35⟩ :: jn35.i⟩
theorem jn36_ok : KnOk Tryd.prog jn36 := KnOk.consI j35 jn35_ok
def jn37 : Known := ⟨jn36.p, ⟨99, 9, ja36, jo36, jr36, jq36⟩ :: jn36.i⟩
theorem jn37_ok : KnOk Tryd.prog jn37 := KnOk.consI j36 jn36_ok
def jn38 : Known := ⟨jn37.p, ⟨99, 9, ja37, jo37, jr37, jq37⟩ :: jn37.i⟩
theorem jn38_ok : KnOk Tryd.prog jn38 := KnOk.consI j37 jn37_ok
def jn39 : Known := ⟨jn38.p, ⟨99, 9, ja38, jo38, jr38, jq38⟩ :: jn38.i⟩
theorem jn39_ok : KnOk Tryd.prog jn39 := KnOk.consI j38 jn38_ok
def jn40 : Known := ⟨jn39.p, ⟨99, 9, ja39, jo39, jr39, jq39⟩ :: jn39.i⟩
theorem jn40_ok : KnOk Tryd.prog jn40 := KnOk.consI j39 jn39_ok
def jn41 : Known := ⟨jn40.p, ⟨99, 9, ja40, jo40, jr40, jq40⟩ :: jn40.i⟩
theorem jn41_ok : KnOk Tryd.prog jn41 := KnOk.consI j40 jn40_ok
def jn42 : Known := ⟨jn41.p, ⟨99, 9, ja41, jo41, jr41, jq41⟩ :: jn41.i⟩
theorem jn42_ok : KnOk Tryd.prog jn42 := KnOk.consI j41 jn41_ok
def KN : Known := jn42
theorem KN_ok : KnOk Tryd.prog KN := jn42_ok
end Go.Proofs.YtnponojgpkbagaaDoor
