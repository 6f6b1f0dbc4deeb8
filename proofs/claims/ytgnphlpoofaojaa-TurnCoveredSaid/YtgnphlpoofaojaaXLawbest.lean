/-
  TurnBest: what the functions compute answers as the law says.
-/
import Derived.Test.YtgnphlpoofaojaaXRed
import Derived.Test.YtgnphlpoofaojaaXBests
namespace Go.Proofs.Ytgnphlpoofaojaa
open Go.V

theorem gp_mid (a : List PV) (x : PV) (b : List PV) : gp (a ++ x :: b) a.length = x := by
  have := gp_drop (l := a ++ x :: b) (k := a.length) (i := 0)
  rw [Nat.add_zero] at this
  rw [← this, List.drop_left]; rfl

def deskC (many : Int) (Z : List (Int × Int)) : List PV := .int .u8 many :: (Z.map (fun z => PV.int .i8 z.1) ++ Z.map (fun z => PV.int .i8 z.2))
def mkP (mf mr : Int) (z : Int × Int) : Int × Int := (z.1.tmod (mf + 1), z.2.tmod (mr + 1))
def mkL (mf mr : Int) (n : Nat) (Z : List (Int × Int)) : List (Int × Int) := (Z.take n).map (mkP mf mr)
def byteZ (Z : List (Int × Int)) : Prop := Z.length = 8 ∧ ∀ z ∈ Z, -128 ≤ z.1 ∧ z.1 ≤ 127 ∧ -128 ≤ z.2 ∧ z.2 ≤ 127
theorem deskC_len {many : Int} {Z : List (Int × Int)} (h : Z.length = 8) : (deskC many Z).length = 17 := by simp [deskC, h]
theorem desk_f (many : Int) (done : List (Int × Int)) (z : Int × Int) (rest : List (Int × Int)) : gp (deskC many (done ++ z :: rest)) (1 + done.length) = .int .i8 z.1 := by
  have := gp_mid (PV.int .u8 many :: done.map (fun z => PV.int .i8 z.1)) (.int .i8 z.1) (rest.map (fun z => PV.int .i8 z.1) ++ (done ++ z :: rest).map (fun z => PV.int .i8 z.2))
  simp only [List.length_cons, List.length_map] at this
  rw [Nat.add_comm, ← this]
  simp [deskC]
theorem desk_r (many : Int) (done : List (Int × Int)) (z : Int × Int) (rest : List (Int × Int)) (h : (done ++ z :: rest).length = 8) : gp (deskC many (done ++ z :: rest)) (9 + done.length) = .int .i8 z.2 := by
  have := gp_mid (PV.int .u8 many :: ((done ++ z :: rest).map (fun z => PV.int .i8 z.1) ++ done.map (fun z => PV.int .i8 z.2))) (.int .i8 z.2) (rest.map (fun z => PV.int .i8 z.2))
  simp only [List.length_cons, List.length_map, List.length_append] at this h
  rw [show 9 + done.length = done.length + (rest.length + 1) + done.length + 1 by omega, ← this]
  simp [deskC]
theorem made_L (N : Nat) (mf mr many : Int) (Z : List (Int × Int)) (hZ : byteZ Z) (K : Nat) (hK : IntKind.i64.wrap (1 + (Int.tmod (IntKind.i64.wrap many) 8)) = (K : Int)) (hK8 : K ≤ 8)
    (wf : IntKind.i64.wrap (mf + 1) = mf + 1) (wr : IntKind.i64.wrap (mr + 1) = mr + 1) (pf : 0 ≤ mf) (pr : 0 ≤ mr) : ∀ (rest done : List (Int × Int)) (fuel : Nat), Z = done ++ rest → done.length ≤ K → rest.length < fuel →
    m36_L0 N mf mr (deskC many Z) many fuel done.length (done.length : Int) (cellsC (done.map (mkP mf mr))) = some (K, cellsC (mkL mf mr K Z))
  | rest, done, 0, _, _, h => by simp at h
  | rest, done, f + 1, e, hk, h => by
    rw [m36_L0, hK]
    by_cases hd : done.length = K
    · rw [brn_f (by simp; omega)]
      have : Z.take K = done := by rw [e, ← hd, List.take_left]
      simp [mkL, this, hd]
    · rw [brn_t (by simp; omega)]
      match rest, e, h with
      | [], e, _ =>
        have := hZ.1
        rw [e] at this
        simp at this
        omega
      | z :: rest, e, h =>
        have hz := hZ.2 z (by rw [e]; simp)
        have hl := hZ.1
        have ht : (Int.toNat (done.length : Int)) = done.length := by omega
        have hlen : (deskC many Z).length = 17 := deskC_len hZ.1
        have gf : gp (deskC many Z) (1 + done.length) = .int .i8 z.1 := by rw [e]; exact desk_f _ _ _ _
        have gr : gp (deskC many Z) (9 + done.length) = .int .i8 z.2 := by rw [e]; exact desk_r _ _ _ _ (by rw [← e]; exact hl)
        have w1 : IntKind.i64.wrap z.1 = z.1 := wrap64 (by omega) (by omega)
        have w2 : IntKind.i64.wrap z.2 = z.2 := wrap64 (by omega) (by omega)
        rw [grd_t ⟨by omega, by omega⟩, ht, grd_t (by omega), gf]
        simp only [getI, if_true, wf, wr]
        rw [grd_t (by omega), grd_t (by omega), gr]
        simp only [if_true]
        rw [grd_t (by omega), grd_t (by omega), grd_t (by rw [cellsC_len]; simp), w1, w2, wrapN (by omega)]
        have ih := made_L N mf mr many Z hZ K hK hK8 wf wr pf pr rest (done ++ [z]) f (by simp [e]) (by simp; omega) (by simp at h; omega)
        have e2 : cellsC ((done ++ [z]).map (mkP mf mr)) = cellsC (done.map (mkP mf mr)) ++ [.int .i64 (z.1.tmod (mf + 1)), .int .i64 (z.2.tmod (mr + 1))] := by
          rw [List.map_append, cellsC_app]; rfl
        rw [e2] at ih
        simpa using ih
def howMany (many : Int) : Nat := (1 + many % 8).toNat
theorem made_ok (N : Nat) (hN : 100 ≤ N) (mf mr many : Int) (Z : List (Int × Int)) (hZ : byteZ Z) (h0 : 0 ≤ many) (h1 : many ≤ 255)
    (wf : IntKind.i64.wrap (mf + 1) = mf + 1) (wr : IntKind.i64.wrap (mr + 1) = mr + 1) (pf : 0 ≤ mf) (pr : 0 ≤ mr) :
    m36 N (.agg (deskC many Z)) mf mr = some (.lst false (howMany many) (cellsC (mkL mf mr (howMany many) Z))) := by
  have hlen : (deskC many Z).length = 17 := deskC_len hZ.1
  have hK : IntKind.i64.wrap (1 + (Int.tmod (IntKind.i64.wrap many) 8)) = ((howMany many : Nat) : Int) := by
    rw [wrap64 (n := many) (by omega) (by omega), Int.tmod_eq_emod_of_nonneg h0, wrap64 (by omega) (by omega)]
    unfold howMany; omega
  have hK8 : howMany many ≤ 8 := by unfold howMany; omega
  simp only [m36, getA]
  rw [grd_t (by omega), show gp (deskC many Z) 0 = .int .u8 many from rfl]
  simp only [getI, if_true]
  rw [grd_t (by omega)]
  have := made_L N mf mr many Z hZ (howMany many) hK hK8 wf wr pf pr Z [] N rfl (by simp) (by rw [hZ.1]; omega)
  simp only [List.length_nil, List.map_nil] at this
  rw [show m36_L0 N mf mr (deskC many Z) many N 0 0 [] = _ from this]
  simp only [bnd']
  rw [grd_t (by rw [cellsC_len]; simp [mkL, hZ.1]; omega)]
theorem tmod_bd (x m : Int) (hm : 0 ≤ m) : -m ≤ x.tmod (m + 1) ∧ x.tmod (m + 1) ≤ m := by
  have h1 := Int.tmod_lt_of_pos x (show 0 < m + 1 by omega)
  have h2 := Int.lt_tmod_of_pos x (show 0 < m + 1 by omega)
  omega
theorem mkL_len {mf mr : Int} {Z : List (Int × Int)} (hZ : byteZ Z) (many : Int) (h0 : 0 ≤ many) : (mkL mf mr (howMany many) Z).length = howMany many ∧ 1 ≤ howMany many ∧ howMany many ≤ 8 := by
  have : howMany many ≤ 8 := by unfold howMany; omega
  have : 1 ≤ howMany many := by unfold howMany; omega
  simp [mkL, hZ.1]; omega
theorem mkL_mem {mf mr : Int} {Z : List (Int × Int)} {n : Nat} (hf : 0 ≤ mf) (hr : 0 ≤ mr) {p : Int × Int} (h : p ∈ mkL mf mr n Z) : -mf ≤ p.1 ∧ p.1 ≤ mf ∧ -mr ≤ p.2 ∧ p.2 ≤ mr := by
  obtain ⟨z, _, rfl⟩ := List.mem_map.1 h
  have h1 := tmod_bd z.1 mf hf
  have h2 := tmod_bd z.2 mr hr
  exact ⟨h1.1, h1.2, h2.1, h2.2⟩
theorem Chk_of {L : List (Int × Int)} (h1 : 1 ≤ L.length) (h8 : L.length ≤ 8) (h : ∀ p ∈ L, okC p = true) : Chk L = 0 := by
  unfold Chk
  rw [if_neg (by omega), if_neg (by omega), if_pos (List.all_eq_true.2 h)]

theorem at41_ok (N : Nat) (p : Int × Int) (num den : Int) : m41 N (.agg [.int .i64 p.1, .int .i64 p.2]) (.agg [.int .i64 num, .int .i64 den]) = some (.int .i64 (Wt num den p)) := by
  simp [m41, getA2, getI, Wt]
end Go.Proofs.Ytgnphlpoofaojaa
