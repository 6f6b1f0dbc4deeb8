/-
  TurnNeeds: the law.
-/
import Derived.Test.YtgnphlpoofaojaaSLawn
import Derived.Test.YtgnphlpoofaojaaSCon
namespace Go.Proofs.Ytgnphlpoofaojaa
open Go.V

theorem bdQ_P {q : Int × Int} (h : bdQ q) : bdP q := by unfold bdQ at h; unfold bdP; omega
def mxL (q : Int × Int) : List (Int × Int) → Int
  | [] => 0
  | p :: l => mx (Wt q.1 q.2 p) (l.map (Wt q.1 q.2))
theorem mx_sp : ∀ (X : List Int) (m : Int), m ≤ mx m X ∧ (∀ x ∈ X, x ≤ mx m X) ∧ (mx m X = m ∨ mx m X ∈ X)
  | [], m => by simp [mx]
  | x :: X, m => by
    obtain ⟨h1, h2, h3⟩ := mx_sp X (maxI m x)
    have e : mx m (x :: X) = mx (maxI m x) X := rfl
    have h4 : m ≤ maxI m x ∧ x ≤ maxI m x ∧ (maxI m x = m ∨ maxI m x = x) := by unfold maxI; split <;> omega
    rw [e]
    refine ⟨by omega, fun y hy => ?_, ?_⟩
    · rcases List.mem_cons.1 hy with rfl | hy
      · omega
      · exact h2 y hy
    · rcases h3 with h3 | h3
      · rw [h3]
        rcases h4.2.2 with h | h
        · left; exact h
        · right; simp [h]
      · right; simp [h3]
theorem mxL_is {q : Int × Int} (hq : bdP q) : ∀ {L : List (Int × Int)}, L ≠ [] → (∀ c ∈ L, bdC c) → IsMx L q (mxL q L)
  | [], h, _ => absurd rfl h
  | p :: l, _, hb => by
    obtain ⟨h1, h2, h3⟩ := mx_sp (l.map (Wt q.1 q.2)) (Wt q.1 q.2 p)
    have hw : ∀ c ∈ p :: l, Wt q.1 q.2 c = CtP q c := fun c hc => Wt_P hq (hb c hc)
    constructor
    · rcases h3 with h3 | h3
      · exact ⟨p, by simp, by rw [← hw p (by simp)]; exact h3.symm⟩
      · obtain ⟨c, hc, e⟩ := List.mem_map.1 h3
        exact ⟨c, by simp [hc], by rw [← hw c (by simp [hc])]; exact e⟩
    · intro c hc
      rw [← hw c hc]
      rcases List.mem_cons.1 hc with rfl | hc
      · exact h1
      · exact h2 _ (List.mem_map.2 ⟨c, hc, rfl⟩)
theorem mostQ_ok (N : Nat) (hN : 4000 ≤ N) (L : List (Int × Int)) (h1 : 1 ≤ L.length) (hL : L.length ≤ 40) (q : Int × Int) : m61 N (.lst false L.length (cellsC L)) (.agg [.int .i64 q.1, .int .i64 q.2]) = some (.int .i64 (mxL q L)) := by
  cases L with
  | nil => simp at h1
  | cons p l => exact most_ok N p l hL (by omega) q.1 q.2
theorem cnt_L (N : Nat) (hN : 4000 ≤ N) (L : List (Int × Int)) (hb : ∀ q ∈ L, bdC q) (h1 : 1 ≤ L.length) (hL : L.length ≤ 40) (H : List Nat) (hH : ∀ k ∈ H, k < L.length) (hHl : H.length ≤ 1000) (Q : List (Int × Int)) (hQl : Q.length ≤ 3000) (d0 : List (Int × Int)) (q : Int × Int) (Q2 : List (Int × Int)) (eQ : Q = d0 ++ q :: Q2) (hq : bdP q)
    (n1 : Nat) (c1 : List PV) : ∀ (rest done : List Nat) (fuel : Nat) (c : Nat), H = done ++ rest → rest.length < fuel → c ≤ done.length →
    m27_L1 N L.length (cellsC L) H.length (nL H) Q.length (cellsC Q) n1 (d0.length : Int) c1 fuel (c : Int) (done.length : Int) = some ((c + (rest.filter (fun k => CtP q (ctL L k) == mxL q L)).length : Nat) : Int)
  | [], done, 0, _, _, h, _ => by simp at h
  | [], done, f + 1, c, e, _, _ => by
    have : H.length = done.length := by rw [e]; simp
    rw [m27_L1, brn_f (by simp; omega)]; simp
  | k :: rest, done, 0, _, _, h, _ => by simp at h
  | k :: rest, done, f + 1, c, e, hf, hc => by
    have hHe : H.length = done.length + (rest.length + 1) := by rw [e]; simp
    have hQe : Q.length = d0.length + (Q2.length + 1) := by rw [eQ]; simp
    have hk := hH k (by rw [e]; simp)
    have hcl : (cellsC L).length = L.length * 2 := cellsC_len L
    have hcq : (cellsC Q).length = Q.length * 2 := cellsC_len Q
    have hnl : (nL H).length = H.length := nL_len H
    have td : (Int.toNat ((done.length : Nat) : Int)) = done.length := by omega
    have t0 : (Int.toNat ((d0.length : Nat) : Int)) = d0.length := by omega
    have tk : (Int.toNat (k : Int)) = k := by omega
    have hw : IntKind.i64.wrap ((done.length : Int) + 1) = ((done.length + 1 : Nat) : Int) := by rw [wrap64 (by omega) (by omega)]; omega
    have hwc : IntKind.i64.wrap ((c : Int) + 1) = ((c + 1 : Nat) : Int) := by rw [wrap64 (by omega) (by omega)]; omega
    have gk : gp (nL H) done.length = .int .i64 (k : Int) := by rw [e]; exact nL_gp done k _
    have hq2 : ((cellsC Q).drop (d0.length * 2)).take 2 = [.int .i64 q.1, .int .i64 q.2] := by rw [eQ]; exact cellsC_take d0 q Q2
    have bk := hb _ (ctL_mem hk)
    have ih := fun c hc => cnt_L N hN L hb h1 hL H hH hHl Q hQl d0 q Q2 eQ hq n1 c1 rest (done ++ [k]) f c (by simp [e]) (by simp at hf; omega) hc
    simp only [List.length_append, List.length_cons, List.length_nil, Nat.zero_add] at ih
    rw [m27_L1, brn_t (by simp; omega), td, t0, grd_t ⟨by omega, by omega⟩, grd_t (by simp only [List.length_drop]; omega), gk]
    simp only [getI, if_true]
    rw [tk, grd_t ⟨by omega, by omega⟩, grd_t (by simp only [List.length_drop]; omega), cellsC_at (ctL_at hk)]
    simp only [getA2]
    rw [grd_t ⟨by omega, by omega⟩, grd_t (by simp only [List.length_drop]; omega), hq2]
    simp only [worthP N hq bk, mostQ_ok N hN L h1 hL q, bnd', if_true]
    by_cases hh : CtP q (ctL L k) = mxL q L
    · rw [brn_t (by simpa using hh), hw, hwc, ih (c + 1) (by omega), List.filter_cons_of_pos (by simpa using hh), List.length_cons]
      congr 2; omega
    · rw [brn_f (by simpa using hh), hw, ih c (by omega), List.filter_cons_of_neg (by simpa using hh)]
def twoB (L : List (Int × Int)) (H : List Nat) (q : Int × Int) : Bool := decide (1 < (H.filter (fun k => CtP q (ctL L k) == mxL q L)).length)
theorem turnsR_L (N : Nat) (hN : 4000 ≤ N) (L : List (Int × Int)) (hb : ∀ q ∈ L, bdC q) (h1 : 1 ≤ L.length) (hL : L.length ≤ 40) (H : List Nat) (hH : ∀ k ∈ H, k < L.length) (hHl : H.length ≤ 1000) (Q : List (Int × Int)) (hQl : Q.length ≤ 3000) (hQ : ∀ q ∈ Q, bdP q) : ∀ (rest done : List (Int × Int)) (fuel : Nat) (acc : List (Int × Int)),
    Q = done ++ rest → rest.length < fuel → acc.length ≤ done.length →
    m27_L0 N L.length (cellsC L) H.length (nL H) Q.length (cellsC Q) fuel acc.length (done.length : Int) (cellsC acc) = some ((acc ++ rest.filter (twoB L H)).length, cellsC (acc ++ rest.filter (twoB L H)))
  | [], done, 0, _, _, h, _ => by simp at h
  | [], done, f + 1, acc, e, _, _ => by
    have : Q.length = done.length := by rw [e]; simp
    rw [m27_L0, brn_f (by simp; omega)]; simp
  | q :: rest, done, 0, _, _, h, _ => by simp at h
  | q :: rest, done, f + 1, acc, e, hf, ha => by
    have hQe : Q.length = done.length + (rest.length + 1) := by rw [e]; simp
    have hcq : (cellsC Q).length = Q.length * 2 := cellsC_len Q
    have hac : (cellsC acc).length = acc.length * 2 := cellsC_len acc
    have td : (Int.toNat ((done.length : Nat) : Int)) = done.length := by omega
    have hw : IntKind.i64.wrap ((done.length : Int) + 1) = ((done.length + 1 : Nat) : Int) := by rw [wrap64 (by omega) (by omega)]; omega
    have hq2 : ((cellsC Q).drop (done.length * 2)).take 2 = [.int .i64 q.1, .int .i64 q.2] := by rw [e]; exact cellsC_take done q rest
    have hc := cnt_L N hN L hb h1 hL H hH hHl Q hQl done q rest e (hQ q (by rw [e]; simp)) acc.length (cellsC acc) H [] N 0 rfl (by omega) (by simp)
    rw [Nat.zero_add] at hc
    rw [m27_L0, brn_t (by simp; omega)]
    rw [show m27_L1 N L.length (cellsC L) H.length (nL H) Q.length (cellsC Q) acc.length (done.length : Int) (cellsC acc) N 0 0 = _ from hc]
    simp only [bnd']
    by_cases hh : 1 < (H.filter (fun k => CtP q (ctL L k) == mxL q L)).length
    · have hB : twoB L H q = true := by simp [twoB, hh]
      rw [brn_t (by simp; omega), td, grd_t ⟨by omega, by omega⟩, grd_t (by simp only [List.length_drop]; omega), hq2]
      simp only [getA2]
      rw [grd_t (by omega), grd_t (by omega), hw]
      have ih := turnsR_L N hN L hb h1 hL H hH hHl Q hQl hQ rest (done ++ [q]) f (acc ++ [q]) (by simp [e]) (by simp at hf; omega) (by simp; omega)
      simp only [List.length_append, List.length_cons, List.length_nil, Nat.zero_add] at ih
      have e3 : cellsC (acc ++ [q]) = cellsC acc ++ [.int .i64 q.1, .int .i64 q.2] := by rw [cellsC_app]; rfl
      rw [e3] at ih
      rw [ih, List.filter_cons_of_pos hB]
      simp only [List.append_assoc, List.singleton_append, List.length_append, List.length_cons]
      congr 2; omega
    · have hB : ¬ twoB L H q = true := by simp [twoB]; omega
      rw [brn_f (by simp; omega), hw]
      have ih := turnsR_L N hN L hb h1 hL H hH hHl Q hQl hQ rest (done ++ [q]) f acc (by simp [e]) (by simp at hf; omega) (by simp; omega)
      simp only [List.length_append, List.length_cons, List.length_nil, Nat.zero_add] at ih
      rw [ih, List.filter_cons_of_neg hB, List.length_append]
theorem pairs8 : ∀ n, n ≤ 8 → pairsN 0 n ≤ 1990 := by decide
/-- both lists of turns are one -/
theorem turnsR_ok (N : Nat) (hN : 4000 ≤ N) (L : List (Int × Int)) (h0 : Chk L = 0) :
    m27 N (.lst false L.length (cellsC L)) = some (.tup [.lst false (turnsC ((hullF L).map (ctL L))).length (cellsC (turnsC ((hullF L).map (ctL L)))), .int .i64 0]) := by
  obtain ⟨l1, l8, hb⟩ := Chk_len8 h0
  have hpr := pairs8 L.length l8
  have hql := eqs_len L
  obtain ⟨a1, a2, a3⟩ := hull_facts L
  have hl := hull_lenle L
  have hQ := eqs_bd hb
  have := turnsR_L N hN L hb l1 (by omega) (hullF L) a3 (by omega) (eqs L) (by omega) (fun q hq => bdQ_P (hQ q hq)) (eqs L) [] N [] rfl (by omega) (by simp)
  have et := turns_eq L (fun q => mxL q L) (fun q hq => mxL_is (bdQ_P (hQ q hq)) (by intro h; rw [h] at l1; simp at l1) hb)
  have et' : turnsC ((hullF L).map (ctL L)) = (eqs L).filter (twoB L (hullF L)) := et
  simp only [m27, getL, checkr_ok N L (by omega) (by omega), bnd', getI, if_true]
  rw [brn_f (by simp [h0]), all_ok N hN L hb (by omega) hpr]
  simp only []
  rw [eqs_ok N hN L (by omega) (by omega) hb]
  simp only []
  rw [show m27_L0 N L.length (cellsC L) (hullF L).length (nL (hullF L)) (eqs L).length (cellsC (eqs L)) N 0 0 [] = _ from this]
  simp only [List.nil_append]
  rw [grd_t (by rw [cellsC_len]), et']
theorem turnsG_ok (N : Nat) (hN : 4000 ≤ N) (L : List (Int × Int)) (h0 : Chk L = 0) :
    m26 N (.lst false L.length (cellsC L)) = some (.tup [.lst false (turnsC ((hullF L).map (ctL L))).length (cellsC (turnsC ((hullF L).map (ctL L)))), .int .i64 0]) := by
  obtain ⟨l1, l8, hb⟩ := Chk_len8 h0
  simp only [m26, getL, check_ok N L (by omega) (by omega), bnd', getI, if_true]
  rw [brn_f (by simp [h0]), turns_ok N hN L hb l1 (by omega)]
theorem neededG_ok (N : Nat) (hN : 4000 ≤ N) (L : List (Int × Int)) (h0 : Chk L = 0) : m24 N (.lst false L.length (cellsC L)) = some (.tup [.lst false (hullF L).length (nL (hullF L)), .int .i64 0]) := by
  obtain ⟨l1, l8, hb⟩ := Chk_len8 h0
  simp only [m24, getL, check_ok N L (by omega) (by omega), bnd', getI, if_true]
  rw [brn_f (by simp [h0]), hull_ok N L hb l1 (by omega) (by omega)]
theorem neededR_ok (N : Nat) (hN : 4000 ≤ N) (L : List (Int × Int)) (h0 : Chk L = 0) : m25 N (.lst false L.length (cellsC L)) = some (.tup [.lst false (hullF L).length (nL (hullF L)), .int .i64 0]) := by
  obtain ⟨l1, l8, hb⟩ := Chk_len8 h0
  simp only [m25, getL, checkr_ok N L (by omega) (by omega), bnd', getI, if_true]
  rw [brn_f (by simp [h0]), all_ok N hN L hb (by omega) (pairs8 _ l8)]
theorem eq_L (N : Nat) (T : List (Int × Int)) (hT : T.length ≤ 1000) : ∀ (rest done : List (Int × Int)) (fuel : Nat), T = done ++ rest → rest.length < fuel →
    m4_L0 N T.length (cellsC T) T.length (cellsC T) fuel (done.length : Int) = some (.inr ())
  | [], done, 0, _, h => by simp at h
  | [], done, f + 1, e, _ => by
    have : T.length = done.length := by rw [e]; simp
    rw [m4_L0, brn_f (by simp; omega)]
  | p :: rest, done, 0, _, h => by simp at h
  | p :: rest, done, f + 1, e, hf => by
    have hTe : T.length = done.length + (rest.length + 1) := by rw [e]; simp
    have hct : (cellsC T).length = T.length * 2 := cellsC_len T
    have td : (Int.toNat ((done.length : Nat) : Int)) = done.length := by omega
    have hw : IntKind.i64.wrap ((done.length : Int) + 1) = ((done.length + 1 : Nat) : Int) := by rw [wrap64 (by omega) (by omega)]; omega
    have hp2 : ((cellsC T).drop (done.length * 2)).take 2 = [.int .i64 p.1, .int .i64 p.2] := by rw [e]; exact cellsC_take done p rest
    have ih := eq_L N T hT rest (done ++ [p]) f (by simp [e]) (by simp at hf; omega)
    simp only [List.length_append, List.length_cons, List.length_nil, Nat.zero_add] at ih
    rw [m4_L0, brn_t (by simp; omega), td, grd_t ⟨by omega, by omega⟩, grd_t (by simp only [List.length_drop]; omega), hp2]
    simp only [getA2]
    rw [grd_t (by omega), grd_t (by simp only [List.length_drop]; omega)]
    simp only [getI, if_true]
    rw [brn_f (by simp), hw, ih]
theorem nL_iL (l : List Nat) : nL l = iL (l.map fun (k : Nat) => (k : Int)) := by simp [nL, iL]
theorem law_needs (L : List (Int × Int)) : m4 4000 (.lst false L.length (cellsC L)) = some (.bool true) := by
  have hworks : m15 4000 = some (.bool true) := by simp [m15]
  simp only [m4, getL]
  by_cases h : 40 < L.length
  · rw [brn_t (by simp; omega), hworks]; rfl
  · have hL : L.length ≤ 40 := by omega
    rw [brn_f (by simp; omega), inner_ok 4000 L hL (by omega)]
    simp only [bnd']
    by_cases h0 : Chk L = 0
    · rw [neededG_ok 4000 (by decide) L h0]
      simp only [getT2]
      rw [neededR_ok 4000 (by decide) L h0]
      simp only [getI, if_true]
      rw [turnsG_ok 4000 (by decide) L h0]
      simp only []
      rw [turnsR_ok 4000 (by decide) L h0]
      simp only [if_true]
      have hl := hull_lenle L
      have hs := same_ok 4000 ((hullF L).map fun (k : Nat) => (k : Int)) (by simp; omega) (by decide)
      rw [List.length_map, ← nL_iL] at hs
      rw [hs]
      simp only [getB]
      have htl : (turnsC ((hullF L).map (ctL L))).length ≤ 1000 := by
        have : ∀ C : List (Int × Int), (turnsC C).length ≤ C.length := by
          intro C
          induction C with
          | nil => simp [turnsC]
          | cons a C ih =>
            cases C with
            | nil => simp [turnsC]
            | cons b C => simp only [turnsC, List.length_cons] at ih ⊢; omega
        have := this ((hullF L).map (ctL L))
        simp only [List.length_map] at this; omega
      have hq := eq_L 4000 (turnsC ((hullF L).map (ctL L))) htl (turnsC ((hullF L).map (ctL L))) [] 4000 rfl (by omega)
      rw [brn_t rfl, brn_f (by simp), brn_f (by simp), brn_f (by simp)]
      rw [show m4_L0 4000 (turnsC ((hullF L).map (ctL L))).length (cellsC (turnsC ((hullF L).map (ctL L)))) (turnsC ((hullF L).map (ctL L))).length (cellsC (turnsC ((hullF L).map (ctL L)))) 4000 0 = _ from hq]
      simp only [hworks]
    · have e1 : m24 4000 (.lst false L.length (cellsC L)) = some (.tup [.lst false 0 [], .int .i64 (Chk L)]) := by
        simp only [m24, getL, check_ok 4000 L hL (by omega), bnd', getI, if_true]
        rw [brn_t (by simpa using h0)]
      have e2 : m25 4000 (.lst false L.length (cellsC L)) = some (.tup [.lst false 0 [], .int .i64 (Chk L)]) := by
        simp only [m25, getL, checkr_ok 4000 L hL (by omega), bnd', getI, if_true]
        rw [brn_t (by simpa using h0)]
      have e3 : m26 4000 (.lst false L.length (cellsC L)) = some (.tup [.lst false 0 [], .int .i64 (Chk L)]) := by
        simp only [m26, getL, check_ok 4000 L hL (by omega), bnd', getI, if_true]
        rw [brn_t (by simpa using h0)]
      have e4 : m27 4000 (.lst false L.length (cellsC L)) = some (.tup [.lst false 0 [], .int .i64 (Chk L)]) := by
        simp only [m27, getL, checkr_ok 4000 L hL (by omega), bnd', getI, if_true]
        rw [brn_t (by simpa using h0)]
      rw [e1]
      simp only [getT2]
      rw [e2]
      simp only [getI, if_true]
      rw [e3]
      simp only []
      rw [e4]
      simp only [if_true]
      have hs := same_ok 4000 [] (by simp) (by decide)
      rw [show (PV.lst false ([] : List Int).length (iL [])) = .lst false 0 [] from rfl] at hs
      rw [hs]
      simp only [getB]
      have hq := eq_L 4000 [] (by simp) [] [] 4000 rfl (by simp)
      rw [brn_t rfl, brn_f (by simp), brn_f (by simp), brn_f (by simp)]
      rw [show m4_L0 4000 0 [] 0 [] 4000 0 = _ from hq]
      simp only [hworks]
theorem con4 (x0 : PV) (h0 : PT tab 22 [x0]) : FnP Try.prog 4 [x0] (.bool true) := by
  obtain ⟨L, hL⟩ := contracts_of h0
  exact FnP_le (c4 4000 _ _ (law_needs L)) (.cons _ _ _ _ hL (PLes.refl _)) (.refl _)
end Go.Proofs.Ytgnphlpoofaojaa
