/-
  TurnNeeded: what the functions compute answers as the law says.
  TurnNeeded: the law returns true.
-/
import Derived.Test.YtgnphlpoofaojaaPCoverm
import Derived.Test.YtgnphlpoofaojaaPNeededs
import Derived.Test.YtgnphlpoofaojaaPLawcov
import Derived.Test.YtgnphlpoofaojaaRows
import Derived.Test.YtgnphlpoofaojaaB
import Derived.Test.YtgnphlpoofaojaaK
import Derived.Test.YtgnphlpoofaojaaV31
import Derived.WalkKit
import Derived.ProofKit
import Derived.OpenShut
namespace Go.Proofs.Ytgnphlpoofaojaa
open Go.V

theorem nL_at {H : List Nat} {i : Nat} (h : i < H.length) : gp (nL H) i = .int .i64 (H[i] : Int) := by
  simp [nL, gp, List.getD, h]
theorem ctL_get {L : List (Int × Int)} {i : Nat} (h : i < L.length) : ctL L i = L[i] := by
  simp [ctL, List.getD, h]
theorem asc_ct {C : List (Int × Int)} (h : Asc C) {i j : Nat} (hij : i < j) (hj : j < C.length) : (ctL C i).2 < (ctL C j).2 := by
  have := List.pairwise_iff_getElem.1 h i j (by omega) hj hij
  rw [ctL_get (by omega), ctL_get hj]; exact this
theorem map_ct {L : List (Int × Int)} {H : List Nat} {i : Nat} (h : i < H.length) : ctL (H.map (ctL L)) i = ctL L H[i] := by
  rw [ctL_get (by simpa using h)]; simp
theorem nd_L0 (N : Nat) (L : List (Int × Int)) (hL : L.length ≤ 8) (H : List Nat) (hH : ∀ k ∈ H, k < L.length) (hHl : H.length ≤ 100) (hA : Asc (H.map (ctL L))) (n3 : Nat) (c3 : List PV) : ∀ (r i fuel : Nat), H.length - i = r → r < fuel →
    m12_L0 N L.length (cellsC L) H.length (nL H) n3 c3 fuel (i : Int) = some (.inr ())
  | r, i, 0, _, h => by omega
  | r, i, f + 1, hr, hf => by
    have hnl : (nL H).length = H.length := nL_len H
    have hcl : (cellsC L).length = L.length * 2 := cellsC_len L
    rw [m12_L0]
    by_cases hi : i < H.length
    · have hw : IntKind.i64.wrap ((i : Int) + 1) = ((i + 1 : Nat) : Int) := by rw [wrap64 (by omega) (by omega)]; omega
      have ti : (Int.toNat (i : Int)) = i := by omega
      have hk := hH _ (List.getElem_mem hi)
      have ih := nd_L0 N L hL H hH hHl hA n3 c3 (r - 1) (i + 1) f (by omega) (by omega)
      rw [brn_t (by simp; omega), ti, grd_t ⟨by omega, by omega⟩, grd_t (by simp only [List.length_drop]; omega), nL_at hi]
      simp only [getI, if_true]
      rw [brn_f (by simp), brn_f (by simp; omega)]
      by_cases h0 : i = 0
      · rw [brn_f (by simp; omega), hw, ih]
      · have hw2 : IntKind.i64.wrap ((i : Int) - 1) = ((i - 1 : Nat) : Int) := by rw [wrap64 (by omega) (by omega)]; omega
        have hj : i - 1 < H.length := by omega
        have hkj := hH _ (List.getElem_mem hj)
        have tj : (Int.toNat ((i - 1 : Nat) : Int)) = i - 1 := by omega
        have tkj : (Int.toNat ((H[i - 1] : Nat) : Int)) = H[i - 1] := by omega
        have tk : (Int.toNat ((H[i] : Nat) : Int)) = H[i] := by omega
        have hlt := asc_ct hA (i := i - 1) (j := i) (by omega) (by simpa using hi)
        rw [map_ct hj, map_ct hi] at hlt
        rw [brn_t (by simp; omega), hw2, tj, grd_t ⟨by omega, by omega⟩, grd_t (by simp only [List.length_drop]; omega), nL_at hj]
        simp only [getI, if_true]
        rw [grd_t ⟨by omega, by omega⟩, tkj, grd_t (by simp only [List.length_drop]; omega), gpc1 hkj]
        simp only [if_true]
        rw [grd_t ⟨by omega, by omega⟩, tk, grd_t (by simp only [List.length_drop]; omega), gpc1 hk]
        simp only [if_true]
        rw [brn_f (by simp; omega), hw, ih]
    · rw [brn_f (by simp; omega)]

theorem turnsC_ct : ∀ (C : List (Int × Int)) (j : Nat), j + 1 < C.length → ctL (turnsC C) j = crossP (ctL C j) (ctL C (j + 1))
  | [], _, h => by simp at h
  | [_], _, h => by simp at h
  | a :: b :: r, 0, _ => rfl
  | a :: b :: r, j + 1, h => by
    have := turnsC_ct (b :: r) j (by simpa using h)
    simpa [turnsC, ctL] using this
theorem less_ct {T : List (Int × Int)} (h : T.Pairwise lessP) {i j : Nat} (hij : i < j) (hj : j < T.length) : lessP (ctL T i) (ctL T j) := by
  have := List.pairwise_iff_getElem.1 h i j (by omega) hj hij
  rw [ctL_get (by omega), ctL_get hj]; exact this
theorem mono_up (g : Nat → Int) (i : Nat) (h : ∀ j, j < i → g j ≤ g (j + 1)) : ∀ d j, j + d = i → g j ≤ g i
  | 0, j, e => by rw [← e]; exact Int.le_refl _
  | d + 1, j, e => Int.le_trans (h j (by omega)) (mono_up g i h d (j + 1) (by omega))
theorem mono_dn (g : Nat → Int) (i n : Nat) (h : ∀ j, i ≤ j → j + 1 < n → g (j + 1) ≤ g j) : ∀ d j, i + d = j → j < n → g j ≤ g i
  | 0, j, e, _ => by rw [← e]; exact Int.le_refl _
  | d + 1, j, e, hj => by
    obtain ⟨k, rfl⟩ : ∃ k, j = k + 1 := ⟨j - 1, by omega⟩
    exact Int.le_trans (h k (by omega) hj) (mono_dn g i n h d k (by omega) (by omega))
theorem turn_eq {C : List (Int × Int)} (hA : Asc C) {i : Nat} (hi : i + 1 < C.length) : CtP (ctL (turnsC C) i) (ctL C i) = CtP (ctL (turnsC C) i) (ctL C (i + 1)) := by
  have hab := asc_ct hA (i := i) (j := i + 1) (by omega) hi
  have hp : 0 < (ctL (turnsC C) i).2 := by rw [turnsC_ct C i hi]; exact (cross_sp (by omega)).1
  obtain ⟨h1, h2⟩ := cross_lt hab hp
  rw [← turnsC_ct C i hi] at h1 h2
  have n1 : ¬ _ := fun h => less_irr _ (h1.1 h)
  have n2 : ¬ _ := fun h => less_irr _ (h2.1 h)
  omega
theorem turn_mx {L C : List (Int × Int)} (hc : Chain L C) {i : Nat} (hi : i + 1 < C.length) {M : Int} (hM : IsMx L (ctL (turnsC C) i) M) : M = CtP (ctL (turnsC C) i) (ctL C i) := by
  have hT := (turnsC_srt hc.asc hc.cha).1
  have hTl : (turnsC C).length = C.length - 1 := turnsC_len' C
  have hpos : ∀ j, j + 1 < C.length → 0 < (ctL (turnsC C) j).2 := fun j hj => by
    have hab := asc_ct hc.asc (i := j) (j := j + 1) (by omega) hj
    rw [turnsC_ct C j hj]; exact (cross_sp (by omega)).1
  have step : ∀ j, j + 1 < C.length → (CtP (ctL (turnsC C) i) (ctL C j) < CtP (ctL (turnsC C) i) (ctL C (j + 1)) ↔ lessP (ctL (turnsC C) j) (ctL (turnsC C) i)) ∧ (CtP (ctL (turnsC C) i) (ctL C (j + 1)) < CtP (ctL (turnsC C) i) (ctL C j) ↔ lessP (ctL (turnsC C) i) (ctL (turnsC C) j)) := fun j hj => by
    have hab := asc_ct hc.asc (i := j) (j := j + 1) (by omega) hj
    rw [turnsC_ct C j hj]
    exact cross_lt hab (hpos i hi)
  refine mx_chain hc (hpos i hi) hM (by rw [ctL_get (by omega)]; exact List.getElem_mem _) fun d hd => ?_
  obtain ⟨j, hj, rfl⟩ := mem_ctL hd
  rcases Nat.lt_or_ge i j with h | h
  · exact mono_dn (fun j => CtP (ctL (turnsC C) i) (ctL C j)) i C.length (fun j h1 h2 => by
      have := (step j h2).1
      have n1 : ¬ lessP (ctL (turnsC C) j) (ctL (turnsC C) i) := by
        rcases Nat.eq_or_lt_of_le h1 with e | h1
        · rw [← e]; exact less_irr _
        · exact less_asym (less_ct hT h1 (by omega))
      exact Int.not_lt.1 fun h => n1 (this.1 h)) (j - i) j (by omega) hj
  · exact mono_up (fun j => CtP (ctL (turnsC C) i) (ctL C j)) i (fun j h1 => by
      have := (step j (by omega)).1.2 (less_ct hT h1 (by omega))
      omega) (i - j) j (by omega)
theorem mosta_x (N : Nat) (hN : 4000 ≤ N) (L : List (Int × Int)) (h1 : 1 ≤ L.length) (hL : L.length ≤ 40) (q : Int × Int) : m39 N (.lst false L.length (cellsC L)) (.agg [.int .i64 q.1, .int .i64 q.2]) = some (.int .i64 (mxL q L)) := by
  cases L with
  | nil => simp at h1
  | cons p l => exact mosta_ok N p l hL (by omega) q.1 q.2
theorem nd_L1 (N : Nat) (hN : 4000 ≤ N) (L : List (Int × Int)) (h1 : 1 ≤ L.length) (hL : L.length ≤ 8) (hb : ∀ q ∈ L, bdC q) (H : List Nat) (hH : ∀ k ∈ H, k < L.length) (hHl : H.length ≤ 100) (hc : Chain L (H.map (ctL L))) : ∀ (r i fuel : Nat), (turnsC (H.map (ctL L))).length - i = r → r < fuel →
    m12_L1 N L.length (cellsC L) H.length (nL H) (turnsC (H.map (ctL L))).length (cellsC (turnsC (H.map (ctL L)))) fuel (i : Int) = some (.inr ())
  | r, i, 0, _, h => by omega
  | r, i, f + 1, hr, hf => by
    have hnl : (nL H).length = H.length := nL_len H
    have hcl : (cellsC L).length = L.length * 2 := cellsC_len L
    have hTl : (turnsC (H.map (ctL L))).length = H.length - 1 := by rw [turnsC_len']; simp
    have hct : (cellsC (turnsC (H.map (ctL L)))).length = (turnsC (H.map (ctL L))).length * 2 := cellsC_len _
    rw [m12_L1]
    by_cases hi : i < (turnsC (H.map (ctL L))).length
    · have hw : IntKind.i64.wrap ((i : Int) + 1) = ((i + 1 : Nat) : Int) := by rw [wrap64 (by omega) (by omega)]; omega
      have ti : (Int.toNat (i : Int)) = i := by omega
      have ti1 : (Int.toNat ((i + 1 : Nat) : Int)) = i + 1 := by omega
      have hia : i < H.length := by omega
      have hib : i + 1 < H.length := by omega
      have ka := hH _ (List.getElem_mem hia)
      have kb := hH _ (List.getElem_mem hib)
      have ta : (Int.toNat ((H[i] : Nat) : Int)) = H[i] := by omega
      have tb : (Int.toNat ((H[i + 1] : Nat) : Int)) = H[i + 1] := by omega
      have hlt := asc_ct hc.asc (i := i) (j := i + 1) (by omega) (by simpa using hib)
      have hq : ∀ j, j < (turnsC (H.map (ctL L))).length → bdQ (ctL (turnsC (H.map (ctL L))) j) ∧ Red (ctL (turnsC (H.map (ctL L))) j) := fun j hj => by
        have hlt := asc_ct hc.asc (i := j) (j := j + 1) (by omega) (by simp; omega)
        rw [turnsC_ct _ j (by simp; omega)]
        exact ⟨cross_bd (hb _ (hc.sub _ (by rw [ctL_get (by simp; omega)]; exact List.getElem_mem _))) (hb _ (hc.sub _ (by rw [ctL_get (by simp; omega)]; exact List.getElem_mem _))) (by omega), low_red _ _ (by omega)⟩
      obtain ⟨q1, q2⟩ := hq i hi
      have e1 := turn_eq hc.asc (i := i) (by simp; omega)
      have e2 := turn_mx hc (i := i) (by simp; omega) (mxL_is (bdQ_P q1) (L := L) (by intro h; rw [h] at h1; simp at h1) hb)
      have hord : i ≠ 0 → lessP (ctL (turnsC (H.map (ctL L))) (i - 1)) (ctL (turnsC (H.map (ctL L))) i) := fun h0 => less_ct (turnsC_srt hc.asc hc.cha).1 (by omega) hi
      have ih := nd_L1 N hN L h1 hL hb H hH hHl hc (r - 1) (i + 1) f (by omega) (by omega)
      rw [map_ct hia] at e1 e2
      rw [map_ct hib] at e1
      have hT : ∀ j, j < (turnsC (H.map (ctL L))).length → List.take 2 (List.drop (j * 2) (cellsC (turnsC (H.map (ctL L))))) = [.int .i64 (ctL (turnsC (H.map (ctL L))) j).1, .int .i64 (ctL (turnsC (H.map (ctL L))) j).2] := fun j hj => cellsC_at (ctL_at hj)
      have hprev : i ≠ 0 → bdQ (ctL (turnsC (H.map (ctL L))) (i - 1)) := fun h0 => (hq (i - 1) (by omega)).1
      generalize hTT : turnsC (H.map (ctL L)) = T at *
      generalize hpp : ctL T i = p at *
      have wa := Wt_P (bdQ_P q1) (hb _ (ctL_mem ka))
      have wb := Wt_P (bdQ_P q1) (hb _ (ctL_mem kb))
      have pr := proper_ok N (by omega) p q2 (by unfold bdQ at q1; omega) (by unfold bdQ at q1; omega)
      rw [brn_t (by simp; omega), ti, grd_t ⟨by omega, by omega⟩, grd_t (by simp only [List.length_drop]; omega), hT i hi, hpp]
      simp only [getA2, getI, if_true]
      rw [grd_t (by omega), grd_t (by simp only [List.length_drop]; omega), nL_at hia]
      simp only [if_true]
      rw [grd_t ⟨by omega, by omega⟩, ta, grd_t (by simp only [List.length_drop]; omega), cellsC_at (ctL_at ka)]
      simp only []
      rw [hw, grd_t ⟨by omega, by omega⟩, ti1, grd_t (by simp only [List.length_drop]; omega), nL_at hib]
      simp only [if_true]
      rw [grd_t ⟨by omega, by omega⟩, tb, grd_t (by simp only [List.length_drop]; omega), cellsC_at (ctL_at kb)]
      simp only [if_true]
      rw [show m37 N (.agg [.int .i64 p.1, .int .i64 p.2]) = some (.bool true) from pr]
      simp only [bnd', getB]
      rw [brn_t rfl, at41_ok, at41_ok]
      simp only [if_true, wa, wb]
      rw [brn_f (by simpa using e1), mosta_x N hN L h1 (by omega) p]
      simp only [if_true]
      rw [brn_f (by simpa using e2.symm)]
      by_cases h0 : i = 0
      · rw [brn_f (by simp; omega), ih]
      · have hw2 : IntKind.i64.wrap ((i : Int) - 1) = ((i - 1 : Nat) : Int) := by rw [wrap64 (by omega) (by omega)]; omega
        have tj : (Int.toNat ((i - 1 : Nat) : Int)) = i - 1 := by omega
        have ho := hord h0
        have hpv := hprev h0
        rw [brn_t (by simp; omega), hw2, tj, grd_t ⟨by omega, by omega⟩, grd_t (by simp only [List.length_drop]; omega), hT (i - 1) (by omega)]
        simp only []
        rw [least_ok N (by unfold bdQ at hpv; omega) (by unfold bdQ at q1; omega)]
        simp only [if_true]
        unfold lessP at ho
        rw [brn_f (by simp; omega), ih]
    · rw [brn_f (by simp; omega)]

def rawB (c k : Int × Int) : Int × Int := (c.1 - k.1, k.2 - c.2)
def rawA (c k : Int × Int) : Int × Int := (k.1 - c.1, c.2 - k.2)
def pkF (p : Int × Int) : Option (Int × Int) → Int × Int
  | none => p
  | some q => if lessP q p then p else q
def pkT (p : Int × Int) : Option (Int × Int) → Int × Int
  | none => p
  | some q => if lessP p q then p else q
def fromF (k : Int × Int) (o : Option (Int × Int)) (c : Int × Int) : Option (Int × Int) :=
  if c.2 < k.2 then some (pkF (rawB c k) o) else o
def toF (k : Int × Int) (o : Option (Int × Int)) (c : Int × Int) : Option (Int × Int) :=
  if k.2 < c.2 then some (pkT (rawA c k) o) else o
def wantF (L : List (Int × Int)) (k : Nat) (b : Bool) (i : Nat) : Bool :=
  if ctL L i = ctL L k then b && decide (k ≤ i) else if (ctL L i).2 = (ctL L k).2 then b && decide ((ctL L i).1 < (ctL L k).1) else b
def encP : Option (Int × Int) → PV
  | none => .fn 999999 [.bool true]
  | some q => .ipt [.int .i64 q.1, .int .i64 q.2]
theorem getP_np {α : Type} {a : Option α} {b : List PV → Option α} : getP (.fn 999999 [.bool true]) a b = a := rfl
theorem getP_ip {α : Type} {cs : List PV} {a : Option α} {b : List PV → Option α} : getP (.ipt cs) a b = b cs := rfl
def bdO (o : Option (Int × Int)) : Prop := ∀ q, o = some q → bdQ q
theorem bdQ_L {q : Int × Int} (h : bdQ q) : -200000 ≤ q.1 ∧ q.1 ≤ 200000 ∧ 1 ≤ q.2 ∧ q.2 ≤ 1000 := by unfold bdQ at h; omega
theorem rawB_bd {c k : Int × Int} (hc : bdC c) (hk : bdC k) (h : c.2 < k.2) : bdQ (rawB c k) := by unfold bdC at *; unfold bdQ rawB; simp only; omega
theorem rawA_bd {c k : Int × Int} (hc : bdC c) (hk : bdC k) (h : k.2 < c.2) : bdQ (rawA c k) := by unfold bdC at *; unfold bdQ rawA; simp only; omega
theorem fromF_bd {c k : Int × Int} {o : Option (Int × Int)} (hc : bdC c) (hk : bdC k) (ho : bdO o) : bdO (fromF k o c) := by
  intro q hq
  unfold fromF at hq
  split at hq
  · rename_i h
    have hr := rawB_bd hc hk h
    cases o with
    | none => simp only [Option.some.injEq, pkF, pkT] at hq; rw [← hq]; exact hr
    | some x => simp only [Option.some.injEq, pkF, pkT] at hq; rw [← hq]; split; exact hr; exact ho x rfl
  · exact ho q hq
theorem toF_bd {c k : Int × Int} {o : Option (Int × Int)} (hc : bdC c) (hk : bdC k) (ho : bdO o) : bdO (toF k o c) := by
  intro q hq
  unfold toF at hq
  split at hq
  · rename_i h
    have hr := rawA_bd hc hk h
    cases o with
    | none => simp only [Option.some.injEq, pkF, pkT] at hq; rw [← hq]; exact hr
    | some x => simp only [Option.some.injEq, pkF, pkT] at hq; rw [← hq]; split; exact hr; exact ho x rfl
  · exact ho q hq
theorem nd_L3 (N : Nat) (L : List (Int × Int)) (hL : L.length ≤ 8) (hb : ∀ q ∈ L, bdC q) (n2 : Nat) (c2 : List PV) (k : Nat) (hk : k < L.length) : ∀ (r i fuel : Nat) (o1 o2 : Option (Int × Int)) (b : Bool), L.length - i = r → r < fuel → bdO o1 → bdO o2 →
    m12_L3 N L.length (cellsC L) n2 c2 (k : Int) fuel (encP o1) (encP o2) b (i : Int) =
      some (encP ((List.range' i (L.length - i)).foldl (fun o j => fromF (ctL L k) o (ctL L j)) o1), encP ((List.range' i (L.length - i)).foldl (fun o j => toF (ctL L k) o (ctL L j)) o2), (List.range' i (L.length - i)).foldl (wantF L k) b)
  | r, i, 0, _, _, _, _, h, _, _ => by omega
  | r, i, f + 1, o1, o2, b, hr, hf, ho1, ho2 => by
    have hcl : (cellsC L).length = L.length * 2 := cellsC_len L
    have tk : (Int.toNat (k : Int)) = k := by omega
    have ti : (Int.toNat (i : Int)) = i := by omega
    rw [m12_L3]
    by_cases hi : i < L.length
    · have hw : IntKind.i64.wrap ((i : Int) + 1) = ((i + 1 : Nat) : Int) := by rw [wrap64 (by omega) (by omega)]; omega
      have bi := hb _ (ctL_mem hi)
      have bk := hb _ (ctL_mem hk)
      have ih := fun o1 o2 b h1 h2 => nd_L3 N L hL hb n2 c2 k hk (r - 1) (i + 1) f o1 o2 b (by omega) (by omega) h1 h2
      have g1 := gpc1 hk
      have g0 := gpc0 hk
      rw [range'_step hi, List.foldl_cons, List.foldl_cons, List.foldl_cons]
      rw [brn_t (by simp; omega), ti, grd_t ⟨by omega, by omega⟩, grd_t (by simp only [List.length_drop]; omega), cellsC_at (ctL_at hi)]
      simp only [getA2, getI, if_true]
      rw [grd_t ⟨by omega, by omega⟩, tk, grd_t (by simp only [List.length_drop]; omega), cellsC_at (ctL_at hk)]
      simp only [if_true]
      rw [eqC, hw]
      by_cases h : ctL L i = ctL L k
      · have e1 : fromF (ctL L k) o1 (ctL L i) = o1 := by unfold fromF; rw [h, if_neg (by omega)]
        have e2 : toF (ctL L k) o2 (ctL L i) = o2 := by unfold toF; rw [h, if_neg (by omega)]
        have e3 : wantF L k b i = (b && decide (k ≤ i)) := by unfold wantF; rw [if_pos h]
        rw [brn_t (by simpa using h), e1, e2, e3]
        cases b with
        | true =>
          have e4 : decide ((i : Int) ≥ (k : Int)) = decide (k ≤ i) := by rw [decide_eq_decide]; omega
          rw [brn_t rfl, ih _ _ _ ho1 ho2, e4, Bool.true_and]
        | false => rw [brn_f rfl, ih _ _ _ ho1 ho2, Bool.false_and]
      · rw [brn_f (by simpa using h), grd_t (by simp only [List.length_drop]; omega), g1]
        simp only [if_true]
        generalize hci : ctL L i = c at *
        generalize hck : ctL L k = d at *
        by_cases h2 : c.2 = d.2
        · have e1 : fromF d o1 c = o1 := by unfold fromF; rw [if_neg (by omega)]
          have e2 : toF d o2 c = o2 := by unfold toF; rw [if_neg (by omega)]
          have e3 : wantF L k b i = (b && decide (c.1 < d.1)) := by unfold wantF; rw [hci, hck, if_neg h, if_pos h2]
          rw [brn_t (by simpa using h2), e1, e2, e3]
          cases b with
          | true =>
            rw [brn_t rfl, grd_t (by simp only [List.length_drop]; omega), g0]
            simp only [if_true]
            rw [ih _ _ _ ho1 ho2, Bool.true_and]
          | false => rw [brn_f rfl, ih _ _ _ ho1 ho2, Bool.false_and]
        · have e3 : wantF L k b i = b := by unfold wantF; rw [hci, hck, if_neg h, if_neg h2]
          rw [brn_f (by simpa using h2), e3]
          by_cases h3 : c.2 < d.2
          · have e2 : toF d o2 c = o2 := by unfold toF; rw [if_neg (by omega)]
            have hq := rawB_bd bi bk h3
            have hn1 := fromF_bd bi bk ho1
            have w1 : IntKind.i64.wrap (c.1 - d.1) = (rawB c d).1 := by unfold bdC at bi bk; rw [wrap64 (by omega) (by omega)]; rfl
            have w2 : IntKind.i64.wrap (d.2 - c.2) = (rawB c d).2 := by unfold bdC at bi bk; rw [wrap64 (by omega) (by omega)]; rfl
            rw [brn_t (by simpa using h3), grd_t (by simp only [List.length_drop]; omega), g0]
            simp only [if_true, m40, bnd', w1, w2]
            rw [e2]
            have e1 : fromF d o1 c = some (pkF (rawB c d) o1) := by unfold fromF; rw [if_pos h3]
            rw [e1] at hn1 ⊢
            generalize rawB c d = p at *
            cases o1 with
            | none =>
              show getP (.fn 999999 [.bool true]) _ _ = _
              rw [getP_np]
              exact ih (some p) o2 b hn1 ho2
            | some q =>
              have hqq := ho1 q rfl
              show getP (.ipt [.int .i64 q.1, .int .i64 q.2]) _ _ = _
              rw [getP_ip, grd_t (by simp)]
              simp only [List.take, getA2]
              rw [least_ok N (bdQ_L hqq) (bdQ_L hq)]
              simp only [if_true]
              simp only [pkF] at hn1 ⊢
              by_cases hl : lessP q p
              · rw [brn_t (by unfold lessP at hl; simp; omega)]
                rw [if_pos hl] at hn1 ⊢
                exact ih (some p) o2 b hn1 ho2
              · rw [brn_f (by unfold lessP at hl; simp; omega)]
                rw [if_neg hl] at hn1 ⊢
                exact ih (some q) o2 b hn1 ho2
          · have h4 : d.2 < c.2 := by omega
            have e1 : fromF d o1 c = o1 := by unfold fromF; rw [if_neg (by omega)]
            have hq := rawA_bd bi bk h4
            have hn2 := toF_bd bi bk ho2
            have w1 : IntKind.i64.wrap (d.1 - c.1) = (rawA c d).1 := by unfold bdC at bi bk; rw [wrap64 (by omega) (by omega)]; rfl
            have w2 : IntKind.i64.wrap (c.2 - d.2) = (rawA c d).2 := by unfold bdC at bi bk; rw [wrap64 (by omega) (by omega)]; rfl
            rw [brn_f (by simpa using h3), grd_t (by simp only [List.length_drop]; omega), g0]
            simp only [if_true, m40, bnd', w1, w2]
            rw [e1]
            have e2 : toF d o2 c = some (pkT (rawA c d) o2) := by unfold toF; rw [if_pos h4]
            rw [e2] at hn2 ⊢
            generalize rawA c d = p at *
            cases o2 with
            | none =>
              show getP (.fn 999999 [.bool true]) _ _ = _
              rw [getP_np]
              exact ih o1 (some p) b ho1 hn2
            | some q =>
              have hqq := ho2 q rfl
              show getP (.ipt [.int .i64 q.1, .int .i64 q.2]) _ _ = _
              rw [getP_ip, grd_t (by simp)]
              simp only [List.take, getA2]
              rw [least_ok N (bdQ_L hq) (bdQ_L hqq)]
              simp only [if_true]
              simp only [pkT] at hn2 ⊢
              by_cases hl : lessP p q
              · rw [brn_t (by unfold lessP at hl; simp; omega)]
                rw [if_pos hl] at hn2 ⊢
                exact ih o1 (some p) b ho1 hn2
              · rw [brn_f (by unfold lessP at hl; simp; omega)]
                rw [if_neg hl] at hn2 ⊢
                exact ih o1 (some q) b ho1 hn2
    · rw [brn_f (by simp; omega), show L.length - i = 0 by omega]; rfl

theorem from_sp (L : List (Int × Int)) (k : Int × Int) : ∀ (l : List Nat) (o : Option (Int × Int)), (∀ q, o = some q → 0 < q.2) →
    (∀ q, l.foldl (fun o j => fromF k o (ctL L j)) o = some q → 0 < q.2) ∧
    ∀ x : Int × Int, 0 < x.2 → ((∀ q, l.foldl (fun o j => fromF k o (ctL L j)) o = some q → lessP q x) ↔ ((∀ q, o = some q → lessP q x) ∧ ∀ j ∈ l, (ctL L j).2 < k.2 → lessP (rawB (ctL L j) k) x))
  | [], o, h => ⟨h, fun x hx => by simp⟩
  | j :: l, o, h => by
    have hst : (∀ q, fromF k o (ctL L j) = some q → 0 < q.2) ∧ ∀ x : Int × Int, 0 < x.2 → ((∀ q, fromF k o (ctL L j) = some q → lessP q x) ↔ ((∀ q, o = some q → lessP q x) ∧ ((ctL L j).2 < k.2 → lessP (rawB (ctL L j) k) x))) := by
      unfold fromF
      by_cases hc : (ctL L j).2 < k.2
      · have hr : 0 < (rawB (ctL L j) k).2 := by unfold rawB; simp only; omega
        simp only [if_pos hc]
        cases o with
        | none =>
          refine ⟨fun q e => ?_, fun x hx => ?_⟩
          · cases e; exact hr
          · constructor
            · intro h1; exact ⟨fun q e => (by cases e), fun _ => h1 _ rfl⟩
            · intro h1 q e; cases e; exact h1.2 hc
        | some y =>
          have hy := h y rfl
          simp only [pkF, pkT]
          by_cases hl : lessP y (rawB (ctL L j) k)
          · simp only [if_pos hl]
            refine ⟨fun q e => ?_, fun x hx => ?_⟩
            · cases e; exact hr
            · constructor
              · intro h1; exact ⟨fun q e => (by cases e; exact less_trans hy hr hx hl (h1 _ rfl)), fun _ => h1 _ rfl⟩
              · intro h1 q e; cases e; exact h1.2 hc
          · simp only [if_neg hl]
            refine ⟨fun q e => ?_, fun x hx => ?_⟩
            · cases e; exact hy
            · constructor
              · intro h1
                refine ⟨fun q e => (by cases e; exact h1 _ rfl), fun _ => ?_⟩
                have h2 := h1 _ rfl
                by_cases h3 : lessP (rawB (ctL L j) k) x
                · exact h3
                · exact absurd (less_tot hy hx hr h2 h3) hl
              · intro h1 q e; cases e; exact h1.1 _ rfl
      · simp only [if_neg hc]
        exact ⟨h, fun x hx => ⟨fun h1 => ⟨h1, fun h => absurd h hc⟩, fun h1 => h1.1⟩⟩
    obtain ⟨s1, s2⟩ := hst
    obtain ⟨r1, r2⟩ := from_sp L k l (fromF k o (ctL L j)) s1
    refine ⟨r1, fun x hx => ?_⟩
    rw [List.foldl_cons, r2 x hx, s2 x hx]
    constructor
    · rintro ⟨⟨a, b⟩, c⟩
      exact ⟨a, fun i hi => by rcases List.mem_cons.1 hi with rfl | hi; exact b; exact c i hi⟩
    · rintro ⟨a, c⟩
      exact ⟨⟨a, c j (by simp)⟩, fun i hi => c i (by simp [hi])⟩
theorem to_sp (L : List (Int × Int)) (k : Int × Int) : ∀ (l : List Nat) (o : Option (Int × Int)), (∀ q, o = some q → 0 < q.2) →
    (∀ q, l.foldl (fun o j => toF k o (ctL L j)) o = some q → 0 < q.2) ∧
    ∀ x : Int × Int, 0 < x.2 → ((∀ q, l.foldl (fun o j => toF k o (ctL L j)) o = some q → lessP x q) ↔ ((∀ q, o = some q → lessP x q) ∧ ∀ j ∈ l, k.2 < (ctL L j).2 → lessP x (rawA (ctL L j) k)))
  | [], o, h => ⟨h, fun x hx => by simp⟩
  | j :: l, o, h => by
    have hst : (∀ q, toF k o (ctL L j) = some q → 0 < q.2) ∧ ∀ x : Int × Int, 0 < x.2 → ((∀ q, toF k o (ctL L j) = some q → lessP x q) ↔ ((∀ q, o = some q → lessP x q) ∧ (k.2 < (ctL L j).2 → lessP x (rawA (ctL L j) k)))) := by
      unfold toF
      by_cases hc : k.2 < (ctL L j).2
      · have hr : 0 < (rawA (ctL L j) k).2 := by unfold rawA; simp only; omega
        simp only [if_pos hc]
        cases o with
        | none =>
          refine ⟨fun q e => ?_, fun x hx => ?_⟩
          · cases e; exact hr
          · constructor
            · intro h1; exact ⟨fun q e => (by cases e), fun _ => h1 _ rfl⟩
            · intro h1 q e; cases e; exact h1.2 hc
        | some y =>
          have hy := h y rfl
          simp only [pkF, pkT]
          by_cases hl : lessP (rawA (ctL L j) k) y
          · simp only [if_pos hl]
            refine ⟨fun q e => ?_, fun x hx => ?_⟩
            · cases e; exact hr
            · constructor
              · intro h1; exact ⟨fun q e => (by cases e; exact less_trans hx hr hy (h1 _ rfl) hl), fun _ => h1 _ rfl⟩
              · intro h1 q e; cases e; exact h1.2 hc
          · simp only [if_neg hl]
            refine ⟨fun q e => ?_, fun x hx => ?_⟩
            · cases e; exact hy
            · constructor
              · intro h1
                exact ⟨fun q e => (by cases e; exact h1 _ rfl), fun _ => less_tot hx hy hr (h1 _ rfl) hl⟩
              · intro h1 q e; cases e; exact h1.1 _ rfl
      · simp only [if_neg hc]
        exact ⟨h, fun x hx => ⟨fun h1 => ⟨h1, fun h => absurd h hc⟩, fun h1 => h1.1⟩⟩
    obtain ⟨s1, s2⟩ := hst
    obtain ⟨r1, r2⟩ := to_sp L k l (toF k o (ctL L j)) s1
    refine ⟨r1, fun x hx => ?_⟩
    rw [List.foldl_cons, r2 x hx, s2 x hx]
    constructor
    · rintro ⟨⟨a, b⟩, c⟩
      exact ⟨a, fun i hi => by rcases List.mem_cons.1 hi with rfl | hi; exact b; exact c i hi⟩
    · rintro ⟨a, c⟩
      exact ⟨⟨a, c j (by simp)⟩, fun i hi => c i (by simp [hi])⟩
theorem want_sp (L : List (Int × Int)) (k : Nat) : ∀ (l : List Nat) (b : Bool), l.foldl (wantF L k) b = true ↔ b = true ∧ ∀ j ∈ l, (ctL L j = ctL L k → k ≤ j) ∧ (ctL L j ≠ ctL L k → (ctL L j).2 = (ctL L k).2 → (ctL L j).1 < (ctL L k).1)
  | [], b => by simp
  | j :: l, b => by
    rw [List.foldl_cons, want_sp L k l]
    have hst : wantF L k b j = true ↔ b = true ∧ (ctL L j = ctL L k → k ≤ j) ∧ (ctL L j ≠ ctL L k → (ctL L j).2 = (ctL L k).2 → (ctL L j).1 < (ctL L k).1) := by
      unfold wantF
      by_cases h : ctL L j = ctL L k
      · simp [h]
      · by_cases h2 : (ctL L j).2 = (ctL L k).2
        · simp [h, h2]
        · simp [h, h2]
    rw [hst]
    constructor
    · rintro ⟨⟨a, b⟩, c⟩
      exact ⟨a, fun i hi => by rcases List.mem_cons.1 hi with rfl | hi; exact b; exact c i hi⟩
    · rintro ⟨a, c⟩
      exact ⟨⟨a, c j (by simp)⟩, fun i hi => c i (by simp [hi])⟩
def frF (L : List (Int × Int)) (k : Nat) : Option (Int × Int) := (List.range' 0 L.length).foldl (fun o j => fromF (ctL L k) o (ctL L j)) none
def tF (L : List (Int × Int)) (k : Nat) : Option (Int × Int) := (List.range' 0 L.length).foldl (fun o j => toF (ctL L k) o (ctL L j)) none
def wF (L : List (Int × Int)) (k : Nat) : Bool := (List.range' 0 L.length).foldl (wantF L k) true
def openB : Option (Int × Int) → Option (Int × Int) → Bool
  | some a, some b => decide (lessP a b)
  | _, _ => true
theorem lessB {c k p : Int × Int} : lessP (rawB c k) p ↔ CtP p c < CtP p k := by
  unfold lessP rawB CtP
  simp only [Int.sub_mul, Int.mul_sub, Int.mul_comm p.1]
  omega
theorem lessA {c k p : Int × Int} : lessP p (rawA c k) ↔ CtP p c < CtP p k := by
  unfold lessP rawA CtP
  simp only [Int.sub_mul, Int.mul_sub, Int.mul_comm p.1]
  omega
theorem open_ex {a b : Option (Int × Int)} (ha : ∀ q, a = some q → 0 < q.2) (hb : ∀ q, b = some q → 0 < q.2) : openB a b = true ↔ ∃ x : Int × Int, 0 < x.2 ∧ (∀ q, a = some q → lessP q x) ∧ (∀ q, b = some q → lessP x q) := by
  cases a with
  | none =>
    cases b with
    | none => simp only [openB, true_iff]; exact ⟨(0, 1), by decide, fun q e => (by cases e), fun q e => (by cases e)⟩
    | some y =>
      have hy := hb y rfl
      simp only [openB, true_iff]
      exact ⟨dnP y, by unfold dnP; exact hy, fun q e => (by cases e), fun q e => (by cases e; exact dn_r hy)⟩
  | some y =>
    have hy := ha y rfl
    cases b with
    | none =>
      simp only [openB, true_iff]
      exact ⟨upP y, by unfold upP; exact hy, fun q e => (by cases e; exact up_l hy), fun q e => (by cases e)⟩
    | some z =>
      have hz := hb z rfl
      simp only [openB, decide_eq_true_eq]
      constructor
      · intro h
        exact ⟨medP y z, by unfold medP; simp only; omega, fun q e => (by cases e; exact med_l h), fun q e => (by cases e; exact med_r h)⟩
      · rintro ⟨x, hx, h1, h2⟩
        exact less_trans hy hx hz (h1 _ rfl) (h2 _ rfl)
theorem nd_iff {L : List (Int × Int)} {k : Nat} (hk : k < L.length) : (wF L k && openB (frF L k) (tF L k)) = true ↔ k ∈ hullF L := by
  obtain ⟨h1, h2⟩ := hull_HInv L
  have hm := hull_mem h1 h2 k
  rw [List.mem_reverse] at hm
  rw [hm]
  obtain ⟨f1, f2⟩ := from_sp L (ctL L k) (List.range' 0 L.length) none (fun q e => by cases e)
  obtain ⟨t1, t2⟩ := to_sp L (ctL L k) (List.range' 0 L.length) none (fun q e => by cases e)
  have hw := want_sp L k (List.range' 0 L.length) true
  rw [Bool.and_eq_true]
  unfold frF tF wF Alone
  rw [open_ex f1 t1, hw]
  constructor
  · rintro ⟨⟨_, w⟩, x, hx, a, b⟩
    have a' := ((f2 x hx).1 a).2
    have b' := ((t2 x hx).1 b).2
    refine ⟨hk, fun i hi e => ?_, x, hx, fun i hi => ?_⟩
    · have := (w i (List.mem_range'_1.2 ⟨by omega, by omega⟩)).1 e
      omega
    · have hmem : i ∈ List.range' 0 L.length := List.mem_range'_1.2 ⟨by omega, by omega⟩
      by_cases e : ctL L i = ctL L k
      · exact .inl e
      · right
        rcases Int.lt_trichotomy (ctL L i).2 (ctL L k).2 with h | h | h
        · exact lessB.1 (a' i hmem h)
        · exact (CtP_same hx h).1.2 ((w i hmem).2 e h)
        · exact lessA.1 (b' i hmem h)
  · rintro ⟨_, hne, x, hx, hall⟩
    refine ⟨⟨rfl, fun j hj => ⟨fun e => ?_, fun e h => ?_⟩⟩, x, hx, (f2 x hx).2 ⟨fun q e => (by cases e), fun j hj h => ?_⟩, (t2 x hx).2 ⟨fun q e => (by cases e), fun j hj h => ?_⟩⟩
    · exact Nat.le_of_not_lt fun hl => hne j hl e
    · have hj := (List.mem_range'_1.1 hj).2
      rcases hall j (by omega) with h' | h'
      · exact absurd h' e
      · exact (CtP_same hx h).1.1 h'
    · have hj := (List.mem_range'_1.1 hj).2
      rcases hall j (by omega) with h' | h'
      · rw [h'] at h; omega
      · exact lessB.2 h'
    · have hj := (List.mem_range'_1.1 hj).2
      rcases hall j (by omega) with h' | h'
      · rw [h'] at h; omega
      · exact lessA.2 h'
theorem fold_bd {L : List (Int × Int)} (hb : ∀ q ∈ L, bdC q) {k : Nat} (hk : k < L.length) : bdO (frF L k) ∧ bdO (tF L k) := by
  have key : ∀ (l : List Nat), (∀ j ∈ l, j < L.length) → ∀ o1 o2, bdO o1 → bdO o2 → bdO (l.foldl (fun o j => fromF (ctL L k) o (ctL L j)) o1) ∧ bdO (l.foldl (fun o j => toF (ctL L k) o (ctL L j)) o2) := by
    intro l
    induction l with
    | nil => intro _ o1 o2 h1 h2; exact ⟨h1, h2⟩
    | cons j l ih =>
      intro hl o1 o2 h1 h2
      have hj := hb _ (ctL_mem (hl j (by simp)))
      exact ih (fun i hi => hl i (by simp [hi])) _ _ (fromF_bd hj (hb _ (ctL_mem hk)) h1) (toF_bd hj (hb _ (ctL_mem hk)) h2)
  exact key _ (fun j hj => by have := (List.mem_range'_1.1 hj).2; omega) _ _ (fun q e => by cases e) (fun q e => by cases e)
theorem nd_L2 (N : Nat) (hN : 4000 ≤ N) (L : List (Int × Int)) (hL : L.length ≤ 8) (hb : ∀ q ∈ L, bdC q) : ∀ (r k fuel : Nat), L.length - k = r → r < fuel →
    m12_L2 N L.length (cellsC L) (hullF L).length (nL (hullF L)) fuel (k : Int) = some (.inr ())
  | r, k, 0, _, h => by omega
  | r, k, f + 1, hr, hf => by
    rw [m12_L2]
    by_cases hk : k < L.length
    · have hw : IntKind.i64.wrap ((k : Int) + 1) = ((k + 1 : Nat) : Int) := by rw [wrap64 (by omega) (by omega)]; omega
      have ih := nd_L2 N hN L hL hb (r - 1) (k + 1) f (by omega) (by omega)
      have hlh := hull_lenle L
      have hiff := nd_iff hk
      obtain ⟨b1, b2⟩ := fold_bd hb hk
      have h3 := nd_L3 N L hL hb (hullF L).length (nL (hullF L)) k hk L.length 0 N none none true (by omega) (by omega) (fun q e => by cases e) (fun q e => by cases e)
      rw [Nat.sub_zero] at h3
      have hc := contains_ok N (by omega) (hullF L) (by omega) k
      rw [brn_t (by simp; omega), hw]
      rw [show m12_L3 N L.length (cellsC L) (hullF L).length (nL (hullF L)) (k : Int) N (.fn 999999 [.bool true]) (.fn 999999 [.bool true]) true 0 = some (encP (frF L k), encP (tF L k), wF L k) from h3]
      simp only [bnd']
      generalize frF L k = o1 at *
      generalize tF L k = o2 at *
      cases hwk : wF L k with
      | false =>
        have hn : ¬ k ∈ hullF L := fun h => by have := hiff.2 h; rw [hwk] at this; simp at this
        rw [brn_f rfl, hc]
        simp only [getB]
        rw [brn_f (by simpa using hn), ih]
      | true =>
        rw [hwk, Bool.true_and] at hiff
        rw [brn_t rfl]
        cases o1 with
        | none =>
          have hn := hiff.1 rfl
          show getP (.fn 999999 [.bool true]) _ _ = _
          rw [getP_np, hc]
          simp only [getB]
          rw [brn_f (by simpa using hn), ih]
        | some a =>
          show getP (.ipt [.int .i64 a.1, .int .i64 a.2]) _ _ = _
          rw [getP_ip]
          cases o2 with
          | none =>
            have hn := hiff.1 rfl
            show getP (.fn 999999 [.bool true]) _ _ = _
            rw [getP_np, hc]
            simp only [getB]
            rw [brn_f (by simpa using hn), ih]
          | some b =>
            show getP (.ipt [.int .i64 b.1, .int .i64 b.2]) _ _ = _
            rw [getP_ip, grd_t (by simp)]
            simp only [List.take, getA2]
            rw [grd_t (by simp), least_ok N (bdQ_L (b1 a rfl)) (bdQ_L (b2 b rfl))]
            simp only [getI, if_true]
            rw [hc]
            simp only [getB]
            have e : decide (a.1 * b.2 - b.1 * a.2 < 0) = decide (k ∈ hullF L) := by
              rw [decide_eq_decide, ← hiff]
              show _ ↔ decide (lessP a b) = true
              rw [decide_eq_true_eq]
              unfold lessP
              omega
            rw [e, brn_f (by simp), ih]
    · rw [brn_f (by simp; omega)]
theorem law_needed (many : Int) (Z : List (Int × Int)) (hZ : byteZ Z) (m0 : 0 ≤ many) (m1 : many ≤ 255) : m12 4000 (.agg (deskC many Z)) = some (.bool true) := by
  have hlen : (deskC many Z).length = 17 := deskC_len hZ.1
  obtain ⟨l1, l2, l3⟩ := mkL_len (mf := 30) (mr := 5) hZ many m0
  have hcc : ∀ q ∈ mkL 30 5 (howMany many) Z, -30 ≤ q.1 ∧ q.1 ≤ 30 ∧ -5 ≤ q.2 ∧ q.2 ≤ 5 := fun q hq => mkL_mem (by decide) (by decide) hq
  have hmk := made_ok 4000 (by decide) 30 5 many Z hZ m0 m1 (by decide) (by decide) (by decide) (by decide)
  have hm : howMany many = (mkL 30 5 (howMany many) Z).length := l1.symm
  have hL1 : 1 ≤ (mkL 30 5 (howMany many) Z).length := by omega
  have hL8 : (mkL 30 5 (howMany many) Z).length ≤ 8 := by omega
  generalize hL : mkL 30 5 (howMany many) Z = L at *
  have hok : ∀ q ∈ L, okC q = true := fun q hq => by have := hcc q hq; simp [okC]; omega
  have h0 : Chk L = 0 := Chk_of hL1 hL8 hok
  obtain ⟨_, _, hb⟩ := Chk_len8 h0
  obtain ⟨hA, hC, hlt⟩ := hull_facts L
  have hch := hull_chain L
  have hle := hull_lenle L
  have hH1 : 1 ≤ (hullF L).length := by
    obtain ⟨c, hc, _⟩ := hch.dom (0, 1) (by decide) _ (ctL_mem (L := L) (i := 0) (by omega))
    have := List.length_pos_of_mem hc
    rw [List.length_map] at this
    exact this
  have hTl : (turnsC ((hullF L).map (ctL L))).length = (hullF L).length - 1 := by rw [turnsC_len']; simp
  have hworks : m15 4000 = some (.bool true) := by simp [m15]
  have q0 := nd_L0 4000 L hL8 (hullF L) hlt (by omega) hA (turnsC ((hullF L).map (ctL L))).length (cellsC (turnsC ((hullF L).map (ctL L)))) (hullF L).length 0 4000 (by omega) (by omega)
  have q1 := nd_L1 4000 (by decide) L hL1 hL8 hb (hullF L) hlt (by omega) hch (turnsC ((hullF L).map (ctL L))).length 0 4000 (by omega) (by omega)
  have q2 := nd_L2 4000 (by decide) L hL8 hb L.length 0 4000 (by omega) (by omega)
  simp only [m12, getA]
  rw [grd_t (by omega), show (deskC many Z).take 17 = deskC many Z by rw [← hlen, List.take_length], hmk]
  simp only [bnd', getL]
  rw [hm, neededG_ok 4000 (by decide) L h0]
  simp only [getT2, getI, if_true]
  rw [turnsG_ok 4000 (by decide) L h0]
  simp only [if_true]
  have hwm : IntKind.i64.wrap (((hullF L).length : Int) - 1) = (((hullF L).length - 1 : Nat) : Int) := by rw [wrap64 (by omega) (by omega)]; omega
  rw [brn_f (by simp), brn_f (by simp), brn_f (by simp; intro h; rw [h] at hH1; simp at hH1), hwm, brn_f (by simp; omega)]
  rw [show m12_L0 4000 L.length (cellsC L) (hullF L).length (nL (hullF L)) _ _ 4000 0 = _ from q0]
  simp only []
  rw [show m12_L1 4000 L.length (cellsC L) (hullF L).length (nL (hullF L)) _ _ 4000 0 = _ from q1]
  simp only []
  rw [show m12_L2 4000 L.length (cellsC L) (hullF L).length (nL (hullF L)) 4000 0 = _ from q2]
  simp only [hworks, getB]
theorem con12 (x0 : List PV) (h0 : PT tab 70 x0) : FnP Try.prog 12 [.agg x0] (.bool true) := by
  obtain ⟨many, Z, rfl, hZ, m0, m1⟩ := desk_of h0
  exact c12 4000 _ _ (law_needed many Z hZ m0 m1)
end Go.Proofs.Ytgnphlpoofaojaa

namespace Go.Proofs.Ytgnphlpoofaojaa.turnNeeded
open Go.ChangeShapes Go.WideShapes Go.ChangeAt Go.RowKit Go.V

theorem own : ownKnob Try.prog.godebug = none := by kernel_rfl
theorem laid : laidOutB Try.prog = true := by kernel_rfl
set_option maxRecDepth 100000 in
theorem lifted (os : Os) (started : os.Started) (H : Type) (enc : TypeId × Value → H) :
    ReturnsInHanded {} Try.checked os 12 .any (Rows.turnNeededSpec.pre6 enc Try.prog Try.f12 Rows.turnNeededRow.domain false) (Rows.turnNeededSpec.post enc Try.prog Try.f12 false true false false) := by
  refine returnsInHanded_of_change (C := Try.checked) own started (by kernel_rfl) Try.func12
    (ChangeSpec.witness6 (enc := enc) (C := Try.checked) false ⟨#[], #[.agg #[.int .u8 0, .int .i8 0, .int .i8 0, .int .i8 0, .int .i8 0, .int .i8 0, .int .i8 0, .int .i8 0, .int .i8 0, .int .i8 0, .int .i8 0, .int .i8 0, .int .i8 0, .int .i8 0, .int .i8 0, .int .i8 0, .int .i8 0]], []⟩ 8 (by kernel_rfl) (by kernel_rfl) (by kernel_rfl) (by kernel_rfl)) ?_
  intro W base args ds gs before hval0 hW hcnd _
  have hW' := hW
  obtain ⟨p, q, hA0, hV, rfl, hfz, hnd⟩ := hW
  have hA : DataW.TrodAll enc Try.prog W 0 (fun _ => true) true Try.f12.params.toList args.toList ds p := hA0
  rw [Try.params12] at hA
  obtain ⟨v0, vs0, d0, ds0, p0, q0, e0, rfl, rfl, h0, hr0⟩ := trodAll_cons hA
  obtain ⟨rfl, rfl, rfl⟩ := trodAll_nil hr0
  obtain rfl : args = #[v0] := by cases args; simp_all
  obtain ⟨x0, k0, t0⟩ := arg_agg (n := 8) tab_ok (hval0 0 70 v0 rfl rfl) h0 (by kernel_rfl) (by kernel_rfl)
  obtain ⟨rfl, rfl⟩ := trodVars_none hV
  clear hA0 hval0
  simp only [List.append_nil] at hW'
  refine (FnP.calls (W := W) (vals := #[v0]) (con12 x0 t0) (.cons _ _ _ _ k0 .nil) (fun x hx => by simp [Gv] at hx)).mono fun e W' ⟨he, hg⟩ => ?_
  subst he
  exact ⟨_, rfl, post_of_kept (pv := []) hW' (fun _ _ _ => trodAll_cons_mk (shut_bool Try.underlying4 _) trodAll_mk0) (fun sp hsp => trodAll_cons_mk (Kept.trod hg laid (by kernel_rfl) (of_decide_eq_true (by kernel_rfl)) h0 (fun y hy => hsp y (by simp [hy]))) (trodAll_mk0)) (fun _ _ => rfl) (by simp)
    hg (ok_one (by kernel_rfl) rfl (okWide_bool_mk Try.underlying4 _))⟩

theorem over : Rows.turnNeededRow.holds Try.pinned (OpenSpec.ofChange Rows.turnNeededSpec) :=
  OpenClaim.holds_of_wide 12 Try.f12 rfl rfl rfl rfl rfl rfl rfl ⟨rfl, rfl, rfl, rfl, rfl⟩ rfl rfl rfl rfl rfl (by kernel_rfl) Try.func12 (by kernel_rfl)
    (of_decide_eq_true (by kernel_rfl)) (by unfold Func.isWrapper; first | (rw [if_pos (by decide +kernel)]; kernel_rfl) | (rw [if_neg (by decide +kernel)]; exact ⟨rfl, rfl⟩))
    (fun os started H enc _ => lifted os started H enc)

end Go.Proofs.Ytgnphlpoofaojaa.turnNeeded
namespace Go.Proofs.Ytgnphlpoofaojaa
/-- the statement -/
theorem turnNeeded_holds : Rows.TurnNeededSaid := turnNeeded.over
#print axioms turnNeeded_holds
end Go.Proofs.Ytgnphlpoofaojaa
