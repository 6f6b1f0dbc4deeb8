/-
  TurnCovered: what the functions compute answers as the law says.
-/
import Derived.Test.YtgnphlpoofaojaaXLawnn
import Derived.Test.YtgnphlpoofaojaaXCoverm
import Derived.Test.YtgnphlpoofaojaaXConb
import Derived.Test.YtgnphlpoofaojaaXCovereds
namespace Go.Proofs.Ytgnphlpoofaojaa
open Go.V

def pairB (L : List (Int × Int)) (k i j : Nat) : Bool := (!(i == k) && !(j == k)) && covG (ctL L i) (ctL L j) (ctL L k)
def rowF (L : List (Int × Int)) (k i : Nat) : Option (Nat × Nat) := ((List.range' i (L.length - i)).find? (pairB L k i)).map fun j => (i, j)
def whyO (L : List (Int × Int)) (k : Nat) : Option (Nat × Nat) := (List.range' 0 L.length).findSome? (rowF L k)
theorem range'_step {i n : Nat} (h : i < n) : List.range' i (n - i) = i :: List.range' (i + 1) (n - (i + 1)) := by
  rw [show n - i = (n - (i + 1)) + 1 by omega, List.range'_succ]
theorem why1 (N : Nat) (L : List (Int × Int)) (hL : L.length ≤ 8) (hb : ∀ q ∈ L, bdC q) (k i : Nat) (hk : k < L.length) (hi : i < L.length) : ∀ (r j fuel : Nat), L.length - j = r → r < fuel →
    m28_L1 N (k : Int) L.length (cellsC L) (i : Int) fuel (j : Int) = some (match (List.range' j (L.length - j)).find? (pairB L k i) with | some j' => .inl (.tup [.int .i64 (i : Int), .int .i64 (j' : Int), .int .i64 0]) | none => .inr ())
  | r, j, 0, _, h => by omega
  | r, j, f + 1, hr, hf => by
    have hcl : (cellsC L).length = L.length * 2 := cellsC_len L
    have tk : (Int.toNat (k : Int)) = k := by omega
    have ti : (Int.toNat (i : Int)) = i := by omega
    have tj : (Int.toNat (j : Int)) = j := by omega
    by_cases hj : j < L.length
    · have hw : IntKind.i64.wrap ((j : Int) + 1) = ((j + 1 : Nat) : Int) := by rw [wrap64 (by omega) (by omega)]; omega
      have ih := why1 N L hL hb k i hk hi (r - 1) (j + 1) f (by omega) (by omega)
      rw [range'_step hj, List.find?_cons]
      by_cases h1 : i = k
      · have hp : pairB L k i j = false := by simp [pairB, h1]
        rw [m28_L1, brn_t (by simp; omega), brn_f (by simp; omega), hw, ih, hp]
      · by_cases h2 : j = k
        · have hp : pairB L k i j = false := by simp [pairB, h2]
          rw [m28_L1, brn_t (by simp; omega), brn_t (by simp; omega), brn_f (by simp; omega), hw, ih, hp]
        · have bi := hb _ (ctL_mem hi)
          have bj := hb _ (ctL_mem hj)
          have bk := hb _ (ctL_mem hk)
          have hp : pairB L k i j = covG (ctL L i) (ctL L j) (ctL L k) := by simp [pairB, h1, h2]
          rw [m28_L1, brn_t (by simp; omega), brn_t (by simp; omega), brn_t (by simp; omega), hw, ti, tj, tk]
          rw [grd_t ⟨by omega, by omega⟩, grd_t (by simp only [List.length_drop]; omega), cellsC_at (ctL_at hi)]
          simp only [getA2]
          rw [grd_t ⟨by omega, by omega⟩, grd_t (by simp only [List.length_drop]; omega), cellsC_at (ctL_at hj)]
          simp only []
          rw [grd_t ⟨by omega, by omega⟩, grd_t (by simp only [List.length_drop]; omega), cellsC_at (ctL_at hk)]
          simp only []
          rw [coversP_ok N bi bj bk]
          simp only [bnd', getB, ih, hp]
          cases covG (ctL L i) (ctL L j) (ctL L k) <;> rfl
    · rw [m28_L1, brn_f (by simp; omega), show L.length - j = 0 by omega]; rfl
theorem why0 (N : Nat) (hN : 100 ≤ N) (L : List (Int × Int)) (hL : L.length ≤ 8) (hb : ∀ q ∈ L, bdC q) (k : Nat) (hk : k < L.length) : ∀ (r i fuel : Nat), L.length - i = r → r < fuel →
    m28_L0 N (k : Int) L.length (cellsC L) fuel (i : Int) = some (match (List.range' i (L.length - i)).findSome? (rowF L k) with | some p => .inl (.tup [.int .i64 (p.1 : Int), .int .i64 (p.2 : Int), .int .i64 0]) | none => .inr ())
  | r, i, 0, _, h => by omega
  | r, i, f + 1, hr, hf => by
    by_cases hi : i < L.length
    · have hw : IntKind.i64.wrap ((i : Int) + 1) = ((i + 1 : Nat) : Int) := by rw [wrap64 (by omega) (by omega)]; omega
      have ih := why0 N hN L hL hb k hk (r - 1) (i + 1) f (by omega) (by omega)
      have h1 := why1 N L hL hb k i hk hi (L.length - i) i N rfl (by omega)
      rw [range'_step hi, List.findSome?_cons, m28_L0, brn_t (by simp; omega), hw, h1]
      unfold rowF
      cases hF : (List.range' i (L.length - i)).find? (pairB L k i) with
      | some j => rfl
      | none =>
        simp only [bnd', Option.map_none]
        exact ih
    · rw [m28_L0, brn_f (by simp; omega), show L.length - i = 0 by omega]; rfl
theorem why_x (N : Nat) (hN : 100 ≤ N) (L : List (Int × Int)) (h0 : Chk L = 0) (k : Nat) (hk : k < L.length) : m28 N (.lst false L.length (cellsC L)) (k : Int) =
    some (.tup (match whyO L k with | some p => [.int .i64 (p.1 : Int), .int .i64 (p.2 : Int), .int .i64 0] | none => [.int .i64 0, .int .i64 0, .int .i64 13])) := by
  obtain ⟨l1, l8, hb⟩ := Chk_len8 h0
  have h1 := why0 N hN L l8 hb k hk L.length 0 N (by omega) (by omega)
  simp only [m28, getL, check_ok N L (by omega) hN, bnd', getI, if_true]
  rw [brn_f (by simp [h0]), brn_f (by simp), brn_f (by simp; omega)]
  rw [show m28_L0 N (k : Int) L.length (cellsC L) N 0 = _ from h1]
  have e : (List.range' 0 (L.length - 0)).findSome? (rowF L k) = whyO L k := rfl
  rw [e]
  cases whyO L k <;> rfl
theorem prov_x (N : Nat) (hN : 100 ≤ N) (L : List (Int × Int)) (h0 : Chk L = 0) (k i j : Nat) (hk : k < L.length) (hi : i < L.length) (hj : j < L.length) : m30 N (.lst false L.length (cellsC L)) (k : Int) (i : Int) (j : Int) =
    some (.int .i64 (if i = k then 6 else if j = k then 6 else if covG (ctL L i) (ctL L j) (ctL L k) then 0 else 14)) := by
  obtain ⟨l1, l8, hb⟩ := Chk_len8 h0
  have hcl : (cellsC L).length = L.length * 2 := cellsC_len L
  have tk : (Int.toNat (k : Int)) = k := by omega
  have ti : (Int.toNat (i : Int)) = i := by omega
  have tj : (Int.toNat (j : Int)) = j := by omega
  have hmin : ¬ minI (minI (k : Int) (i : Int)) (j : Int) < 0 := by unfold minI; split <;> split <;> omega
  have hmax : ¬ maxI (maxI (k : Int) (i : Int)) (j : Int) ≥ ((L.length : Nat) : Int) := by unfold maxI; split <;> split <;> omega
  simp only [m30, getL, check_ok N L (by omega) hN, bnd', getI, if_true]
  rw [brn_f (by simp [h0]), brn_f (by simpa using hmin), brn_f (by simpa using hmax)]
  by_cases h1 : i = k
  · rw [brn_t (by simp; omega), if_pos h1]
  · rw [brn_f (by simp; omega), if_neg h1]
    by_cases h2 : j = k
    · rw [brn_t (by simp; omega), if_pos h2]
    · rw [brn_f (by simp; omega), if_neg h2, ti, tj, tk]
      rw [grd_t ⟨by omega, by omega⟩, grd_t (by simp only [List.length_drop]; omega), cellsC_at (ctL_at hi)]
      simp only [getA2]
      rw [grd_t ⟨by omega, by omega⟩, grd_t (by simp only [List.length_drop]; omega), cellsC_at (ctL_at hj)]
      simp only []
      rw [grd_t ⟨by omega, by omega⟩, grd_t (by simp only [List.length_drop]; omega), cellsC_at (ctL_at hk)]
      simp only []
      rw [coversP_ok N (hb _ (ctL_mem hi)) (hb _ (ctL_mem hj)) (hb _ (ctL_mem hk))]
      simp only [getB]
      cases covG (ctL L i) (ctL L j) (ctL L k) <;> rfl
def smL (L : List (Int × Int)) : Prop := ∀ c ∈ L, smC c
theorem smC_bd {c : Int × Int} (h : smC c) : bdC c := by unfold smC at h; unfold bdC; omega
theorem viol_ok (N : Nat) (L : List (Int × Int)) (hs : smL L) (hL : L.length ≤ 8) (k i j : Nat) (hk : k < L.length) (hi : i < L.length) (hj : j < L.length) (p : Int × Int) (hp : bdP p) :
    m53 N (.agg [.int .i64 p.1, .int .i64 p.2]) (.lst false L.length (cellsC L)) (i : Int) (j : Int) (k : Int) = some (.bool (decide (maxI (CtP p (ctL L i)) (CtP p (ctL L j)) < CtP p (ctL L k)))) := by
  have hcl : (cellsC L).length = L.length * 2 := cellsC_len L
  have tk : (Int.toNat (k : Int)) = k := by omega
  have ti : (Int.toNat (i : Int)) = i := by omega
  have tj : (Int.toNat (j : Int)) = j := by omega
  have wi := Wt_P hp (smC_bd (hs _ (ctL_mem hi)))
  have wj := Wt_P hp (smC_bd (hs _ (ctL_mem hj)))
  have wk := Wt_P hp (smC_bd (hs _ (ctL_mem hk)))
  simp only [m53, getA2, getL, ti, tj, tk]
  rw [grd_t ⟨by omega, by omega⟩, grd_t (by simp only [List.length_drop]; omega), cellsC_at (ctL_at hi)]
  simp only [at41_ok, bnd', getI, if_true]
  rw [grd_t ⟨by omega, by omega⟩, grd_t (by simp only [List.length_drop]; omega), cellsC_at (ctL_at hj)]
  simp only [at41_ok, if_true]
  rw [grd_t ⟨by omega, by omega⟩, grd_t (by simp only [List.length_drop]; omega), cellsC_at (ctL_at hk)]
  simp only [at41_ok, if_true]
  rw [wi, wj, wk]
theorem idx_L (N : Nat) (L : List (Int × Int)) (hs : smL L) (hL : L.length ≤ 8) (k i j : Nat) (hk : k < L.length) (hi : i < L.length) (hj : j < L.length) (P : List (Int × Int)) (hP : ∀ p ∈ P, bdP p) (hPl : P.length ≤ 100) : ∀ (rest done : List (Int × Int)) (fuel : Nat), P = done ++ rest → rest.length < fuel →
    ∃ o, m75_L0 N (.lst false L.length (cellsC L)) (i : Int) (j : Int) (k : Int) P.length (cellsC P) fuel (done.length : Int) = some o ∧
      (rest.all (fun p => !decide (maxI (CtP p (ctL L i)) (CtP p (ctL L j)) < CtP p (ctL L k))) = true → o = .inr ()) ∧
      (rest.all (fun p => !decide (maxI (CtP p (ctL L i)) (CtP p (ctL L j)) < CtP p (ctL L k))) = false → ∃ x : Nat, o = .inl (.int .i64 (x : Int)))
  | [], done, 0, _, h => by simp at h
  | [], done, f + 1, e, _ => by
    have : P.length = done.length := by rw [e]; simp
    rw [m75_L0, brn_f (by simp; omega)]
    exact ⟨_, rfl, fun _ => rfl, fun h => by simp at h⟩
  | p :: rest, done, 0, _, h => by simp at h
  | p :: rest, done, f + 1, e, hf => by
    have hPe : P.length = done.length + (rest.length + 1) := by rw [e]; simp
    have hcp : (cellsC P).length = P.length * 2 := cellsC_len P
    have td : (Int.toNat ((done.length : Nat) : Int)) = done.length := by omega
    have hw : IntKind.i64.wrap ((done.length : Int) + 1) = ((done.length + 1 : Nat) : Int) := by rw [wrap64 (by omega) (by omega)]; omega
    have hp2 : ((cellsC P).drop (done.length * 2)).take 2 = [.int .i64 p.1, .int .i64 p.2] := by rw [e]; exact cellsC_take done p rest
    obtain ⟨o, o1, o2, o3⟩ := idx_L N L hs hL k i j hk hi hj P hP hPl rest (done ++ [p]) f (by simp [e]) (by simp at hf; omega)
    simp only [List.length_append, List.length_cons, List.length_nil, Nat.zero_add] at o1
    rw [m75_L0, brn_t (by simp; omega), td, grd_t ⟨by omega, by omega⟩, grd_t (by simp only [List.length_drop]; omega), hp2]
    simp only [getA2, viol_ok N L hs hL k i j hk hi hj p (hP p (by rw [e]; simp)), bnd', getB, List.all_cons]
    by_cases h : maxI (CtP p (ctL L i)) (CtP p (ctL L j)) < CtP p (ctL L k)
    · rw [brn_t (by simpa using h)]
      exact ⟨_, rfl, fun hh => by simp [h] at hh, fun _ => ⟨done.length, rfl⟩⟩
    · rw [brn_f (by simpa using h), hw]
      refine ⟨o, o1, fun hh => o2 ?_, fun hh => o3 ?_⟩
      · simpa [h] using hh
      · simpa [h] using hh
theorem raw_step (N : Nat) (L : List (Int × Int)) (hs : smL L) (hL : L.length ≤ 8) (k i j u w t : Nat) (hu : u < L.length) (hw : w < L.length) (ht : t < 3)
    (he : (List.drop (t * 2) [PV.int .i64 (k : Int), .int .i64 (i : Int), .int .i64 (k : Int), .int .i64 (j : Int), .int .i64 (i : Int), .int .i64 (j : Int)]).take 2 = [.int .i64 (u : Int), .int .i64 (w : Int)]) (f : Nat) (P : List (Int × Int)) (hP : P.length ≤ 100) :
    m51_L0 N (k : Int) (i : Int) (j : Int) L.length (cellsC L) (f + 1) P.length (t : Int) (cellsC P) = m51_L0 N (k : Int) (i : Int) (j : Int) L.length (cellsC L) f (P ++ rawP (ctL L u) (ctL L w)).length ((t + 1 : Nat) : Int) (cellsC (P ++ rawP (ctL L u) (ctL L w))) := by
  have hcl : (cellsC L).length = L.length * 2 := cellsC_len L
  have hcp : (cellsC P).length = P.length * 2 := cellsC_len P
  have tt : (Int.toNat (t : Int)) = t := by omega
  have tu : (Int.toNat (u : Int)) = u := by omega
  have tw : (Int.toNat (w : Int)) = w := by omega
  have hwt : IntKind.i64.wrap ((t : Int) + 1) = ((t + 1 : Nat) : Int) := by rw [wrap64 (by omega) (by omega)]; omega
  have su := hs _ (ctL_mem hu)
  have sw := hs _ (ctL_mem hw)
  unfold smC at su sw
  rw [m51_L0, brn_t (by simp; omega), tt, grd_t ⟨by omega, by omega⟩, grd_t (by omega), he]
  simp only [getA2, getL, getI, if_true]
  rw [tu, tw, grd_t ⟨by omega, by omega⟩, grd_t (by simp only [List.length_drop]; omega), cellsC_at (ctL_at hu)]
  simp only [if_true]
  rw [grd_t ⟨by omega, by omega⟩, grd_t (by simp only [List.length_drop]; omega), cellsC_at (ctL_at hw)]
  simp only [if_true]
  by_cases h1 : (ctL L u).2 < (ctL L w).2
  · have er : rawP (ctL L u) (ctL L w) = [((ctL L u).1 - (ctL L w).1, (ctL L w).2 - (ctL L u).2)] := by unfold rawP; rw [if_pos h1]
    rw [brn_t (by simpa using h1), wrap64 (n := (ctL L u).1 - (ctL L w).1) (by omega) (by omega), wrap64 (n := (ctL L w).2 - (ctL L u).2) (by omega) (by omega)]
    simp only [m40, bnd']
    rw [grd_t (by omega), grd_t (by omega), hwt, er, cellsC_app]
    simp [cellsC]
  · rw [brn_f (by simpa using h1)]
    by_cases h2 : (ctL L w).2 < (ctL L u).2
    · have er : rawP (ctL L u) (ctL L w) = [((ctL L w).1 - (ctL L u).1, (ctL L u).2 - (ctL L w).2)] := by unfold rawP; rw [if_neg h1, if_pos h2]
      rw [brn_t (by simpa using h2), wrap64 (n := (ctL L w).1 - (ctL L u).1) (by omega) (by omega), wrap64 (n := (ctL L u).2 - (ctL L w).2) (by omega) (by omega)]
      simp only [m40, bnd']
      rw [grd_t (by omega), grd_t (by omega), hwt, er, cellsC_app]
      simp [cellsC]
    · have er : rawP (ctL L u) (ctL L w) = [] := by unfold rawP; rw [if_neg h1, if_neg h2]
      rw [brn_f (by simpa using h2), hwt, er, List.append_nil]
theorem rawP_bd {a b p : Int × Int} (ha : smC a) (hb : smC b) (h : p ∈ rawP a b) : bdP p := by
  unfold smC at ha hb
  unfold rawP at h
  unfold bdP
  split at h
  · simp at h; subst h; simp only; omega
  · split at h
    · simp at h; subst h; simp only; omega
    · simp at h
theorem covL_ok (N : Nat) (hN : 1000 ≤ N) (L : List (Int × Int)) (hs : smL L) (hL : L.length ≤ 8) (k i j : Nat) (hk : k < L.length) (hi : i < L.length) (hj : j < L.length) :
    m51 N (k : Int) (i : Int) (j : Int) (.lst false L.length (cellsC L)) = some (.bool (covG (ctL L i) (ctL L j) (ctL L k))) := by
  have sk := hs _ (ctL_mem hk)
  have si := hs _ (ctL_mem hi)
  have sj := hs _ (ctL_mem hj)
  rw [← covX_eq si sj sk]
  obtain ⟨f, rfl⟩ : ∃ f, N = f + 4 := ⟨N - 4, by omega⟩
  have hrl : ∀ a b : Int × Int, (rawP a b).length ≤ 1 := fun a b => by unfold rawP; split <;> (try split) <;> simp
  have r1 := hrl (ctL L k) (ctL L i)
  have r2 := hrl (ctL L k) (ctL L j)
  have r3 := hrl (ctL L i) (ctL L j)
  have s0 := raw_step (f + 4) L hs hL k i j k i 0 hk hi (by decide) rfl (f + 3) [(-1000, 1), (1000, 1)] (by simp)
  have s1 := raw_step (f + 4) L hs hL k i j k j 1 hk hj (by decide) rfl (f + 2) ([(-1000, 1), (1000, 1)] ++ rawP (ctL L k) (ctL L i)) (by simp only [List.length_append, List.length_cons, List.length_nil]; omega)
  have s2 := raw_step (f + 4) L hs hL k i j i j 2 hi hj (by decide) rfl (f + 1) ([(-1000, 1), (1000, 1)] ++ rawP (ctL L k) (ctL L i) ++ rawP (ctL L k) (ctL L j)) (by simp only [List.length_append, List.length_cons, List.length_nil]; omega)
  have s3 : ∀ P : List (Int × Int), m51_L0 (f + 4) (k : Int) (i : Int) (j : Int) L.length (cellsC L) (f + 1) P.length ((2 + 1 : Nat) : Int) (cellsC P) = some (P.length, cellsC P) := fun P => by
    rw [m51_L0, brn_f (by simp)]
  have hall := ((s0.trans s1).trans s2).trans (s3 _)
  have hPb : ∀ p ∈ ([(-1000, 1), (1000, 1)] ++ rawP (ctL L k) (ctL L i) ++ rawP (ctL L k) (ctL L j) ++ rawP (ctL L i) (ctL L j) : List (Int × Int)), bdP p := fun p hp => by
    simp only [List.mem_append, List.mem_cons, List.not_mem_nil, or_false] at hp
    rcases hp with (((rfl | rfl) | h) | h) | h
    · unfold bdP; decide
    · unfold bdP; decide
    · exact rawP_bd sk si h
    · exact rawP_bd sk sj h
    · exact rawP_bd si sj h
  have hPl : ([(-1000, 1), (1000, 1)] ++ rawP (ctL L k) (ctL L i) ++ rawP (ctL L k) (ctL L j) ++ rawP (ctL L i) (ctL L j) : List (Int × Int)).length ≤ 5 := by
    simp only [List.length_append, List.length_cons, List.length_nil]; omega
  simp only [m51, m40, bnd', getA2, getL]
  rw [show m51_L0 (f + 4) (k : Int) (i : Int) (j : Int) L.length (cellsC L) (f + 4) 2 0 [.int .i64 (-1000), .int .i64 1, .int .i64 1000, .int .i64 1] = _ from hall]
  simp only []
  unfold covX
  generalize ([(-1000, 1), (1000, 1)] ++ rawP (ctL L k) (ctL L i) ++ rawP (ctL L k) (ctL L j) ++ rawP (ctL L i) (ctL L j) : List (Int × Int)) = P at *
  obtain ⟨o, o1, o2, o3⟩ := idx_L (f + 4) L hs hL k i j hk hi hj P hPb (by omega) P [] (f + 4) rfl (by omega)
  rw [grd_t (by rw [cellsC_len])]
  simp only [m52, m75, getL]
  rw [show m75_L0 (f + 4) (.lst false L.length (cellsC L)) (i : Int) (j : Int) (k : Int) P.length (cellsC P) (f + 4) 0 = some o from o1]
  cases hv : P.all (fun p => !decide (maxI (CtP p (ctL L i)) (CtP p (ctL L j)) < CtP p (ctL L k))) with
  | true =>
    rw [o2 hv]
    simp only [bnd', getI, if_true, getB]
    rw [brn_f (by simp)]
  | false =>
    obtain ⟨x, hx⟩ := o3 hv
    rw [hx]
    simp only [bnd', getI, if_true, getB]
    rw [brn_t (by simp)]
def encS : Option (Nat × Nat) → Int × Int
  | none => (-1, -1)
  | some p => ((p.1 : Int), (p.2 : Int))
def stepS (L : List (Int × Int)) (k i : Nat) (s : Option (Nat × Nat)) (j : Nat) : Option (Nat × Nat) := match s with | some p => some p | none => if i ≤ j ∧ pairB L k i j = true then some (i, j) else none
theorem loop2 (N : Nat) (hN : 1000 ≤ N) (L : List (Int × Int)) (h0 : Chk L = 0) (hs : smL L) (k i : Nat) (hk : k < L.length) (hi : i < L.length) (n3345 : Nat) (c3346 : List PV) (x1 x2 x3 : Int) : ∀ (r j fuel : Nat) (s : Option (Nat × Nat)), L.length - j = r → r < fuel →
    m13_L2 N L.length (cellsC L) n3345 c3346 (k : Int) x1 x2 x3 (i : Int) fuel (encS s).1 (encS s).2 (j : Int) = some (.inr ((encS ((List.range' j (L.length - j)).foldl (stepS L k i) s)).1, (encS ((List.range' j (L.length - j)).foldl (stepS L k i) s)).2))
  | r, j, 0, _, _, h => by omega
  | r, j, f + 1, s, hr, hf => by
    obtain ⟨l1, l8, hb⟩ := Chk_len8 h0
    rw [m13_L2]
    by_cases hj : j < L.length
    · have hw : IntKind.i64.wrap ((j : Int) + 1) = ((j + 1 : Nat) : Int) := by rw [wrap64 (by omega) (by omega)]; omega
      have ih := fun s => loop2 N hN L h0 hs k i hk hi n3345 c3346 x1 x2 x3 (r - 1) (j + 1) f s (by omega) (by omega)
      have hp := prov_x N (by omega) L h0 k i j hk hi hj
      rw [range'_step hj, List.foldl_cons, brn_t (by simp; omega), hw, hp]
      have fin : ∀ (b : Bool) (x : Option (PV ⊕ (Int × Int))) (y : Option (PV ⊕ (Int × Int))) (z : Option (PV ⊕ (Int × Int))), x = z → y = z → brn b x y = z := fun b x y z hx hy => by
        cases b
        · rw [brn_f rfl, hy]
        · rw [brn_t rfl, hx]
      by_cases h1 : i = k
      · have es : stepS L k i s j = s := by
          unfold stepS pairB
          cases s with
          | some p => rfl
          | none => simp [h1]
        rw [es, brn_t (by simp; omega), grd_t (by decide)]
        refine fin _ _ _ _ ?_ (ih s)
        simp only [bnd', getI, if_true, h1]
        rw [brn_f (by simp)]
        simpa [h1] using ih s
      · rw [brn_f (by simp; omega)]
        by_cases h2 : j = k
        · have es : stepS L k i s j = s := by
            unfold stepS pairB
            cases s with
            | some p => rfl
            | none => simp [h2]
          rw [es, brn_t (by simp; omega), grd_t (by decide)]
          refine fin _ _ _ _ ?_ (ih s)
          simp only [bnd', getI, if_true, h1, h2, if_false]
          rw [brn_f (by simp)]
          simpa [h2] using ih s
        · rw [brn_f (by simp; omega), covL_ok N hN L hs l8 k i j hk hi hj]
          have epb : pairB L k i j = covG (ctL L i) (ctL L j) (ctL L k) := by simp [pairB, h1, h2]
          simp only [bnd', getB, getI, if_true, h1, h2, if_false]
          cases hc : covG (ctL L i) (ctL L j) (ctL L k) with
          | false =>
            have es : stepS L k i s j = s := by
              unfold stepS
              cases s with
              | some p => rfl
              | none => rw [epb, hc]; simp
            rw [es, brn_f rfl, grd_t (by decide)]
            refine fin _ _ _ _ ?_ (ih s)
            rw [brn_f (by simp)]
            exact ih s
          | true =>
            rw [brn_t rfl]
            cases s with
            | some p =>
              have es : stepS L k i (some p) j = some p := rfl
              rw [es, brn_f (b := decide ((encS (some p)).1 < 0)) (decide_eq_false (show ¬ ((p.1 : Nat) : Int) < 0 by omega)), grd_t (by decide)]
              refine fin _ _ _ _ ?_ (ih (some p))
              rw [brn_f (by simp)]
              exact ih (some p)
            | none =>
              rw [brn_t (by simp [encS])]
              by_cases hij : i ≤ j
              · have es : stepS L k i none j = some (i, j) := by unfold stepS; rw [epb, hc]; simp [hij]
                rw [es, brn_t (by simp; omega), grd_t (by decide)]
                refine fin _ _ _ _ ?_ (ih (some (i, j)))
                rw [brn_f (by simp)]
                exact ih (some (i, j))
              · have es : stepS L k i none j = none := by unfold stepS; simp [hij]
                rw [es, brn_f (by simp; omega), grd_t (by decide)]
                refine fin _ _ _ _ ?_ (ih none)
                rw [brn_f (by simp)]
                exact ih none
    · rw [brn_f (by simp; omega), show L.length - j = 0 by omega]; rfl
theorem fold_some (L : List (Int × Int)) (k i : Nat) (p : Nat × Nat) : ∀ l : List Nat, l.foldl (stepS L k i) (some p) = some p
  | [] => rfl
  | j :: l => fold_some L k i p l
theorem fold_none (L : List (Int × Int)) (k i : Nat) : ∀ l : List Nat, l.foldl (stepS L k i) none = (l.find? fun j => decide (i ≤ j) && pairB L k i j).map fun j => (i, j)
  | [] => rfl
  | j :: l => by
    rw [List.foldl_cons, List.find?_cons]
    by_cases h : i ≤ j ∧ pairB L k i j = true
    · have e : stepS L k i none j = some (i, j) := by simp [stepS, h]
      rw [e, fold_some, show (decide (i ≤ j) && pairB L k i j) = true by simp [h]]
      rfl
    · have e : stepS L k i none j = none := by unfold stepS; rw [if_neg h]
      have e2 : (decide (i ≤ j) && pairB L k i j) = false := by
        rw [← Bool.not_eq_true, Bool.and_eq_true, decide_eq_true_eq]; exact h
      rw [e, fold_none L k i l, e2]
theorem find_from (P : Nat → Bool) (i n : Nat) (h : i ≤ n) : (List.range' 0 n).find? (fun j => decide (i ≤ j) && P j) = (List.range' i (n - i)).find? P := by
  have e : List.range' 0 n = List.range' 0 i ++ List.range' i (n - i) := by
    have := List.range'_append_1 (s := 0) (m := i) (n := n - i)
    rw [Nat.zero_add] at this
    rw [this]; congr 1; omega
  rw [e, List.find?_append]
  have h1 : (List.range' 0 i).find? (fun j => decide (i ≤ j) && P j) = none := by
    rw [List.find?_eq_none]
    intro x hx
    have := List.mem_range'_1.1 hx
    simp; omega
  rw [h1, Option.none_or]
  have h2 : ∀ l : List Nat, (∀ x ∈ l, i ≤ x) → l.find? (fun j => decide (i ≤ j) && P j) = l.find? P := by
    intro l
    induction l with
    | nil => intro _; rfl
    | cons x l ih =>
      intro hx
      have := hx x (by simp)
      rw [List.find?_cons, List.find?_cons, ih (fun y hy => hx y (by simp [hy]))]
      simp [this]
  exact h2 _ fun x hx => (List.mem_range'_1.1 hx).1
theorem loop1 (N : Nat) (hN : 1000 ≤ N) (L : List (Int × Int)) (h0 : Chk L = 0) (hs : smL L) (k : Nat) (hk : k < L.length) (n3345 : Nat) (c3346 : List PV) (x1 x2 x3 : Int) : ∀ (r i fuel : Nat) (s : Option (Nat × Nat)), L.length - i = r → r < fuel →
    m13_L1 N L.length (cellsC L) n3345 c3346 (k : Int) x1 x2 x3 fuel (encS s).1 (encS s).2 (i : Int) = some (.inr ((encS (s.or ((List.range' i (L.length - i)).findSome? (rowF L k)))).1, (encS (s.or ((List.range' i (L.length - i)).findSome? (rowF L k)))).2))
  | r, i, 0, _, _, h => by omega
  | r, i, f + 1, s, hr, hf => by
    obtain ⟨l1, l8, hb⟩ := Chk_len8 h0
    rw [m13_L1]
    by_cases hi : i < L.length
    · have hw : IntKind.i64.wrap ((i : Int) + 1) = ((i + 1 : Nat) : Int) := by rw [wrap64 (by omega) (by omega)]; omega
      have h2 := loop2 N hN L h0 hs k i hk hi n3345 c3346 x1 x2 x3 L.length 0 N s (by omega) (by omega)
      rw [Nat.sub_zero] at h2
      rw [brn_t (by simp; omega)]
      rw [show m13_L2 N L.length (cellsC L) n3345 c3346 (k : Int) x1 x2 x3 (i : Int) N (encS s).1 (encS s).2 0 = _ from h2]
      simp only [bnd', hw]
      have hrow : (List.range' 0 L.length).foldl (stepS L k i) s = s.or (rowF L k i) := by
        cases s with
        | some p => rw [fold_some]; rfl
        | none =>
          rw [fold_none, find_from (pairB L k i) i L.length (by omega)]
          rfl
      rw [hrow]
      have ih := loop1 N hN L h0 hs k hk n3345 c3346 x1 x2 x3 (r - 1) (i + 1) f (s.or (rowF L k i)) (by omega) (by omega)
      rw [ih, range'_step hi, List.findSome?_cons]
      cases s with
      | some p => rfl
      | none =>
        cases hR : rowF L k i with
        | some p => rfl
        | none => rfl
    · rw [brn_f (by simp; omega), show L.length - i = 0 by omega]
      simp
def likeB (L : List (Int × Int)) (k i : Nat) : Bool := !(i == k) && (ctL L i == ctL L k)
theorem loop3 (N : Nat) (L : List (Int × Int)) (hL : L.length ≤ 8) (k : Nat) (hk : k < L.length) (n3345 : Nat) (c3346 : List PV) (x1 x2 x3 x4 x5 : Int) : ∀ (r i fuel : Nat) (b : Bool), L.length - i = r → r < fuel →
    m13_L3 N L.length (cellsC L) n3345 c3346 (k : Int) x1 x2 x3 x4 x5 fuel b (i : Int) = some (b || (List.range' i (L.length - i)).any (likeB L k))
  | r, i, 0, _, _, h => by omega
  | r, i, f + 1, b, hr, hf => by
    have hcl : (cellsC L).length = L.length * 2 := cellsC_len L
    have ti : (Int.toNat (i : Int)) = i := by omega
    have tk : (Int.toNat (k : Int)) = k := by omega
    rw [m13_L3]
    by_cases hi : i < L.length
    · have hw : IntKind.i64.wrap ((i : Int) + 1) = ((i + 1 : Nat) : Int) := by rw [wrap64 (by omega) (by omega)]; omega
      have ih := fun b => loop3 N L hL k hk n3345 c3346 x1 x2 x3 x4 x5 (r - 1) (i + 1) f b (by omega) (by omega)
      rw [range'_step hi, List.any_cons, brn_t (by simp; omega), ti, grd_t ⟨by omega, by omega⟩, grd_t (by simp only [List.length_drop]; omega), cellsC_at (ctL_at hi)]
      simp only [getA2, getI, if_true]
      cases b with
      | true => rw [brn_t rfl, hw, ih]; simp
      | false =>
        rw [brn_f rfl]
        by_cases h : i = k
        · rw [brn_f (by simp; omega), hw, ih]
          simp [likeB, h]
        · rw [brn_t (by simp; omega), tk, grd_t ⟨by omega, by omega⟩, grd_t (by simp only [List.length_drop]; omega), cellsC_at (ctL_at hk)]
          simp only [if_true]
          have hik : (i == k) = false := by simpa using h
          rw [hw, eqC, ih]
          simp [likeB, hik]
    · rw [brn_f (by simp; omega), show L.length - i = 0 by omega]
      simp
theorem index_L (N : Nat) (H : List Nat) (hH : H.length ≤ 100) (k : Nat) : ∀ (rest done : List Nat) (fuel : Nat), H = done ++ rest → rest.length < fuel →
    ∃ o, m74_L0 N (k : Int) H.length (nL H) fuel (done.length : Int) = some o ∧ (k ∈ rest → ∃ x : Nat, o = .inl (.int .i64 (x : Int))) ∧ (k ∉ rest → o = .inr ())
  | [], done, 0, _, h => by simp at h
  | [], done, f + 1, e, _ => by
    have : H.length = done.length := by rw [e]; simp
    rw [m74_L0, brn_f (by simp; omega)]
    exact ⟨_, rfl, fun h => by simp at h, fun _ => rfl⟩
  | a :: rest, done, 0, _, h => by simp at h
  | a :: rest, done, f + 1, e, hf => by
    have hHe : H.length = done.length + (rest.length + 1) := by rw [e]; simp
    have hnl : (nL H).length = H.length := nL_len H
    have td : (Int.toNat ((done.length : Nat) : Int)) = done.length := by omega
    have hw : IntKind.i64.wrap ((done.length : Int) + 1) = ((done.length + 1 : Nat) : Int) := by rw [wrap64 (by omega) (by omega)]; omega
    have ga : gp (nL H) done.length = .int .i64 (a : Int) := by rw [e]; exact nL_gp done a _
    obtain ⟨o, o1, o2, o3⟩ := index_L N H hH k rest (done ++ [a]) f (by simp [e]) (by simp at hf; omega)
    simp only [List.length_append, List.length_cons, List.length_nil, Nat.zero_add] at o1
    rw [m74_L0, brn_t (by simp; omega), td, grd_t ⟨by omega, by omega⟩, grd_t (by simp only [List.length_drop]; omega), ga]
    simp only [getI, if_true]
    by_cases h : k = a
    · rw [brn_t (by simp; omega)]
      exact ⟨_, rfl, fun _ => ⟨done.length, rfl⟩, fun hn => absurd (by simp [h]) hn⟩
    · rw [brn_f (by simp; omega), hw]
      refine ⟨o, o1, fun hm => o2 ?_, fun hn => o3 fun hm => hn (by simp [hm])⟩
      rcases List.mem_cons.1 hm with hm | hm
      · exact absurd hm h
      · exact hm
theorem contains_ok (N : Nat) (hN : 1000 ≤ N) (H : List Nat) (hH : H.length ≤ 100) (k : Nat) : m50 N (.lst false H.length (nL H)) (k : Int) = some (.bool (decide (k ∈ H))) := by
  obtain ⟨o, o1, o2, o3⟩ := index_L N H hH k H [] N rfl (by omega)
  simp only [m50, m74, getL]
  rw [show m74_L0 N (k : Int) H.length (nL H) N 0 = some o from o1]
  by_cases h : k ∈ H
  · obtain ⟨x, hx⟩ := o2 h
    rw [hx]
    simp [bnd', getI, h]
  · rw [o3 h]
    simp [bnd', getI, h]
theorem why_none (L : List (Int × Int)) (k : Nat) (hk : k < L.length) : whyO L k = none ↔ ¬ ((List.range' 0 L.length).any (likeB L k) = true ∨ k ∉ hullF L) := by
  have h1 : whyO L k = none ↔ ¬ ∃ i j, i < L.length ∧ j < L.length ∧ i ≠ k ∧ j ≠ k ∧ covG (ctL L i) (ctL L j) (ctL L k) = true := by
    unfold whyO
    rw [List.findSome?_eq_none_iff]
    constructor
    · rintro h ⟨i, j, hi, hj, hik, hjk, hc⟩
      have key : ∀ i j, i < L.length → j < L.length → i ≠ k → j ≠ k → i ≤ j → covG (ctL L i) (ctL L j) (ctL L k) = true → False := fun i j hi hj hik hjk hij hc => by
        have := h i (List.mem_range'_1.2 ⟨by omega, by omega⟩)
        unfold rowF at this
        rw [Option.map_eq_none_iff, List.find?_eq_none] at this
        have := this j (List.mem_range'_1.2 ⟨by omega, by omega⟩)
        exact this (by simp [pairB, hik, hjk, hc])
      rcases Nat.le_total i j with hij | hij
      · exact key i j hi hj hik hjk hij hc
      · exact key j i hj hi hjk hik hij (by rw [cov_comm]; exact hc)
    · intro h i hi
      have hi := (List.mem_range'_1.1 hi).2
      unfold rowF
      rw [Option.map_eq_none_iff, List.find?_eq_none]
      intro j hj hp
      have hj := List.mem_range'_1.1 hj
      simp only [pairB, Bool.and_eq_true, Bool.not_eq_true', beq_eq_false_iff_ne] at hp
      exact h ⟨i, j, by omega, by omega, hp.1.1, hp.1.2, hp.2⟩
  rw [h1, covered_iff L k hk]
  have h2 : (List.range' 0 L.length).any (likeB L k) = true ↔ ∃ i, i < L.length ∧ i ≠ k ∧ ctL L i = ctL L k := by
    rw [List.any_eq_true]
    constructor
    · rintro ⟨i, hi, h⟩
      simp only [likeB, Bool.and_eq_true, Bool.not_eq_true', beq_eq_false_iff_ne, beq_iff_eq] at h
      exact ⟨i, by have := (List.mem_range'_1.1 hi).2; omega, h.1, h.2⟩
    · rintro ⟨i, hi, hik, e⟩
      exact ⟨i, List.mem_range'_1.2 ⟨by omega, by omega⟩, by simp [likeB, hik, e]⟩
  rw [h2]
theorem loop0 (N : Nat) (hN : 4000 ≤ N) (L : List (Int × Int)) (h0 : Chk L = 0) (hs : smL L) : ∀ (r k fuel : Nat), L.length - k = r → r < fuel →
    m13_L0 N L.length (cellsC L) (hullF L).length (nL (hullF L)) fuel (k : Int) = some (.inr ())
  | r, k, 0, _, h => by omega
  | r, k, f + 1, hr, hf => by
    obtain ⟨l1, l8, hb⟩ := Chk_len8 h0
    rw [m13_L0]
    by_cases hk : k < L.length
    · have hw : IntKind.i64.wrap ((k : Int) + 1) = ((k + 1 : Nat) : Int) := by rw [wrap64 (by omega) (by omega)]; omega
      have ih := loop0 N hN L h0 hs (r - 1) (k + 1) f (by omega) (by omega)
      have hlh := hull_lenle L
      have hwn := why_none L k hk
      have hL1 := fun x1 x2 x3 => loop1 N (by omega) L h0 hs k hk (hullF L).length (nL (hullF L)) x1 x2 x3 L.length 0 N none (by omega) (by omega)
      have ew : (List.range' 0 (L.length - 0)).findSome? (rowF L k) = whyO L k := rfl
      simp only [ew, Option.none_or] at hL1
      have hL3 := fun x1 x2 x3 x4 x5 => loop3 N L l8 k hk (hullF L).length (nL (hullF L)) x1 x2 x3 x4 x5 L.length 0 N false (by omega) (by omega)
      rw [Nat.sub_zero] at hL3
      simp only [Bool.false_or] at hL3
      rw [brn_t (by simp; omega), why_x N (by omega) L h0 k hk]
      cases hO : whyO L k with
      | none =>
        have hno := hwn.1 hO
        have e1 : (List.range' 0 L.length).any (likeB L k) = false := by
          rw [← Bool.not_eq_true]; exact fun h => hno (.inl h)
        have e2 : k ∈ hullF L := Decidable.byContradiction fun h => hno (.inr h)
        simp only [bnd', getT3, getI, if_true]
        have q := hL1 0 0 13
        rw [hO] at q
        rw [show m13_L1 N L.length (cellsC L) (hullF L).length (nL (hullF L)) (k : Int) 0 0 13 N (-1) (-1) 0 = some (.inr ((-1 : Int), (-1 : Int))) from q]
        simp only []
        rw [show m13_L3 N L.length (cellsC L) (hullF L).length (nL (hullF L)) (k : Int) 0 0 13 (-1) (-1) N false 0 = _ from hL3 0 0 13 (-1) (-1)]
        simp only [e1]
        rw [brn_f rfl, contains_ok N (by omega) (hullF L) (by omega) k]
        simp only [getB]
        rw [brn_t (by simpa using e2), brn_f (by simp), brn_t (by simp), brn_f (by simp), brn_f (by simp), brn_f (by simp), hw, ih]
      | some p =>
        have hyes : (List.range' 0 L.length).any (likeB L k) = true ∨ k ∉ hullF L := by
          apply Decidable.byContradiction
          intro h
          rw [hwn.2 h] at hO; cases hO
        simp only [bnd', getT3, getI, if_true]
        have q := hL1 (p.1 : Int) (p.2 : Int) 0
        rw [hO] at q
        rw [show m13_L1 N L.length (cellsC L) (hullF L).length (nL (hullF L)) (k : Int) (p.1 : Int) (p.2 : Int) 0 N (-1) (-1) 0 = some (.inr (((p.1 : Nat) : Int), ((p.2 : Nat) : Int))) from q]
        simp only []
        rw [show m13_L3 N L.length (cellsC L) (hullF L).length (nL (hullF L)) (k : Int) (p.1 : Int) (p.2 : Int) 0 (p.1 : Int) (p.2 : Int) N false 0 = _ from hL3 (p.1 : Int) (p.2 : Int) 0 (p.1 : Int) (p.2 : Int)]
        cases e1 : (List.range' 0 L.length).any (likeB L k) with
        | true =>
          simp only []
          rw [brn_t rfl, brn_f (by simp), brn_f (by simp), brn_f (by simp), brn_f (by simp), brn_f (by simp), hw, ih]
        | false =>
          have e2 : k ∉ hullF L := by
            rcases hyes with h | h
            · rw [e1] at h; cases h
            · exact h
          simp only []
          rw [brn_f rfl, contains_ok N (by omega) (hullF L) (by omega) k]
          simp only [getB]
          rw [brn_f (by simpa using e2), brn_f (by simp), brn_f (by simp), brn_f (by simp), brn_f (by simp), brn_f (by simp), hw, ih]
    · rw [brn_f (by simp; omega)]
theorem law_covered (many : Int) (Z : List (Int × Int)) (hZ : byteZ Z) (m0 : 0 ≤ many) (m1 : many ≤ 255) : m13 4000 (.agg (deskC many Z)) = some (.bool true) := by
  have hlen : (deskC many Z).length = 17 := deskC_len hZ.1
  obtain ⟨l1, l2, l3⟩ := mkL_len (mf := 12) (mr := 3) hZ many m0
  have hcc : ∀ q ∈ mkL 12 3 (howMany many) Z, -12 ≤ q.1 ∧ q.1 ≤ 12 ∧ -3 ≤ q.2 ∧ q.2 ≤ 3 := fun q hq => mkL_mem (by decide) (by decide) hq
  have hmk := made_ok 4000 (by decide) 12 3 many Z hZ m0 m1 (by decide) (by decide) (by decide) (by decide)
  have hm : howMany many = (mkL 12 3 (howMany many) Z).length := l1.symm
  have hL1 : 1 ≤ (mkL 12 3 (howMany many) Z).length := by omega
  have hL8 : (mkL 12 3 (howMany many) Z).length ≤ 8 := by omega
  generalize hL : mkL 12 3 (howMany many) Z = L at *
  have hok : ∀ q ∈ L, okC q = true := fun q hq => by have := hcc q hq; simp [okC]; omega
  have h0 : Chk L = 0 := Chk_of hL1 hL8 hok
  have hs : smL L := hcc
  have hl := loop0 4000 (by decide) L h0 hs L.length 0 4000 (by omega) (by omega)
  have hworks : m15 4000 = some (.bool true) := by simp [m15]
  simp only [m13, getA]
  rw [grd_t (by omega), show (deskC many Z).take 17 = deskC many Z by rw [← hlen, List.take_length], hmk]
  simp only [bnd', getL]
  rw [hm, neededG_ok 4000 (by decide) L h0]
  simp only [getT2, getI, if_true]
  rw [brn_f (by simp)]
  rw [show m13_L0 4000 L.length (cellsC L) (hullF L).length (nL (hullF L)) 4000 0 = _ from hl]
  simp only [hworks, getB]
theorem con13 (x0 : List PV) (h0 : PT tab 70 x0) : FnP Try.prog 13 [.agg x0] (.bool true) := by
  obtain ⟨many, Z, rfl, hZ, m0, m1⟩ := desk_of h0
  exact c13 4000 _ _ (law_covered many Z hZ m0 m1)
end Go.Proofs.Ytgnphlpoofaojaa
