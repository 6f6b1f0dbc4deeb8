/-
  TurnShifted: what the functions compute answers as the law says.
-/
import Derived.Test.YtgnphlpoofaojaaULawnn
import Derived.Test.YtgnphlpoofaojaaUBothm
import Derived.Test.YtgnphlpoofaojaaUConb
import Derived.Test.YtgnphlpoofaojaaUShifts
namespace Go.Proofs.Ytgnphlpoofaojaa
open Go.V

theorem cellsC_set (u : List (Int × Int)) (p q : Int × Int) (v : List (Int × Int)) : ((cellsC (u ++ p :: v)).set (u.length * 2) (.int .i64 q.1)).set (u.length * 2 + 1) (.int .i64 q.2) = cellsC (u ++ q :: v) := by
  have e1 : cellsC (u ++ p :: v) = cellsC u ++ .int .i64 p.1 :: (.int .i64 p.2 :: cellsC v) := by rw [cellsC_app]; rfl
  have hl : (cellsC u).length = u.length * 2 := cellsC_len u
  have s1 := set_mid (cellsC u) (.int .i64 p.1) (.int .i64 q.1) (PV.int .i64 p.2 :: cellsC v)
  rw [hl] at s1
  rw [e1, s1]
  have e2 : cellsC u ++ PV.int .i64 q.1 :: (PV.int .i64 p.2 :: cellsC v) = (cellsC u ++ [.int .i64 q.1]) ++ .int .i64 p.2 :: cellsC v := by simp
  have s2 := set_mid (cellsC u ++ [.int .i64 q.1]) (.int .i64 p.2) (.int .i64 q.2) (cellsC v)
  rw [List.length_append, hl, List.length_cons, List.length_nil] at s2
  rw [e2, s2, cellsC_app]
  simp [cellsC]
theorem rev_L (N n : Nat) (hn : n ≤ 1000) : ∀ (k : Nat) (mid pre post : List (Int × Int)) (fuel : Nat), mid.length ≤ k → n = pre.length + mid.length + post.length → k < fuel →
    m47_L0 N n fuel (pre.length : Int) ((pre.length : Int) + (mid.length : Int) - 1) (cellsC (pre ++ mid ++ post)) = some (cellsC (pre ++ mid.reverse ++ post))
  | k, mid, pre, post, 0, _, _, h => by omega
  | k, [], pre, post, f + 1, _, _, _ => by
    rw [m47_L0, brn_f (by simp; omega)]; rfl
  | k, [a], pre, post, f + 1, _, _, _ => by
    rw [m47_L0, brn_f (by simp)]; rfl
  | k, a :: b0 :: m0, pre, post, f + 1, hk, hnn, hf => by
    obtain ⟨m, b, hm⟩ : ∃ m b, b0 :: m0 = m ++ [b] := by
      rcases List.eq_nil_or_concat (b0 :: m0) with h | ⟨m, b, h⟩
      · cases h
      · exact ⟨m, b, by simpa using h⟩
    rw [hm] at hk hnn ⊢
    simp only [List.length_cons, List.length_append, List.length_nil, Nat.zero_add] at hk hnn
    have hy : (pre.length : Int) + ((a :: (m ++ [b])).length : Int) - 1 = ((pre.length + 1 + m.length : Nat) : Int) := by simp; omega
    have tx : (Int.toNat ((pre.length : Nat) : Int)) = pre.length := by omega
    have ty : (Int.toNat ((pre.length + 1 + m.length : Nat) : Int)) = pre.length + 1 + m.length := by omega
    have hlen : (cellsC (pre ++ (a :: (m ++ [b])) ++ post)).length = n * 2 := by rw [cellsC_len]; simp; omega
    have eb : pre ++ (a :: (m ++ [b])) ++ post = (pre ++ a :: m) ++ b :: post := by simp
    have ea : pre ++ (a :: (m ++ [b])) ++ post = pre ++ a :: (m ++ b :: post) := by simp
    have hlp : (pre ++ a :: m).length = pre.length + 1 + m.length := by simp; omega
    have hlq : (pre ++ b :: m).length = pre.length + 1 + m.length := by simp; omega
    have gb : ((cellsC (pre ++ (a :: (m ++ [b])) ++ post)).drop ((pre.length + 1 + m.length) * 2)).take 2 = [.int .i64 b.1, .int .i64 b.2] := by
      rw [eb, ← hlp]; exact cellsC_take (pre ++ a :: m) b post
    have ga : ((cellsC (pre ++ (a :: (m ++ [b])) ++ post)).drop (pre.length * 2)).take 2 = [.int .i64 a.1, .int .i64 a.2] := by
      rw [ea]; exact cellsC_take pre a _
    have w1 : IntKind.i64.wrap ((pre.length : Int) + 1) = ((pre.length + 1 : Nat) : Int) := by rw [wrap64 (by omega) (by omega)]; omega
    have w2 : IntKind.i64.wrap (((pre.length + 1 + m.length : Nat) : Int) - 1) = ((pre.length + 1 : Nat) : Int) + (m.length : Int) - 1 := by rw [wrap64 (by omega) (by omega)]; omega
    rw [hy, m47_L0, brn_t (by simp; omega), tx, ty, grd_t ⟨by omega, by omega⟩, grd_t (by omega), gb]
    simp only [getA2]
    rw [grd_t ⟨by omega, by omega⟩, grd_t (by omega), ga]
    simp only [getI, if_true]
    rw [w1, w2, ea, cellsC_set]
    have e5 : pre ++ b :: (m ++ b :: post) = (pre ++ b :: m) ++ b :: post := by simp
    rw [e5, ← hlq, cellsC_set]
    have ih := rev_L N n hn (k - 2) m (pre ++ [b]) (a :: post) f (by omega) (by simp; omega) (by omega)
    have e6 : (pre ++ b :: m) ++ a :: post = (pre ++ [b]) ++ m ++ (a :: post) := by simp
    have e7 : (((pre ++ [b]).length : Nat) : Int) = ((pre.length + 1 : Nat) : Int) := by simp
    rw [e7] at ih
    rw [e6, ih]
    simp
theorem rev_ok (N : Nat) (M : List (Int × Int)) (hM : M.length ≤ 1000) (hN : 2000 ≤ N) : m47 N M.length (cellsC M) = some (.tup [], cellsC M.reverse) := by
  have h := rev_L N M.length hM M.length M [] [] N (by omega) (by simp) (by omega)
  have hw : IntKind.i64.wrap (((M.length : Nat) : Int) - 1) = ((M.length : Nat) : Int) - 1 := wrap64 (by omega) (by omega)
  simp only [List.length_nil, List.nil_append, List.append_nil] at h
  simp only [m47, hw]
  rw [show ((0 : Nat) : Int) + ((M.length : Nat) : Int) - 1 = ((M.length : Nat) : Int) - 1 by omega] at h
  rw [show m47_L0 N M.length N 0 (((M.length : Nat) : Int) - 1) (cellsC M) = _ from h]
  rfl
def movF (L : List (Int × Int)) (by' i : Nat) : Int × Int := ctL L ((i + by') % L.length)
theorem lists_L (N : Nat) (L : List (Int × Int)) (hL : 1 ≤ L.length) (hL8 : L.length ≤ 8) (hb : ∀ c ∈ L, -50 ≤ c.1 ∧ c.1 ≤ 50 ∧ -5 ≤ c.2 ∧ c.2 ≤ 5) (b : Nat) (hb' : b ≤ 255) (x3 x4 df dr : Int) (h3 : Int.tmod (IntKind.i64.wrap x3) 51 = df) (h4 : Int.tmod (IntKind.i64.wrap x4) 6 = dr) (hdf : -50 ≤ df ∧ df ≤ 50) (hdr : -5 ≤ dr ∧ dr ≤ 5) : ∀ (r i fuel : Nat), L.length - i = r → i ≤ L.length → r < fuel →
    m10_L0 N (b : Int) x3 x4 L.length (cellsC L) fuel i i (i : Int) (cellsC ((List.range i).map (movF L b))) (cellsC ((List.range i).map fun j => addP (ctL L j) (df, dr))) =
      some (L.length, L.length, cellsC ((List.range L.length).map (movF L b)), cellsC ((List.range L.length).map fun j => addP (ctL L j) (df, dr)))
  | r, i, 0, _, _, h => by omega
  | r, i, f + 1, hr, hi, hf => by
    rw [m10_L0]
    by_cases hd : i < L.length
    · have hcl : (cellsC L).length = L.length * 2 := cellsC_len L
      have ti : (Int.toNat (i : Int)) = i := by omega
      have wb : IntKind.i64.wrap (b : Int) = (b : Int) := wrap64 (by omega) (by omega)
      have wib : IntKind.i64.wrap ((i : Int) + (b : Int)) = ((i + b : Nat) : Int) := by rw [wrap64 (by omega) (by omega)]; omega
      have hm : Int.tmod ((i + b : Nat) : Int) ((L.length : Nat) : Int) = (((i + b) % L.length : Nat) : Int) := tmodN _ _
      have hml : (i + b) % L.length < L.length := Nat.mod_lt _ (by omega)
      have tm : (Int.toNat (((i + b) % L.length : Nat) : Int)) = (i + b) % L.length := by omega
      have hw : IntKind.i64.wrap ((i : Int) + 1) = ((i + 1 : Nat) : Int) := by rw [wrap64 (by omega) (by omega)]; omega
      have hci := hb _ (ctL_mem hd)
      have w1 : IntKind.i64.wrap ((ctL L i).1 + df) = (addP (ctL L i) (df, dr)).1 := by rw [wrap64 (by omega) (by omega)]; rfl
      have w2 : IntKind.i64.wrap ((ctL L i).2 + dr) = (addP (ctL L i) (df, dr)).2 := by rw [wrap64 (by omega) (by omega)]; rfl
      have ih := lists_L N L hL hL8 hb b hb' x3 x4 df dr h3 h4 hdf hdr (r - 1) (i + 1) f (by omega) (by omega) (by omega)
      rw [List.range_succ, List.map_append, List.map_append, cellsC_app, cellsC_app] at ih
      rw [brn_t (by simpa using hd), wb, wib, hm, tm, ti, grd_t (by omega), grd_t ⟨by omega, by omega⟩, grd_t (by simp only [List.length_drop]; omega), cellsC_at (ctL_at hml)]
      simp only [getA2]
      rw [grd_t (by omega), grd_t (by rw [cellsC_len]; simp), grd_t ⟨by omega, by omega⟩, grd_t (by simp only [List.length_drop]; omega), gpc0 hd]
      simp only [getI, if_true]
      rw [grd_t (by omega), grd_t (by simp only [List.length_drop]; omega), gpc1 hd]
      simp only [if_true]
      rw [grd_t (by omega), grd_t (by omega), grd_t (by rw [cellsC_len]; simp), h3, h4, w1, w2, hw]
      exact ih
    · have : i = L.length := by omega
      subst this
      rw [brn_f (by simp)]
theorem mov_mem {L : List (Int × Int)} (hL : 1 ≤ L.length) (b : Nat) (c : Int × Int) : c ∈ ((List.range L.length).map (movF L b)).reverse ↔ c ∈ L := by
  rw [List.mem_reverse, List.mem_map]
  constructor
  · rintro ⟨i, _, rfl⟩
    exact ctL_mem (Nat.mod_lt _ (by omega))
  · intro h
    obtain ⟨k, hk, rfl⟩ := mem_ctL h
    refine ⟨(k + (L.length - b % L.length)) % L.length, List.mem_range.2 (Nat.mod_lt _ (by omega)), ?_⟩
    unfold movF
    congr 1
    have hb := Nat.mod_lt b (show 0 < L.length by omega)
    have h1 : ((k + (L.length - b % L.length)) % L.length + b) % L.length = (k + (L.length - b % L.length) + b) % L.length := by rw [Nat.add_mod, Nat.mod_mod, ← Nat.add_mod]
    rw [h1]
    have h2 : b = L.length * (b / L.length) + b % L.length := (Nat.div_add_mod b L.length).symm
    have h3 : k + (L.length - b % L.length) + b = k + L.length * (b / L.length + 1) := by
      rw [Nat.mul_add, Nat.mul_one]; omega
    rw [h3, Nat.add_mul_mod_self_left, Nat.mod_eq_of_lt hk]
theorem chain_same {S S' C : List (Int × Int)} (h : ∀ c, c ∈ S' ↔ c ∈ S) (hc : Chain S C) : Chain S' C :=
  ⟨fun c hcc => (h c).2 (hc.sub c hcc), hc.asc, hc.cha, fun p hp d hd => hc.dom p hp d ((h d).1 hd)⟩
theorem shift_hull {L W : List (Int × Int)} {δ : Int × Int} (hl : W.length = L.length) (h : ∀ i, i < L.length → ctL W i = addP (ctL L i) δ) : hullF W = hullF L := by
  obtain ⟨a1, a2⟩ := hull_HInv L
  obtain ⟨b1, b2⟩ := hull_HInv W
  have memL : ∀ k, k ∈ hullF L ↔ Alone (ctL L) L.length k := fun k => by rw [← List.mem_reverse, hull_mem a1 a2 k]
  have memW : ∀ k, k ∈ hullF W ↔ Alone (ctL W) W.length k := fun k => by rw [← List.mem_reverse, hull_mem b1 b2 k]
  have hal : ∀ k, Alone (ctL W) W.length k ↔ Alone (ctL L) L.length k := fun k => by
    unfold Alone
    rw [hl]
    constructor
    · rintro ⟨h1, h2, p, hp, h3⟩
      refine ⟨h1, fun i hi e => h2 i hi ?_, p, hp, fun i hi => ?_⟩
      · rw [h i (by omega), h k h1, e]
      · rcases h3 i hi with e | e
        · left
          rw [h i hi, h k h1] at e
          unfold addP at e
          have e1 := (Prod.mk.inj e).1
          have e2 := (Prod.mk.inj e).2
          exact Prod.ext (by omega) (by omega)
        · right
          rw [h i hi, h k h1, Ct_add, Ct_add] at e; omega
    · rintro ⟨h1, h2, p, hp, h3⟩
      refine ⟨h1, fun i hi e => h2 i hi ?_, p, hp, fun i hi => ?_⟩
      · rw [h i (by omega), h k h1] at e
        unfold addP at e
        have e1 := (Prod.mk.inj e).1
        have e2 := (Prod.mk.inj e).2
        exact Prod.ext (by omega) (by omega)
      · rcases h3 i hi with e | e
        · left; rw [h i hi, h k h1, e]
        · right; rw [h i hi, h k h1, Ct_add, Ct_add]; omega
  have srt : ∀ M : List (Int × Int), (hullF M).Pairwise (fun a b => (ctL M a).2 < (ctL M b).2) := fun M => by
    have := (hull_facts M).1
    unfold Asc at this
    rw [List.pairwise_map] at this
    exact this
  refine srt_uniq (fun a b => (ctL L a).2 < (ctL L b).2) (fun a => by omega) (fun a b h => by omega) _ _ ?_ (srt L) (fun k => by rw [memW, memL, hal])
  refine (srt W).imp_of_mem fun {a b} ha hb hlt => ?_
  have h1 := ((hal a).1 ((memW a).1 ha)).1
  have h2 := ((hal b).1 ((memW b).1 hb)).1
  rw [h a h1, h b h2] at hlt
  unfold addP at hlt
  simp only at hlt
  omega
theorem turnsC_shift {δ : Int × Int} : ∀ (C : List (Int × Int)), turnsC (C.map fun c => addP c δ) = turnsC C
  | [] => rfl
  | [a] => rfl
  | a :: b :: C => by
    have ih := turnsC_shift (δ := δ) (b :: C)
    simp only [List.map_cons, turnsC] at ih ⊢
    rw [ih]
    congr 1
    unfold crossP addP
    simp only
    congr 1 <;> omega
theorem fr_L (N : Nat) (T : List (Int × Int)) (hT : T.length ≤ 1000) : ∀ (rest done : List (Int × Int)) (fuel : Nat), T = done ++ rest → rest.length < fuel →
    m45_L0 N T.length (cellsC T) T.length (cellsC T) fuel (done.length : Int) = some (.inr ())
  | [], done, 0, _, h => by simp at h
  | [], done, f + 1, e, _ => by
    have : T.length = done.length := by rw [e]; simp
    rw [m45_L0, brn_f (by simp; omega)]
  | p :: rest, done, 0, _, h => by simp at h
  | p :: rest, done, f + 1, e, hf => by
    have hTe : T.length = done.length + (rest.length + 1) := by rw [e]; simp
    have hct : (cellsC T).length = T.length * 2 := cellsC_len T
    have td : (Int.toNat ((done.length : Nat) : Int)) = done.length := by omega
    have hw : IntKind.i64.wrap ((done.length : Int) + 1) = ((done.length + 1 : Nat) : Int) := by rw [wrap64 (by omega) (by omega)]; omega
    have hp2 : ((cellsC T).drop (done.length * 2)).take 2 = [.int .i64 p.1, .int .i64 p.2] := by rw [e]; exact cellsC_take done p rest
    have ih := fr_L N T hT rest (done ++ [p]) f (by simp [e]) (by simp at hf; omega)
    simp only [List.length_append, List.length_cons, List.length_nil, Nat.zero_add] at ih
    rw [m45_L0, brn_t (by simp; omega), td, grd_t ⟨by omega, by omega⟩, grd_t (by simp only [List.length_drop]; omega), hp2]
    simp only [getA2]
    rw [grd_t (by omega), grd_t (by simp only [List.length_drop]; omega)]
    simp only [getI, if_true]
    rw [brn_f (by simp), hw, ih]
theorem fracs_ok (N : Nat) (hN : 2000 ≤ N) (T : List (Int × Int)) (hT : T.length ≤ 1000) : m45 N (.lst false T.length (cellsC T)) (.lst false T.length (cellsC T)) = some (.bool true) := by
  have := fr_L N T hT T [] N rfl (by omega)
  simp only [m45, getL]
  rw [brn_f (by simp)]
  rw [show m45_L0 N T.length (cellsC T) T.length (cellsC T) N 0 = _ from this]
  rfl
theorem pair_L (N : Nat) (L M : List (Int × Int)) (hl : M.length = L.length) (hL : L.length ≤ 8) (x1 x2 x3 : Int) (n4 : Nat) (c4 : List PV) (HA HB : List Nat) (hA : ∀ k ∈ HA, k < L.length) (hB : ∀ k ∈ HB, k < M.length) (hAl : HA.length ≤ 8) (heq : HA.map (ctL L) = HB.map (ctL M)) : ∀ (ra rb da db : List Nat) (fuel : Nat), HA = da ++ ra → HB = db ++ rb → da.length = db.length → ra.length < fuel →
    m10_L1 N x1 x2 x3 L.length (cellsC L) M.length n4 c4 (cellsC M) HA.length (nL HA) HB.length (nL HB) fuel (da.length : Int) = some (.inr ())
  | ra, rb, da, db, 0, _, _, _, h => by omega
  | [], rb, da, db, f + 1, eA, eB, hd, _ => by
    have h1 := congrArg List.length heq
    simp only [List.length_map] at h1
    have : HA.length = da.length := by rw [eA]; simp
    rw [m10_L1, brn_f (by simp; omega)]
  | a :: ra, [], da, db, f + 1, eA, eB, hd, _ => by
    have h1 := congrArg List.length heq
    rw [eA, eB] at h1
    simp at h1; omega
  | a :: ra, b :: rb, da, db, f + 1, eA, eB, hd, hf => by
    have h1 := congrArg List.length heq
    simp only [List.length_map] at h1
    have hAe : HA.length = da.length + (ra.length + 1) := by rw [eA]; simp
    have hal := hA a (by rw [eA]; simp)
    have hbl := hB b (by rw [eB]; simp)
    have hcl : (cellsC L).length = L.length * 2 := cellsC_len L
    have hcm : (cellsC M).length = M.length * 2 := cellsC_len M
    have hnA : (nL HA).length = HA.length := nL_len HA
    have hnB : (nL HB).length = HB.length := nL_len HB
    have td : (Int.toNat ((da.length : Nat) : Int)) = da.length := by omega
    have ta : (Int.toNat (a : Int)) = a := by omega
    have tb : (Int.toNat (b : Int)) = b := by omega
    have hw : IntKind.i64.wrap ((da.length : Int) + 1) = ((da.length + 1 : Nat) : Int) := by rw [wrap64 (by omega) (by omega)]; omega
    have ga : gp (nL HA) da.length = .int .i64 (a : Int) := by rw [eA]; exact nL_gp da a _
    have gb : gp (nL HB) da.length = .int .i64 (b : Int) := by rw [eB, hd]; exact nL_gp db b _
    have hc : ctL L a = ctL M b := by
      rw [eA, eB, List.map_append, List.map_append] at heq
      have := List.append_inj_right heq (by simp [hd])
      exact (List.cons.inj this).1
    rw [m10_L1, brn_t (by simp; omega), td, grd_t ⟨by omega, by omega⟩, grd_t (by simp only [List.length_drop]; omega), gb]
    simp only [getI, if_true]
    rw [brn_f (by simp), brn_f (by simp; omega), grd_t (by omega), grd_t (by simp only [List.length_drop]; omega), ga]
    simp only [if_true]
    rw [brn_f (by simp), brn_f (by simp; omega), ta, tb, grd_t ⟨by omega, by omega⟩, grd_t (by simp only [List.length_drop]; omega), cellsC_at (ctL_at hbl)]
    simp only [getA2]
    rw [grd_t ⟨by omega, by omega⟩, grd_t (by simp only [List.length_drop]; omega), cellsC_at (ctL_at hal)]
    simp only [if_true]
    rw [brn_f (by rw [hc]; simp), hw]
    have ih := pair_L N L M hl hL x1 x2 x3 n4 c4 HA HB hA hB hAl heq ra rb (da ++ [a]) (db ++ [b]) f (by simp [eA]) (by simp [eB]) (by simp [hd]) (by simp at hf; omega)
    simp only [List.length_append, List.length_cons, List.length_nil, Nat.zero_add] at ih
    exact ih
theorem range_ct (L : List (Int × Int)) : (List.range L.length).map (ctL L) = L := by
  apply List.ext_getElem
  · simp
  · intro i h1 h2
    simp only [List.getElem_map, List.getElem_range]
    exact (List.getElem?_eq_some_iff.1 (ctL_at h2)).2.symm
theorem low_one (M : Int) : lowP M 1 = (M, 1) := by
  have : (Int.gcd M 1 : Int) = 1 := by simp
  unfold lowP
  rw [if_neg (by decide), this]
  simp
theorem mx_add (c : Int) : ∀ (X : List Int) (m : Int), mx (m + c) (X.map (· + c)) = mx m X + c
  | [], m => rfl
  | x :: X, m => by
    have ih := mx_add c X (maxI m x)
    have e1 : mx (m + c) ((x :: X).map (· + c)) = mx (maxI (m + c) (x + c)) (X.map (· + c)) := rfl
    have e2 : mx m (x :: X) = mx (maxI m x) X := rfl
    have e3 : maxI (m + c) (x + c) = maxI m x + c := by unfold maxI; split <;> split <;> omega
    rw [e1, e2, e3, ih]
theorem Mx_shift {L : List (Int × Int)} {n df dr : Int} (hp : okP n 1) (hne : L ≠ []) (hc : ∀ q ∈ L, okC q = true) (hw : ∀ q ∈ L, okC (addP q (df, dr)) = true) : Mx n 1 (L.map fun c => addP c (df, dr)) = Mx n 1 L + (df + dr * n) := by
  cases L with
  | nil => exact absurd rfl hne
  | cons p l =>
    have e : ∀ q ∈ p :: l, Wt n 1 (addP q (df, dr)) = Wt n 1 q + (df + dr * n) := fun q hq => by
      rw [Wt_eq hp (hw q hq), Wt_eq hp (hc q hq)]
      unfold Ct addP
      simp only
      grind
    have e2 : (l.map fun c => addP c (df, dr)).map (Wt n 1) = (l.map (Wt n 1)).map (· + (df + dr * n)) := by
      rw [List.map_map, List.map_map]
      exact List.map_congr_left fun q hq => e q (by simp [hq])
    show mx (Wt n 1 (addP p (df, dr))) ((l.map fun c => addP c (df, dr)).map (Wt n 1)) = mx (Wt n 1 p) (l.map (Wt n 1)) + (df + dr * n)
    rw [e2, e p (by simp), mx_add]
theorem worthM (N : Nat) (hN : 2000 ≤ N) (L : List (Int × Int)) (hne : L ≠ []) (hl : L.length ≤ 8) (hc : ∀ q ∈ L, okC q = true) (n d : Int) (hp : okP n d) :
    m17 N (.lst false L.length (cellsC L)) (.agg [.int .i64 n, .int .i64 d]) = some (.tup [frP (lowP (Mx n d L) d), .int .i64 0]) := by
  cases L with
  | nil => exact absurd rfl hne
  | cons p l => exact worth_x N hN p l hl hc n d hp
theorem turnsC_len' : ∀ (C : List (Int × Int)), (turnsC C).length = C.length - 1
  | [] => rfl
  | [a] => rfl
  | a :: b :: C => by
    have := turnsC_len' (b :: C)
    simp only [turnsC, List.length_cons] at this ⊢; omega
theorem law_shift (many by' fx rt : Int) (Z : List (Int × Int)) (hZ : byteZ Z) (m0 : 0 ≤ many) (m1 : many ≤ 255) (b0 : 0 ≤ by') (b1 : by' ≤ 255) (f0 : -128 ≤ fx) (f1 : fx ≤ 127) (r0 : -128 ≤ rt) (r1 : rt ≤ 127) :
    m10 4000 (.agg (deskC many Z)) by' fx rt = some (.bool true) := by
  have hlen : (deskC many Z).length = 17 := deskC_len hZ.1
  obtain ⟨l1, l2, l3⟩ := mkL_len (mf := 50) (mr := 5) hZ many m0
  have hcc : ∀ q ∈ mkL 50 5 (howMany many) Z, -50 ≤ q.1 ∧ q.1 ≤ 50 ∧ -5 ≤ q.2 ∧ q.2 ≤ 5 := fun q hq => mkL_mem (by decide) (by decide) hq
  have hmk := made_ok 4000 (by decide) 50 5 many Z hZ m0 m1 (by decide) (by decide) (by decide) (by decide)
  have wf : IntKind.i64.wrap fx = fx := wrap64 (by omega) (by omega)
  have wr : IntKind.i64.wrap rt = rt := wrap64 (by omega) (by omega)
  have wb : IntKind.i64.wrap by' = by' := wrap64 (by omega) (by omega)
  have hdf := tmod_bd fx 50 (by decide)
  have hdr := tmod_bd rt 5 (by decide)
  rw [show (50 : Int) + 1 = 51 by decide] at hdf
  rw [show (5 : Int) + 1 = 6 by decide] at hdr
  have hm : howMany many = (mkL 50 5 (howMany many) Z).length := l1.symm
  have hL1 : 1 ≤ (mkL 50 5 (howMany many) Z).length := by omega
  have hL8 : (mkL 50 5 (howMany many) Z).length ≤ 8 := by omega
  generalize hL : mkL 50 5 (howMany many) Z = L at *
  generalize hD : fx.tmod 51 = df at *
  generalize hR : rt.tmod 6 = dr at *
  obtain ⟨b, rfl⟩ : ∃ b : Nat, by' = (b : Int) := ⟨by'.toNat, by omega⟩
  have hne : L ≠ [] := by intro h; rw [h] at hL1; simp at hL1
  have hok : ∀ q ∈ L, okC q = true := fun q hq => by have := hcc q hq; simp [okC]; omega
  have hokw : ∀ q ∈ L, okC (addP q (df, dr)) = true := fun q hq => by have := hcc q hq; unfold addP; simp [okC]; omega
  have hlists := lists_L 4000 L hL1 hL8 hcc b (by omega) fx rt df dr (by rw [wf, hD]) (by rw [wr, hR]) hdf hdr L.length 0 4000 (by omega) (by omega) (by omega)
  simp only [List.range_zero, List.map_nil] at hlists
  have eW : ((List.range L.length).map fun j => addP (ctL L j) (df, dr)) = L.map fun c => addP c (df, dr) := by
    conv => rhs; rw [← range_ct L]
    rw [List.map_map]; rfl
  rw [eW] at hlists
  -- the lists
  have hMl : ((List.range L.length).map (movF L b)).length = L.length := by simp
  have hVl : ((List.range L.length).map (movF L b)).reverse.length = L.length := by simp
  have hWl : (L.map fun c => addP c (df, dr)).length = L.length := by simp
  have hmem := mov_mem hL1 b
  have hrev := rev_ok 4000 ((List.range L.length).map (movF L b)) (by omega) (by decide)
  rw [hMl] at hrev
  have hV : ((hullF ((List.range L.length).map (movF L b)).reverse).map (ctL ((List.range L.length).map (movF L b)).reverse)) = (hullF L).map (ctL L) := chain_uniq (hull_chain _) (chain_same hmem (hull_chain L))
  generalize hVV : ((List.range L.length).map (movF L b)).reverse = V at *
  have hctW : ∀ i, i < L.length → ctL (L.map fun c => addP c (df, dr)) i = addP (ctL L i) (df, dr) := fun i hi => by
    have h1 := List.getElem?_eq_some_iff.1 (ctL_at (show i < (L.map fun c => addP c (df, dr)).length by simpa using hi))
    have h2 := List.getElem?_eq_some_iff.1 (ctL_at hi)
    rw [← h1.2, List.getElem_map, h2.2]
  have hWh := shift_hull hWl hctW
  obtain ⟨_, _, a3⟩ := hull_facts L
  have hWt : turnsC ((hullF (L.map fun c => addP c (df, dr))).map (ctL (L.map fun c => addP c (df, dr)))) = turnsC ((hullF L).map (ctL L)) := by
    rw [hWh]
    have : (hullF L).map (ctL (L.map fun c => addP c (df, dr))) = ((hullF L).map (ctL L)).map fun c => addP c (df, dr) := by
      rw [List.map_map]
      exact List.map_congr_left fun k hk => hctW k (a3 k hk)
    rw [this, turnsC_shift]
  have hokW : ∀ q ∈ L.map (fun c => addP c (df, dr)), okC q = true := fun q hq => by
    obtain ⟨c, hc, rfl⟩ := List.mem_map.1 hq
    exact hokw c hc
  generalize hWW : (L.map fun c => addP c (df, dr)) = W at *
  have h0L : Chk L = 0 := Chk_of hL1 hL8 hok
  have h0V : Chk V = 0 := Chk_of (by omega) (by omega) (fun q hq => hok q ((hmem q).1 hq))
  have h0W : Chk W = 0 := Chk_of (by omega) (by omega) hokW
  have g1 := neededG_ok 4000 (by decide) L h0L
  have g2 := neededG_ok 4000 (by decide) V h0V
  have g3 := neededG_ok 4000 (by decide) W h0W
  have t1 := turnsG_ok 4000 (by decide) L h0L
  have t2 := turnsG_ok 4000 (by decide) V h0V
  have t3 := turnsG_ok 4000 (by decide) W h0W
  rw [hV] at t2
  rw [hWt] at t3
  rw [hWh] at g3
  rw [hVl] at g2 t2
  rw [hWl] at g3 t3
  have hhl := hull_lenle L
  have hlenV : (hullF V).length = (hullF L).length := by have := congrArg List.length hV; simpa using this
  have htl : (turnsC ((hullF L).map (ctL L))).length ≤ 1000 := by rw [turnsC_len']; simp; omega
  have hs := same_ok 4000 ((hullF L).map fun (k : Nat) => (k : Int)) (by simp; omega) (by decide)
  rw [List.length_map, ← nL_iL] at hs
  have hfr := fracs_ok 4000 (by decide) _ htl
  have wbb : IntKind.i64.wrap ((b : Int) - 100) = (b : Int) - 100 := wrap64 (by omega) (by omega)
  have hp : okP ((b : Int) - 100) 1 := ⟨by omega, by omega, by decide, by decide⟩
  have w1 := worthM 4000 (by decide) L hne hL8 hok _ _ hp
  have hneW : W ≠ [] := by intro h; rw [h] at hWl; simp at hWl; omega
  have w2 := worthM 4000 (by decide) W hneW (by omega) hokW _ _ hp
  have hMW : Mx ((b : Int) - 100) 1 W = Mx ((b : Int) - 100) 1 L + (df + dr * ((b : Int) - 100)) := by rw [← hWW]; exact Mx_shift hp hne hok hokw
  have hMb := Mx_bd hp hok
  have hMb2 := Mx_bd hp hokW
  rw [low_one] at w1 w2
  rw [hWl] at w2
  have hworks : m15 4000 = some (.bool true) := by simp [m15]
  have hprod := mulQ (x := dr) (y := (b : Int) - 100) (A := 5) (B := 200) (by omega) (by omega)
  obtain ⟨_, _, v3⟩ := hull_facts V
  have hpair := pair_L 4000 L V hVl hL8 (b : Int) fx rt L.length (cellsC W) (hullF L) (hullF V) a3 v3 (by omega) hV.symm (hullF L) (hullF V) [] [] 4000 rfl rfl rfl (by omega)
  simp only [List.length_nil] at hpair
  rw [hVl] at hpair
  simp only [m10, getA]
  rw [grd_t (by omega), show (deskC many Z).take 17 = deskC many Z by rw [← hlen, List.take_length], hmk]
  simp only [bnd', getL]
  rw [hm]
  rw [show m10_L0 4000 (b : Int) fx rt L.length (cellsC L) 4000 0 0 0 [] [] = _ from hlists]
  simp only []
  rw [hrev]
  simp only [getT0]
  rw [g1]
  simp only [getT2, getI, if_true]
  rw [grd_t (by rw [cellsC_len, hVl]), g2]
  simp only [if_true]
  rw [grd_t (by rw [cellsC_len, hWl]), g3]
  simp only [if_true]
  rw [t1]
  simp only [if_true]
  rw [t2]
  simp only [if_true]
  rw [t3]
  simp only [if_true]
  rw [brn_f (by simp), brn_f (by simp), brn_f (by simp), brn_f (by simp), brn_f (by simp), brn_f (by simp), brn_f (by simp; omega), hs]
  simp only [getB]
  rw [brn_t rfl, hfr]
  simp only []
  rw [brn_t rfl, brn_t rfl]
  rw [show m10_L1 4000 (b : Int) fx rt L.length (cellsC L) L.length L.length (cellsC W) (cellsC V) (hullF L).length (nL (hullF L)) (hullF V).length (nL (hullF V)) 4000 0 = some (.inr ()) from hpair]
  simp only [wb, wbb, m40, getA2, if_true]
  rw [w1]
  simp only [frP, if_true]
  rw [w2]
  simp only [frP, if_true]
  rw [brn_t (by simp), brn_t (by simp), brn_t (by simp), brn_t (by simp), grd_t (by decide), grd_t (by decide), wf, wr, hD, hR]
  rw [wrap64 (n := dr * ((b : Int) - 100)) (by omega) (by omega), wrap64 (n := df + dr * ((b : Int) - 100)) (by omega) (by omega), wrap64 (n := Mx ((b : Int) - 100) 1 W - Mx ((b : Int) - 100) 1 L) (by omega) (by omega)]
  rw [brn_t (by simp; omega), hworks]
theorem con10 (x0 : List PV) (h0 : PT tab 70 x0) (x1 : PV) (h1 : PT tab 5 [x1]) (x2 : PV) (h2 : PT tab 67 [x2]) (x3 : PV) (h3 : PT tab 67 [x3]) : FnP Try.prog 10 [.agg x0, x1, x2, x3] (.bool true) := by
  obtain ⟨many, Z, rfl, hZ, m0, m1⟩ := desk_of h0
  obtain ⟨a, e1, a0, a1⟩ := h1.int' tl5 rfl
  obtain ⟨b, e2, b0, b1⟩ := h2.int' tl67 rfl
  obtain ⟨c, e3, c0, c1⟩ := h3.int' tl67 rfl
  cases e1; cases e2; cases e3
  simp [IntKind.min, IntKind.max, IntKind.signed, IntKind.bits] at a0 a1 b0 b1 c0 c1
  exact c10 4000 _ _ _ _ _ (law_shift many a b c Z hZ m0 m1 a0 a1 b0 b1 c0 c1)
end Go.Proofs.Ytgnphlpoofaojaa
