/-
  TurnNeeds: what the functions compute answers as the law says.
-/
import Derived.Test.YtgnphlpoofaojaaTLawh
namespace Go.Proofs.Ytgnphlpoofaojaa
open Go.V

theorem hull_facts (L : List (Int × Int)) : Asc ((hullF L).map (ctL L)) ∧ ChA ((hullF L).map (ctL L)) ∧ (∀ k ∈ hullF L, k < L.length) := by
  obtain ⟨h1, h2⟩ := hull_HInv L
  refine ⟨?_, ?_, fun k hk => (h2 k).1 (h1.sub k (List.mem_reverse.2 hk))⟩
  · have := Dsc_rev h1.dsc
    rw [← List.map_reverse, List.reverse_reverse] at this
    exact this
  · have := Chn_rev _ [] h1.chn trivial (by simp)
    rw [← List.map_reverse, List.reverse_reverse, List.append_nil] at this
    exact this
theorem hull_lenle (L : List (Int × Int)) : (hullF L).length ≤ L.length := by
  have h : ∀ (f : Nat → Int × Int) (S T : List Nat), (S.foldl (pushI f) T).length ≤ T.length + S.length := by
    intro f S
    induction S with
    | nil => intro T; simp
    | cons k S ih =>
      intro T
      have h1 := ih (pushI f T k)
      have h2 : (pushI f T k).length ≤ T.length + 1 := by
        unfold pushI
        split
        · simp
        · split
          · omega
          · have := popI_len f k (‹Nat› :: ‹List Nat›)
            simp only [List.length_cons] at this ⊢
            omega
      simp only [List.foldl_cons, List.length_cons]; omega
  have := h (ctL L) (srtF (ctL L) L.length).reverse []
  simp only [hullF, List.length_reverse, List.length_nil, Nat.zero_add, srt_len] at this ⊢
  exact this
theorem turns_L (N : Nat) (hN : 4000 ≤ N) (L : List (Int × Int)) (hb : ∀ q ∈ L, bdC q) (hL : L.length ≤ 1000) (H : List Nat) (hH : ∀ k ∈ H, k < L.length) (hHl : H.length ≤ 1000) (hA : Asc (H.map (ctL L))) : ∀ (rest done : List Nat) (fuel : Nat) (acc : List (Int × Int)),
    H = done ++ rest → rest.length < fuel → acc.length ≤ done.length →
    m67_L0 N L.length (cellsC L) H.length (nL H) fuel acc.length (done.length : Int) (cellsC acc) = some ((acc ++ turnsC (rest.map (ctL L))).length, cellsC (acc ++ turnsC (rest.map (ctL L))))
  | rest, done, 0, _, _, h, _ => by simp at h
  | [], done, f + 1, acc, e, _, _ => by
    have : H.length = done.length := by rw [e]; simp
    have hw : IntKind.i64.wrap (((H.length : Nat) : Int) - 1) = ((H.length : Nat) : Int) - 1 := wrap64 (by omega) (by omega)
    rw [m67_L0, hw, brn_f (by simp; omega)]; simp [turnsC]
  | [a], done, f + 1, acc, e, _, _ => by
    have : H.length = done.length + 1 := by rw [e]; simp
    have hw : IntKind.i64.wrap (((H.length : Nat) : Int) - 1) = ((H.length : Nat) : Int) - 1 := wrap64 (by omega) (by omega)
    rw [m67_L0, hw, brn_f (by simp; omega)]; simp [turnsC]
  | a :: b :: r, done, f + 1, acc, e, hf, ha => by
    have hHe : H.length = done.length + (r.length + 2) := by rw [e]; simp
    have hal := hH a (by rw [e]; simp)
    have hbl := hH b (by rw [e]; simp)
    have hcl : (cellsC L).length = L.length * 2 := cellsC_len L
    have hnl : (nL H).length = H.length := nL_len H
    have hac : (cellsC acc).length = acc.length * 2 := cellsC_len acc
    have td : (Int.toNat ((done.length : Nat) : Int)) = done.length := by omega
    have td1 : (Int.toNat ((done.length + 1 : Nat) : Int)) = done.length + 1 := by omega
    have ta : (Int.toNat (a : Int)) = a := by omega
    have tb : (Int.toNat (b : Int)) = b := by omega
    have hw0 : IntKind.i64.wrap (((H.length : Nat) : Int) - 1) = ((H.length : Nat) : Int) - 1 := wrap64 (by omega) (by omega)
    have hw : IntKind.i64.wrap ((done.length : Int) + 1) = ((done.length + 1 : Nat) : Int) := by rw [wrap64 (by omega) (by omega)]; omega
    have ga : gp (nL H) done.length = .int .i64 (a : Int) := by rw [e]; exact nL_gp done a _
    have gb : gp (nL H) (done.length + 1) = .int .i64 (b : Int) := by
      have := nL_gp (done ++ [a]) b r
      rw [List.length_append, List.length_cons, List.length_nil, List.append_assoc, List.singleton_append] at this
      rw [e]; exact this
    have ba := hb _ (ctL_mem hal)
    have bb := hb _ (ctL_mem hbl)
    have hab : (ctL L a).2 < (ctL L b).2 := by
      have h1 : Asc (done.map (ctL L) ++ ctL L a :: ctL L b :: r.map (ctL L)) := by rw [e] at hA; simpa using hA
      exact (List.pairwise_cons.1 (List.pairwise_append.1 h1).2.1).1 _ (by simp)
    have ba' := ba
    have bb' := bb
    unfold bdC at ba' bb'
    have hm := (low_m N ((ctL L a).1 - (ctL L b).1) ((ctL L b).2 - (ctL L a).2) ⟨by omega, by omega⟩ (by omega) ⟨by omega, by omega⟩ (by omega)).1
    rw [m67_L0, hw0, brn_t (by simp; omega), td, grd_t ⟨by omega, by omega⟩, grd_t (by simp only [List.length_drop]; omega), ga]
    simp only [getI, if_true]
    rw [ta, grd_t ⟨by omega, by omega⟩, grd_t (by simp only [List.length_drop]; omega), cellsC_at (ctL_at hal)]
    simp only [getA2]
    rw [hw, td1, grd_t ⟨by omega, by omega⟩, grd_t (by simp only [List.length_drop]; omega), gb]
    simp only [if_true]
    rw [tb, grd_t ⟨by omega, by omega⟩, grd_t (by simp only [List.length_drop]; omega), cellsC_at (ctL_at hbl)]
    simp only [if_true]
    rw [wrap64 (n := (ctL L a).1 - (ctL L b).1) (by omega) (by omega), wrap64 (n := (ctL L b).2 - (ctL L a).2) (by omega) (by omega), hm]
    simp only [bnd', frP]
    rw [grd_t (by omega), grd_t (by omega)]
    have ih := turns_L N hN L hb hL H hH hHl hA (b :: r) (done ++ [a]) f (acc ++ [crossP (ctL L a) (ctL L b)]) (by simp [e]) (by simp at hf ⊢; omega) (by simp; omega)
    have e3 : cellsC (acc ++ [crossP (ctL L a) (ctL L b)]) = cellsC acc ++ [.int .i64 (lowP ((ctL L a).1 - (ctL L b).1) ((ctL L b).2 - (ctL L a).2)).1, .int .i64 (lowP ((ctL L a).1 - (ctL L b).1) ((ctL L b).2 - (ctL L a).2)).2] := by
      rw [cellsC_app]; rfl
    simp only [List.length_append, List.length_cons, List.length_nil, Nat.zero_add] at ih
    rw [e3] at ih
    rw [ih]
    simp only [List.map_cons, turnsC, List.append_assoc, List.singleton_append, List.length_append, List.length_cons]
    congr 2; omega
theorem turns_ok (N : Nat) (hN : 4000 ≤ N) (L : List (Int × Int)) (hb : ∀ q ∈ L, bdC q) (h1 : 1 ≤ L.length) (hL : L.length < 20) :
    m67 N (.lst false L.length (cellsC L)) = some (.lst false (turnsC ((hullF L).map (ctL L))).length (cellsC (turnsC ((hullF L).map (ctL L))))) := by
  obtain ⟨a1, a2, a3⟩ := hull_facts L
  have hl := hull_lenle L
  have := turns_L N hN L hb (by omega) (hullF L) a3 (by omega) a1 (hullF L) [] N [] rfl (by omega) (by simp)
  simp only [m67, getL, hull_ok N L hb h1 hL (by omega), bnd']
  rw [show m67_L0 N L.length (cellsC L) (hullF L).length (nL (hullF L)) N 0 0 [] = _ from this]
  simp only [List.nil_append]
  rw [grd_t (by rw [cellsC_len])]

theorem eqC {a b : Int × Int} : ((a.1 == b.1) && (a.2 == b.2)) = (a == b) := rfl
theorem need_L0 (N : Nat) (L : List (Int × Int)) (hL : L.length ≤ 1000) (k : Nat) (hk : k < L.length) : ∀ (r i fuel : Nat), k - i = r → i ≤ k → r < fuel →
    ∃ o, m87_L0 N (k : Int) L.length (cellsC L) fuel (i : Int) = some o ∧ ((∀ j, i ≤ j → j < k → ctL L j ≠ ctL L k) → o = .inr ()) ∧ (¬ (∀ j, i ≤ j → j < k → ctL L j ≠ ctL L k) → o = .inl (.bool false))
  | r, i, 0, _, _, h => by omega
  | r, i, f + 1, hr, hi, hf => by
    have hcl : (cellsC L).length = L.length * 2 := cellsC_len L
    have tk : (Int.toNat (k : Int)) = k := by omega
    have ti : (Int.toNat (i : Int)) = i := by omega
    rw [m87_L0]
    by_cases hd : i < k
    · have hw : IntKind.i64.wrap ((i : Int) + 1) = ((i + 1 : Nat) : Int) := by rw [wrap64 (by omega) (by omega)]; omega
      have hil : i < L.length := by omega
      rw [brn_t (by simpa using hd), ti, tk, grd_t ⟨by omega, by omega⟩, grd_t (by simp only [List.length_drop]; omega), cellsC_at (ctL_at hil)]
      simp only [getA2]
      rw [grd_t ⟨by omega, by omega⟩, grd_t (by simp only [List.length_drop]; omega), cellsC_at (ctL_at hk)]
      simp only [getI, if_true]
      obtain ⟨o, o1, o2, o3⟩ := need_L0 N L hL k hk (r - 1) (i + 1) f (by omega) (by omega) (by omega)
      by_cases he : ctL L i = ctL L k
      · rw [brn_t (by rw [he]; simp)]
        exact ⟨_, rfl, fun h => absurd he (h i (Nat.le_refl _) hd), fun _ => rfl⟩
      · have hne : (((ctL L i).1 == (ctL L k).1) && ((ctL L i).2 == (ctL L k).2)) = false := by
          rw [eqC]; simpa using he
        rw [brn_f hne, hw]
        refine ⟨o, o1, fun h => o2 fun j h1 h2 => h j (by omega) h2, fun h => o3 fun hh => h fun j h1 h2 => ?_⟩
        rcases Nat.lt_or_ge i j with h3 | h3
        · exact hh j h3 h2
        · have : j = i := by omega
          subst this; exact he
    · rw [brn_f (by simpa using hd)]
      exact ⟨_, rfl, fun _ => rfl, fun h => absurd (fun j h1 h2 => by omega) h⟩
theorem need_L2 (N : Nat) (L : List (Int × Int)) (hb : ∀ q ∈ L, bdC q) (hL : L.length ≤ 1000) (k : Nat) (hk : k < L.length) (P : List (Int × Int)) (hPl : P.length ≤ 100000) (d0 : List (Int × Int)) (p : Int × Int) (P2 : List (Int × Int)) (eP : P = d0 ++ p :: P2) (hp : bdP p) : ∀ (rest done : List (Int × Int)) (fuel : Nat) (b : Bool),
    L = done ++ rest → rest.length < fuel →
    m87_L2 N (k : Int) L.length (cellsC L) P.length (cellsC P) (d0.length : Int) fuel b (done.length : Int) = some (b && rest.all fun d => d == ctL L k || decide (CtP p d < CtP p (ctL L k)))
  | [], done, 0, _, _, h => by simp at h
  | [], done, f + 1, b, e, _ => by
    have : L.length = done.length := by rw [e]; simp
    rw [m87_L2, brn_f (by simp; omega)]; simp
  | d :: rest, done, 0, _, _, h => by simp at h
  | d :: rest, done, f + 1, b, e, hf => by
    have hLe : L.length = done.length + (rest.length + 1) := by rw [e]; simp
    have hcl : (cellsC L).length = L.length * 2 := cellsC_len L
    have hcp : (cellsC P).length = P.length * 2 := cellsC_len P
    have hPe : P.length = d0.length + (P2.length + 1) := by rw [eP]; simp
    have tk : (Int.toNat (k : Int)) = k := by omega
    have td : (Int.toNat ((done.length : Nat) : Int)) = done.length := by omega
    have t0 : (Int.toNat ((d0.length : Nat) : Int)) = d0.length := by omega
    have hw : IntKind.i64.wrap ((done.length : Int) + 1) = ((done.length + 1 : Nat) : Int) := by rw [wrap64 (by omega) (by omega)]; omega
    have h2 : ((cellsC L).drop (done.length * 2)).take 2 = [.int .i64 d.1, .int .i64 d.2] := by rw [e]; exact cellsC_take done d rest
    have hp2 : ((cellsC P).drop (d0.length * 2)).take 2 = [.int .i64 p.1, .int .i64 p.2] := by rw [eP]; exact cellsC_take d0 p P2
    have bd := hb d (by rw [e]; simp)
    have bk := hb _ (ctL_mem hk)
    have ih := fun b => need_L2 N L hb hL k hk P hPl d0 p P2 eP hp rest (done ++ [d]) f b (by simp [e]) (by simp at hf; omega)
    simp only [List.length_append, List.length_cons, List.length_nil, Nat.zero_add] at ih
    rw [m87_L2, brn_t (by simp; omega)]
    cases b with
    | false => rw [brn_f rfl, hw, ih]; simp
    | true =>
      rw [brn_t rfl, td, tk, t0, grd_t ⟨by omega, by omega⟩, grd_t (by simp only [List.length_drop]; omega), h2]
      simp only [getA2]
      rw [grd_t ⟨by omega, by omega⟩, grd_t (by simp only [List.length_drop]; omega), cellsC_at (ctL_at hk)]
      simp only [getI, if_true]
      by_cases he : d = ctL L k
      · rw [brn_t (by rw [he]; simp), hw, ih]
        simp [he]
      · have hne : ((d.1 == (ctL L k).1) && (d.2 == (ctL L k).2)) = false := by rw [eqC]; simpa using he
        rw [brn_f hne, grd_t ⟨by omega, by omega⟩, grd_t (by simp only [List.length_drop]; omega), hp2]
        simp only [worthP N hp bd, worthP N hp bk, bnd', if_true]
        rw [hw, ih]
        have : (d == ctL L k) = false := by simpa using he
        simp [this]
theorem need_L1 (N : Nat) (L : List (Int × Int)) (hb : ∀ q ∈ L, bdC q) (hL : L.length ≤ 1000) (hN : 4000 ≤ N) (k : Nat) (hk : k < L.length) (P : List (Int × Int)) (hPl : P.length ≤ 100000) (hP : ∀ p ∈ P, bdP p) : ∀ (rest done : List (Int × Int)) (fuel : Nat), P = done ++ rest → rest.length < fuel →
    m87_L1 N (k : Int) L.length (cellsC L) P.length (cellsC P) fuel (done.length : Int) = some (if rest.any (aloneAt L (ctL L k)) then .inl (.bool true) else .inr ())
  | [], done, 0, _, h => by simp at h
  | [], done, f + 1, e, _ => by
    have : P.length = done.length := by rw [e]; simp
    rw [m87_L1, brn_f (by simp; omega)]; simp
  | p :: rest, done, 0, _, h => by simp at h
  | p :: rest, done, f + 1, e, hf => by
    have hPe : P.length = done.length + (rest.length + 1) := by rw [e]; simp
    have hw : IntKind.i64.wrap ((done.length : Int) + 1) = ((done.length + 1 : Nat) : Int) := by rw [wrap64 (by omega) (by omega)]; omega
    have h2 := need_L2 N L hb hL k hk P hPl done p rest e (hP p (by rw [e]; simp)) L [] N true rfl (by omega)
    have ih := need_L1 N L hb hL hN k hk P hPl hP rest (done ++ [p]) f (by simp [e]) (by simp at hf; omega)
    simp only [List.length_append, List.length_cons, List.length_nil, Nat.zero_add] at ih
    rw [m87_L1, brn_t (by simp; omega)]
    rw [show m87_L2 N (k : Int) L.length (cellsC L) P.length (cellsC P) (done.length : Int) N true 0 = _ from h2]
    simp only [bnd', Bool.true_and]
    have ea : (L.all fun d => d == ctL L k || decide (CtP p d < CtP p (ctL L k))) = aloneAt L (ctL L k) p := rfl
    rw [ea]
    cases ha : aloneAt L (ctL L k) p with
    | true => rw [brn_t rfl]; simp [ha]
    | false => rw [brn_f rfl, hw, ih]; simp only [List.any_cons, ha, Bool.false_or]
theorem needed_ok (N : Nat) (hN : 4000 ≤ N) (L : List (Int × Int)) (hb : ∀ q ∈ L, bdC q) (hL : L.length ≤ 1000) (hp : pairsN 0 L.length ≤ 3000 ∧ 2 * pairsN 0 L.length + 2 ≤ N) (k : Nat) (hk : k < L.length) : m87 N (.lst false L.length (cellsC L)) (k : Int) = some (.bool (neededB L k)) := by
  obtain ⟨o, h0, o2, o3⟩ := need_L0 N L hL k hk k 0 N (by omega) (by omega) (by omega)
  have hlen := prices_len (eqs L)
  have hql := eqs_len L
  have h1 := need_L1 N L hb hL hN k hk (pricesQ (eqs L)) (by omega) (prices_bd (eqs_bd hb)) (pricesQ (eqs L)) [] N rfl (by omega)
  simp only [m87, getL]
  rw [show m87_L0 N (k : Int) L.length (cellsC L) N 0 = _ from h0]
  have hf : firstB L k = true ↔ ∀ j, 0 ≤ j → j < k → ctL L j ≠ ctL L k := by
    unfold firstB
    rw [List.all_eq_true]
    constructor
    · intro h i _ hi
      have : ctL L i ∈ L.take k := by
        rw [List.mem_iff_getElem]
        refine ⟨i, by simp; omega, ?_⟩
        have h3 := List.getElem?_eq_some_iff.1 (ctL_at (show i < L.length by omega))
        rw [List.getElem_take]; exact h3.2
      simpa using h _ this
    · intro h d hd
      obtain ⟨i, hi, rfl⟩ := List.mem_iff_getElem.1 hd
      simp only [List.length_take] at hi
      have h3 := List.getElem?_eq_some_iff.1 (ctL_at (show i < L.length by omega))
      have := h i (Nat.zero_le _) (by omega)
      rw [List.getElem_take, h3.2]
      simpa using this
  unfold neededB
  by_cases hh : ∀ j, 0 ≤ j → j < k → ctL L j ≠ ctL L k
  · rw [o2 hh, hf.2 hh]
    simp only [bnd', prices_ok N hN L hL (by omega) hb]
    rw [show m87_L1 N (k : Int) L.length (cellsC L) (pricesQ (eqs L)).length (cellsC (pricesQ (eqs L))) N 0 = _ from h1]
    cases ha : (pricesQ (eqs L)).any (aloneAt L (ctL L k)) <;> simp [ha]
  · rw [o3 hh]
    have : firstB L k = false := by
      rw [← Bool.not_eq_true]; exact fun h => hh (hf.1 h)
    simp [this, bnd']
def posR (f : Nat → Int × Int) (k : Nat) : List Nat → Nat
  | [] => 0
  | a :: r => if (f a).2 < (f k).2 then posR f k r + 1 else 0
theorem posR_le (f : Nat → Int × Int) (k : Nat) : ∀ l : List Nat, posR f k l ≤ l.length
  | [] => by simp [posR]
  | a :: r => by
    have := posR_le f k r
    unfold posR; split <;> simp; omega
theorem insRt_pos (f : Nat → Int × Int) (k : Nat) : ∀ l : List Nat, insRt f k l = l.take (posR f k l) ++ k :: l.drop (posR f k l)
  | [] => by simp [insRt, posR]
  | a :: r => by
    have ih := insRt_pos f k r
    unfold insRt posR
    split
    · rw [ih]; simp
    · simp
theorem all_L1 (N : Nat) (L : List (Int × Int)) (hL : L.length ≤ 1000) (out : List Nat) (ho : ∀ a ∈ out, a < L.length) (hol : out.length ≤ 1000) (k : Nat) (hk : k < L.length) : ∀ (rest done : List Nat) (fuel : Nat), out = done ++ rest → rest.length < fuel →
    m66_L1 N L.length (cellsC L) out.length (k : Int) (nL out) fuel (done.length : Int) = some ((done.length + posR (ctL L) k rest : Nat) : Int)
  | [], done, 0, _, h => by simp at h
  | [], done, f + 1, e, _ => by
    have : out.length = done.length := by rw [e]; simp
    rw [m66_L1, brn_f (by simp; omega)]; simp [posR]
  | a :: rest, done, 0, _, h => by simp at h
  | a :: rest, done, f + 1, e, hf => by
    have hoe : out.length = done.length + (rest.length + 1) := by rw [e]; simp
    have hal := ho a (by rw [e]; simp)
    have hcl : (cellsC L).length = L.length * 2 := cellsC_len L
    have hnl : (nL out).length = out.length := nL_len out
    have td : (Int.toNat ((done.length : Nat) : Int)) = done.length := by omega
    have ta : (Int.toNat (a : Int)) = a := by omega
    have tk : (Int.toNat (k : Int)) = k := by omega
    have hw : IntKind.i64.wrap ((done.length : Int) + 1) = ((done.length + 1 : Nat) : Int) := by rw [wrap64 (by omega) (by omega)]; omega
    have ga : gp (nL out) done.length = .int .i64 (a : Int) := by rw [e]; exact nL_gp done a _
    have ih := all_L1 N L hL out ho hol k hk rest (done ++ [a]) f (by simp [e]) (by simp at hf; omega)
    simp only [List.length_append, List.length_cons, List.length_nil, Nat.zero_add] at ih
    rw [m66_L1, brn_t (by simp; omega), td, grd_t ⟨by omega, by omega⟩, grd_t (by omega), ga]
    simp only [getI, if_true]
    rw [ta, grd_t ⟨by omega, by omega⟩, grd_t (by simp only [List.length_drop]; omega), gpc1 hal]
    simp only [if_true]
    rw [tk, grd_t ⟨by omega, by omega⟩, grd_t (by simp only [List.length_drop]; omega), gpc1 hk]
    simp only [if_true]
    by_cases h : (ctL L a).2 < (ctL L k).2
    · rw [brn_t (by simpa using h), hw, ih]
      simp only [posR, h, if_true]
      congr 2; omega
    · rw [brn_f (by simpa using h)]
      simp [posR, h]
theorem all_L0 (N : Nat) (hN : 4000 ≤ N) (L : List (Int × Int)) (hb : ∀ q ∈ L, bdC q) (hL : L.length ≤ 1000) (hp : pairsN 0 L.length ≤ 3000 ∧ 2 * pairsN 0 L.length + 2 ≤ N) : ∀ (r k fuel : Nat), L.length - k = r → k ≤ L.length → r < fuel →
    m66_L0 N L.length (cellsC L) fuel (allF L k).length (k : Int) (nL (allF L k)) = some ((allF L L.length).length, nL (allF L L.length))
  | r, k, 0, _, _, h => by omega
  | r, k, f + 1, hr, hk, hf => by
    rw [m66_L0]
    have hall : ∀ k, k ≤ L.length → (allF L k).length ≤ k := by
      intro k
      induction k with
      | zero => intro _; simp [allF]
      | succ k ih =>
        intro h
        have := ih (by omega)
        unfold allF
        split
        · rw [insRt_pos]
          have := posR_le (ctL L) k (allF L k)
          simp; omega
        · omega
    have hmem : ∀ a ∈ allF L k, a < L.length := fun a ha => by have := (((allF_sp L k hk).2 a).1 ha).1; omega
    by_cases hd : k < L.length
    · have ho := hall k hk
      have hw : IntKind.i64.wrap ((k : Int) + 1) = ((k + 1 : Nat) : Int) := by rw [wrap64 (by omega) (by omega)]; omega
      have ih := all_L0 N hN L hb hL hp (r - 1) (k + 1) f (by omega) (by omega) (by omega)
      rw [brn_t (by simpa using hd), needed_ok N hN L hb hL hp k hd]
      simp only [bnd', getB]
      cases hn : neededB L k with
      | false =>
        have e : allF L (k + 1) = allF L k := by simp [allF, hn]
        rw [brn_f rfl, hw]
        rw [e] at ih
        exact ih
      | true =>
        have e : allF L (k + 1) = insRt (ctL L) k (allF L k) := by simp [allF, hn]
        rw [e, insRt_pos] at ih
        have hpos := all_L1 N L hL (allF L k) hmem (by omega) k hd (allF L k) [] N rfl (by omega)
        rw [List.length_nil, Nat.zero_add] at hpos
        have hle := posR_le (ctL L) k (allF L k)
        generalize posR (ctL L) k (allF L k) = m at *
        generalize allF L k = out at *
        have hol : (nL out).length = out.length := nL_len out
        have tm : (Int.toNat (m : Int)) = m := by omega
        have tsub : Int.toNat (((out.length : Nat) : Int) - (m : Int)) = out.length - m := by omega
        have g5 : List.length ((nL out).take m) = m := by rw [List.length_take, hol]; omega
        have g6 : List.length (((nL out).drop m).take (out.length - m)) = out.length - m := by rw [List.length_take, List.length_drop, hol]; omega
        have e2 : (((nL out).take m ++ [.int .i64 (k : Int)]) ++ ((nL out).drop m).take (out.length - m)) = nL (out.take m ++ k :: out.drop m) := by
          rw [List.take_of_length_le (l := (nL out).drop m) (by rw [List.length_drop, hol]; omega)]
          simp [nL, List.map_take, List.map_drop]
        have e3 : m + 1 + (out.length - m) = (out.take m ++ k :: out.drop m).length := by
          simp only [List.length_append, List.length_take, List.length_cons, List.length_drop]; omega
        rw [brn_t rfl]
        rw [show m66_L1 N L.length (cellsC L) out.length (k : Int) (nL out) N 0 = _ from hpos]
        simp only []
        rw [tm, tsub, grd_t ⟨by omega, by omega⟩, grd_t g5]
        by_cases h0 : 0 < m
        · rw [brn_t (by simpa using h0), grd_t (by omega), grd_t (by omega), grd_t g6, grd_t (by omega), e2, e3, hw, ih]
        · rw [brn_f (by simpa using h0), grd_t (by omega), grd_t (by omega), grd_t g6, grd_t (by omega), e2, e3, hw, ih]
    · have : k = L.length := by omega
      subst this
      rw [brn_f (by simp)]
theorem all_ok (N : Nat) (hN : 4000 ≤ N) (L : List (Int × Int)) (hb : ∀ q ∈ L, bdC q) (hL : L.length ≤ 1000) (hp : pairsN 0 L.length ≤ 3000 ∧ 2 * pairsN 0 L.length + 2 ≤ N) : m66 N (.lst false L.length (cellsC L)) = some (.lst false (hullF L).length (nL (hullF L))) := by
  have := all_L0 N hN L hb hL hp L.length 0 N (by omega) (by omega) (by omega)
  simp only [m66, getL]
  rw [show m66_L0 N L.length (cellsC L) N 0 0 [] = _ from this]
  simp only [bnd']
  rw [grd_t (nL_len _), hull_all]
end Go.Proofs.Ytgnphlpoofaojaa
