/-
  TurnNeeds: what the functions compute answers as the law says.
-/
import Derived.Test.YtgnphlpoofaojaaULawh
namespace Go.Proofs.Ytgnphlpoofaojaa
open Go.V

theorem hull_facts (L : List (Int × Int)) : Asc ((hullF L).map (ctL L)) ∧ ChA ((hullF L).map (ctL L)) ∧ (∀ k ∈ hullF L, k < L.length) := by
  obtain ⟨h1, h2⟩ := hull_HInv L
  refine ⟨?_, ?_, fun k hk => (h2 k).1 (h1.sub k (List.mem_reverse.2 hk))⟩
  · have := Dsc_rev h1.dsc
    rw [← List.map_reverse, List.reverse_reverse] at this
    exact this
  · have := Chn_rev _ [] h1.chn trivial (by simp)
    rw [← List.map_reverse, List.reverse_reverse, List.append_nil] at this
    exact this
theorem hull_lenle (L : List (Int × Int)) : (hullF L).length ≤ L.length := by
  have h : ∀ (f : Nat → Int × Int) (S T : List Nat), (S.foldl (pushI f) T).length ≤ T.length + S.length := by
    intro f S
    induction S with
    | nil => intro T; simp
    | cons k S ih =>
      intro T
      have h1 := ih (pushI f T k)
      have h2 : (pushI f T k).length ≤ T.length + 1 := by
        unfold pushI
        split
        · simp
        · split
          · omega
          · have := popI_len f k (‹Nat› :: ‹List Nat›)
            simp only [List.length_cons] at this ⊢
            omega
      simp only [List.foldl_cons, List.length_cons]; omega
  have := h (ctL L) (srtF (ctL L) L.length).reverse []
  simp only [hullF, List.length_reverse, List.length_nil, Nat.zero_add, srt_len] at this ⊢
  exact this
theorem turns_L (N : Nat) (hN : 4000 ≤ N) (L : List (Int × Int)) (hb : ∀ q ∈ L, bdC q) (hL : L.length ≤ 1000) (H : List Nat) (hH : ∀ k ∈ H, k < L.length) (hHl : H.length ≤ 1000) (hA : Asc (H.map (ctL L))) : ∀ (rest done : List Nat) (fuel : Nat) (acc : List (Int × Int)),
    H = done ++ rest → rest.length < fuel → acc.length ≤ done.length →
    m67_L0 N L.length (cellsC L) H.length (nL H) fuel acc.length (done.length : Int) (cellsC acc) = some ((acc ++ turnsC (rest.map (ctL L))).length, cellsC (acc ++ turnsC (rest.map (ctL L))))
  | rest, done, 0, _, _, h, _ => by simp at h
  | [], done, f + 1, acc, e, _, _ => by
    have : H.length = done.length := by rw [e]; simp
    have hw : IntKind.i64.wrap (((H.length : Nat) : Int) - 1) = ((H.length : Nat) : Int) - 1 := wrap64 (by omega) (by omega)
    rw [m67_L0, hw, brn_f (by simp; omega)]; simp [turnsC]
  | [a], done, f + 1, acc, e, _, _ => by
    have : H.length = done.length + 1 := by rw [e]; simp
    have hw : IntKind.i64.wrap (((H.length : Nat) : Int) - 1) = ((H.length : Nat) : Int) - 1 := wrap64 (by omega) (by omega)
    rw [m67_L0, hw, brn_f (by simp; omega)]; simp [turnsC]
  | a :: b :: r, done, f + 1, acc, e, hf, ha => by
    have hHe : H.length = done.length + (r.length + 2) := by rw [e]; simp
    have hal := hH a (by rw [e]; simp)
    have hbl := hH b (by rw [e]; simp)
    have hcl : (cellsC L).length = L.length * 2 := cellsC_len L
    have hnl : (nL H).length = H.length := nL_len H
    have hac : (cellsC acc).length = acc.length * 2 := cellsC_len acc
    have td : (Int.toNat ((done.length : Nat) : Int)) = done.length := by omega
    have td1 : (Int.toNat ((done.length + 1 : Nat) : Int)) = done.length + 1 := by omega
    have ta : (Int.toNat (a : Int)) = a := by omega
    have tb : (Int.toNat (b : Int)) = b := by omega
    have hw0 : IntKind.i64.wrap (((H.length : Nat) : Int) - 1) = ((H.length : Nat) : Int) - 1 := wrap64 (by omega) (by omega)
    have hw : IntKind.i64.wrap ((done.length : Int) + 1) = ((done.length + 1 : Nat) : Int) := by rw [wrap64 (by omega) (by omega)]; omega
    have ga : gp (nL H) done.length = .int .i64 (a : Int) := by rw [e]; exact nL_gp done a _
    have gb : gp (nL H) (done.length + 1) = .int .i64 (b : Int) := by
      have := nL_gp (done ++ [a]) b r
      rw [List.length_append, List.length_cons, List.length_nil, List.append_assoc, List.singleton_append] at this
      rw [e]; exact this
    have ba := hb _ (ctL_mem hal)
    have bb := hb _ (ctL_mem hbl)
    have hab : (ctL L a).2 < (ctL L b).2 := by
      have h1 : Asc (done.map (ctL L) ++ ctL L a :: ctL L b :: r.map (ctL L)) := by rw [e] at hA; simpa using hA
      exact (List.pairwise_cons.1 (List.pairwise_append.1 h1).2.1).1 _ (by simp)
    have ba' := ba
    have bb' := bb
    unfold bdC at ba' bb'
    have hm := (low_m N ((ctL L a).1 - (ctL L b).1) ((ctL L b).2 - (ctL L a).2) ⟨by omega, by omega⟩ (by omega) ⟨by omega, by omega⟩ (by omega)).1
    rw [m67_L0, hw0, brn_t (by simp; omega), td, grd_t ⟨by omega, by omega⟩, grd_t (by simp only [List.length_drop]; omega), ga]
    simp only [getI, if_true]
    rw [ta, grd_t ⟨by omega, by omega⟩, grd_t (by simp only [List.length_drop]; omega), cellsC_at (ctL_at hal)]
    simp only [getA2]
    rw [hw, td1, grd_t ⟨by omega, by omega⟩, grd_t (by simp only [List.length_drop]; omega), gb]
    simp only [if_true]
    rw [tb, grd_t ⟨by omega, by omega⟩, grd_t (by simp only [List.length_drop]; omega), cellsC_at (ctL_at hbl)]
    simp only [if_true]
    rw [wrap64 (n := (ctL L a).1 - (ctL L b).1) (by omega) (by omega), wrap64 (n := (ctL L b).2 - (ctL L a).2) (by omega) (by omega), hm]
    simp only [bnd', frP]
    rw [grd_t (by omega), grd_t (by omega)]
    have ih := turns_L N hN L hb hL H hH hHl hA (b :: r) (done ++ [a]) f (acc ++ [crossP (ctL L a) (ctL L b)]) (by simp [e]) (by simp at hf ⊢; omega) (by simp; omega)
    have e3 : cellsC (acc ++ [crossP (ctL L a) (ctL L b)]) = cellsC acc ++ [.int .i64 (lowP ((ctL L a).1 - (ctL L b).1) ((ctL L b).2 - (ctL L a).2)).1, .int .i64 (lowP ((ctL L a).1 - (ctL L b).1) ((ctL L b).2 - (ctL L a).2)).2] := by
      rw [cellsC_app]; rfl
    simp only [List.length_append, List.length_cons, List.length_nil, Nat.zero_add] at ih
    rw [e3] at ih
    rw [ih]
    simp only [List.map_cons, turnsC, List.append_assoc, List.singleton_append, List.length_append, List.length_cons]
    congr 2; omega
theorem turns_ok (N : Nat) (hN : 4000 ≤ N) (L : List (Int × Int)) (hb : ∀ q ∈ L, bdC q) (h1 : 1 ≤ L.length) (hL : L.length < 20) :
    m67 N (.lst false L.length (cellsC L)) = some (.lst false (turnsC ((hullF L).map (ctL L))).length (cellsC (turnsC ((hullF L).map (ctL L))))) := by
  obtain ⟨a1, a2, a3⟩ := hull_facts L
  have hl := hull_lenle L
  have := turns_L N hN L hb (by omega) (hullF L) a3 (by omega) a1 (hullF L) [] N [] rfl (by omega) (by simp)
  simp only [m67, getL, hull_ok N L hb h1 hL (by omega), bnd']
  rw [show m67_L0 N L.length (cellsC L) (hullF L).length (nL (hullF L)) N 0 0 [] = _ from this]
  simp only [List.nil_append]
  rw [grd_t (by rw [cellsC_len])]

end Go.Proofs.Ytgnphlpoofaojaa
