/-
  WeekFilled: the law returns true.
-/
import Derived.Test.YtcaecfofgdogbaaDoorYWhalb
import Derived.Test.YtcaecfofgdogbaaDoorYWcpA
import Derived.Test.YtcaecfofgdogbaaDoorYWpB
import Derived.Test.YtcaecfofgdogbaaDoorYV32
import Derived.Test.YtcaecfofgdogbaaDoorRows
import Derived.Test.YtcaecfofgdogbaaDoorCards
import Derived.Test.YtcaecfofgdogbaaDoorTie
import Derived.Test.YtcaecfofgdogbaaDoorYV31
import Derived.WalkKit
import Derived.ProofKit
import Derived.OpenShut
import Derived.Lay
import Derived.SevenTiedAt
import Derived.MakeChecks
set_option linter.unusedSimpArgs false
set_option linter.unusedVariables false
namespace Go.Proofs.YtcaecfofgdogbaaDoor
open Go.V
set_option linter.unusedSectionVars false
theorem check_ok (N : Nat) (hN : 2000 ≤ N) (x : Int) (L : List (List Int)) (hL : L.length ≤ 1000) (hr : ∀ r ∈ L, r.length ≤ 1000) : m23 N x (.lst false L.length (rwsP L)) = some (.int .i64 (chkE x x L)) ∧ m24 N x (.lst false L.length (rwsP L)) = some (.int .i64 (chkE x x L)) := by
  obtain ⟨T, e, _⟩ := opened_ok N hN x x L hL hr
  constructor
  · rw [m23, getL_t, e, bnd_t]
    unfold opE
    by_cases h : chkE x x L = 0
    · simp only [if_pos h]; rw [h]
    · simp only [if_neg h]
  · rw [m24, getL_t, checked_ok N hN x x L hL hr, bnd_t, getI_t]
theorem fitn_le {n : Nat} (hn : n ≤ 5) (L : List (List Int)) : (fitn n L).length ≤ 3125 := by
  have h1 := ext_card (n := n) n []
  have h2 := pow5 (f := n) hn hn
  have h3 := List.length_filter_le (fun l => fitB L l n 0) (ext n n [])
  unfold fitn; omega
theorem row_fit {n : Nat} (hn : n ≤ 5) {L : List (List Int)} (hp : L.length < n) {T : T3} (hT : ∀ r', Rp L L.length r' 0 T) (F : Nat) (hF : n + 2 ≤ F) : (cmpl n (L.length + 1) F L.length 0 T).map (rowOf n L.length) = (fitn n L).map nL :=
  row_cmpl n hn L L.length hp n [] T F (by simp) (by simp) (hT _) (by omega)
def nxtE (x : Int) (L : List (List Int)) : List Int × Int := if chkE x x L ≠ 0 then ([], chkE x x L) else if (L.length : Int) = x then ([], 16) else (nL ((fitn x.toNat L).headD []), 0)
def rowsE (n : Nat) (A : List Int) : List (List Int) := (List.range n).map fun j => (A.drop (j * 5)).take n
theorem rows_L (N n : Nat) (hN : 5000 ≤ N) (hn1 : 1 ≤ n) (hn : n ≤ 5) (A : List Int) (hA : A.length = 25) : ∀ (f i fuel : Nat), n - i = f → f < fuel → i ≤ n →
    m65_L0 N (n : Int) (iL A) fuel i (i : Int) (rwsP ((List.range i).map fun j => (A.drop (j * 5)).take n)) = some (n, rwsP (rowsE n A))
  | f, i, 0, _, h, _ => by omega
  | 0, i, fuel + 1, hf, _, hi => by
    have : i = n := by omega
    subst this
    rw [m65_L0, brn_df (by omega)]; rfl
  | f + 1, i, fuel + 1, hf, hfu, hi => by
    have e1 : List.take n (List.drop (i * 5) (iL A)) = iL ((A.drop (i * 5)).take n) := by simp [iL, List.map_drop, List.map_take]
    have hl : ((A.drop (i * 5)).take n).length = n := by rw [List.length_take, List.length_drop]; omega
    have c : m56 N (.lst false n (iL ((A.drop (i * 5)).take n))) = some (rwP ((A.drop (i * 5)).take n)) := by
      rw [m56, getL_t, grd_t (by omega), grd_t (by rw [iL_len]; exact hl), grd_t (by omega)]
      unfold rwP; rw [hl]
    have ih := rows_L N n hN hn1 hn A hA f (i + 1) fuel (by omega) (by omega) (by omega)
    have e2 : rwsP ((List.range i).map fun j => (A.drop (j * 5)).take n) ++ [rwP ((A.drop (i * 5)).take n)] = rwsP ((List.range (i + 1)).map fun j => (A.drop (j * 5)).take n) := by
      rw [rws_app, List.range_succ, List.map_append]; rfl
    rw [m65_L0, brn_dt (by omega), grd_t ⟨by omega, by omega⟩, grd_t ⟨by omega, by omega⟩, toNatN, toNatN, e1, c, bnd_t]
    show getL (.lst false _ _) _ = _
    rw [getL_t, grd_t (by omega), grd_t (by rw [rws_len]; simp), wrapN (by omega)]
    show m65_L0 N (n : Int) (iL A) fuel (i + 1) ((i + 1 : Nat) : Int) (rwsP ((List.range i).map fun j => (A.drop (j * 5)).take n) ++ [rwP ((A.drop (i * 5)).take n)]) = _
    rw [e2, ih]
theorem getA_t {α : Type} {c : List PV} {f : List PV → Option α} : getA (.agg c) f = f c := rfl
theorem rows_ok' (N n : Nat) (hN : 5000 ≤ N) (hn1 : 1 ≤ n) (hn : n ≤ 5) (A : List Int) (hA : A.length = 25) : m65 N (.agg (iL A)) (n : Int) = some (.lst false n (rwsP (rowsE n A))) := by
  have := rows_L N n hN hn1 hn A hA n 0 N (by omega) (by omega) (by omega)
  rw [m65, getA_t, show m65_L0 N (n : Int) (iL A) N 0 0 [] = _ from this, bnd_t]
  show grd _ _ = _
  rw [grd_t (by rw [rws_len]; simp [rowsE])]
theorem oneP_A (a b : Nat) (z : Bool) (A : List Int) (hA : A.length = 25) : List.take 25 (List.drop 3 (oneP a b z A)) = iL A := by
  have : List.drop 3 (oneP a b z A) = iL A := rfl
  rw [this, List.take_of_length_le (by rw [iL_len]; omega)]
theorem search_one (N n : Nat) (hN : 5000 ≤ N) (a b : Nat) (A : List Int) (hA : A.length = 25) (T : T3) (R : List T3) (h : m88 N N (a : Int) 0 (b : Int) (oneP a b false A) (tP n T) = some (oneR n a b false A T R)) :
    m64 N (tP n T) (oneP a b false A) = some (.tup [], (oneR n a b false A T R).2.2, (oneR n a b false A T R).2.1) := by
  rw [m64, m112, grd_t (by simp [oneP]), show gp (oneP a b false A) 0 = .int .i64 (a : Int) from rfl, getI_t, grd_t (by simp [oneP]), show gp (oneP a b false A) 1 = .int .i64 (b : Int) from rfl, getI_t, bnd_t, getT2_t, getI_t, getI_t, h, bnd_t]
  cases R <;> rfl
theorem fit_cons {n : Nat} (hn : n ≤ 5) {L : List (List Int)} (h : chkE n n L = 0) (hp : L.length < n) : ∃ y l, fitn n L = y :: l := by
  obtain ⟨X, D, h1, rfl⟩ := plan_ok h
  have hm := fit_many hn h1 (by simpa using hp)
  have hf : ∀ m, 1 ≤ fac m := fun m => by
    induction m with
    | zero => exact Nat.le_refl _
    | succ m ih => rw [fac]; exact Nat.le_trans ih (Nat.le_mul_of_pos_left _ (by omega))
  have h0 := hf (n - X.length)
  cases e : fitn n (X.map nL) with
  | nil => rw [e] at hm; simp at hm; omega
  | cons y l => exact ⟨y, l, rfl⟩
def freD (n : Nat) (L : List (List Int)) (d : Nat) : List Nat := (List.range n).filter fun s => !metB L d (s : Nat)
def freE (x : Int) (L : List (List Int)) : List (List Int) × Int := if chkE x x L ≠ 0 then ([], chkE x x L) else ((List.range x.toNat).map fun d => nL (freD x.toNat L d), 0)
theorem list_L (N : Nat) : ∀ (X fuel : Nat) (A : List Nat), X < 32 → X < fuel → A.length + (bits X).length ≤ 1000 → m62_L0 N fuel (X : Int) A.length (iL (nL A)) = some (A.length + (bits X).length, iL (nL (A ++ bits X)))
  | X, 0, _, _, h, _ => by omega
  | X, fuel + 1, A, hX, hf, hA => by
    rw [m62_L0]
    by_cases h0 : X = 0
    · subst h0
      rw [brn_nf (by simp), bits_zero]; simp
    · obtain ⟨b1, b2, b3⟩ := bits_step X hX h0
      rw [b1, List.length_cons] at hA ⊢
      have ih := list_L N (X &&& (X - 1)) fuel (A ++ [low X]) (by omega) (by omega) (by simp; omega)
      rw [List.length_append, List.length_singleton, List.append_assoc, List.singleton_append] at ih
      rw [brn_nt (by omega), tz_ok N X hX h0, bnd_t, getI_t, grd_t (by omega), grd_t (by rw [iL_len, nL_len]), b_rest X hX h0, iL_app, show nL A ++ [(low X : Int)] = nL (A ++ [low X]) by simp [nL], ih]
      congr 2; omega
theorem bits_le (X : Nat) : (bits X).length ≤ 5 := by
  have := List.length_filter_le (fun s => X.testBit s) (List.range 5)
  simpa [bits] using this
theorem list_ok (N : Nat) (hN : 5000 ≤ N) (X : Nat) (hX : X < 32) : m62 N (X : Int) = some (rwP (nL (bits X))) := by
  have b := bits_le X
  have := list_L N X N [] hX (by omega) (by simp; omega)
  rw [m62, show m62_L0 N N (X : Int) 0 [] = _ from this, bnd_t]
  show grd _ _ = _
  simp only [List.length_nil, Nat.zero_add, List.nil_append]
  rw [grd_t (by rw [iL_len, nL_len])]
  unfold rwP; rw [nL_len]
theorem free_L (N n : Nat) (hN : 5000 ≤ N) (hn : n ≤ 5) (L : List (List Int)) (T : T3) (hT : Rp L L.length [] 0 T) : ∀ (f d fuel : Nat), n - d = f → f < fuel → d ≤ n →
    m17_L1 N (n : Int) (tP n T) fuel d (d : Int) (rwsP ((List.range d).map fun d => nL (freD n L d))) = some (n, rwsP ((List.range n).map fun d => nL (freD n L d)))
  | f, d, 0, _, h, _ => by omega
  | 0, d, fuel + 1, hf, _, hd => by
    have : d = n := by omega
    subst this
    rw [m17_L1, brn_df (by omega)]
  | f + 1, d, fuel + 1, hf, hfu, hd => by
    have hl := tbl_len (n := n) hT.tv.tb
    have ih := free_L N n hN hn L T hT f (d + 1) fuel (by omega) (by omega) (by omega)
    have hX := diff_lt _ (all_lt n (by omega)) _ (hT.tv.tb.d32 d (by omega))
    have hb : bits ((2 ^ n - 1) &&& (31 - bn T.2.2 d)) = freD n L d := by
      unfold bits freD
      have : List.range 5 = List.range n ++ (List.range (5 - n)).map (n + ·) := by rw [← List.range_add, show n + (5 - n) = 5 by omega]
      rw [this, List.filter_append]
      have z : ((List.range (5 - n)).map (n + ·)).filter (fun s => ((2 ^ n - 1) &&& (31 - bn T.2.2 d)).testBit s) = [] := by
        rw [List.filter_eq_nil_iff]
        intro s hs
        obtain ⟨j, hj, rfl⟩ := List.mem_map.1 hs
        have := List.mem_range.1 hj
        rw [tst_diff _ (all_lt n (by omega)) _ (hT.tv.tb.d32 d (by omega)) _ (by omega), tst_all n (by omega) _ (by omega), decide_eq_false (by omega)]
        simp
      rw [z, List.append_nil]
      refine filter_congr' fun s hs => ?_
      have hs := List.mem_range.1 hs
      rw [tst_diff _ (all_lt n (by omega)) _ (hT.tv.tb.d32 d (by omega)) _ (by omega), tst_all n (by omega) _ (by omega), decide_eq_true hs, Bool.true_and]
      congr 1
      rw [Bool.eq_iff_iff, hT.d d s (by omega) (by omega)]
      unfold metB
      rw [List.any_eq_true]
      constructor
      · rintro (⟨q, hq, h5, h6⟩ | h5)
        · exact ⟨q, hq, by simp [h5, h6]⟩
        · omega
      · rintro ⟨q, hq, h5⟩
        simp only [Bool.and_eq_true, decide_eq_true_eq, beq_iff_eq] at h5
        exact .inl ⟨q, hq, h5⟩
    have e2 : rwsP ((List.range d).map fun d => nL (freD n L d)) ++ [rwP (nL (freD n L d))] = rwsP ((List.range (d + 1)).map fun d => nL (freD n L d)) := by
      rw [rws_app, List.range_succ, List.map_append]; rfl
    rw [m17_L1, brn_dt (by omega), grd_t (by omega), grd_t ⟨by omega, by omega⟩, toNatN, toNatN, grd_t (by unfold tP; omega)]
    rw [show gp (tP n T) (31 + d) = .int .u64 (bn T.2.2 d : Int) from gp_d hT.tv.tb (by omega), getU_t, b_all n (by omega), b_diff _ (all_lt n (by omega)) _ (hT.tv.tb.d32 d (by omega)), list_ok N hN _ hX, hb, bnd_t]
    show getL (.lst false _ _) _ = _
    rw [getL_t, grd_t (by omega), grd_t (by rw [rws_len]; simp), wrapN (by omega)]
    show m17_L1 N (n : Int) (tP n T) fuel (d + 1) ((d + 1 : Nat) : Int) (rwsP ((List.range d).map fun d => nL (freD n L d)) ++ [rwP (nL (freD n L d))]) = _
    rw [e2, ih]
theorem fre_L1 (N n : Nat) (hN : 5000 ≤ N) (hn : n ≤ 5) (L : List (List Int)) (hL : L.length ≤ 1000) (d a : Nat) (c : List PV) : ∀ (f s fuel : Nat) (A : List Nat), n - s = f → f < fuel → A.length ≤ s → s ≤ n →
    m18_L1 N (n : Int) L.length (rwsP L) a (d : Int) c fuel A.length (s : Int) (iL (nL A)) = some ((A ++ (List.range' s (n - s)).filter fun s => !metB L d (s : Nat)).length, iL (nL (A ++ (List.range' s (n - s)).filter fun s => !metB L d (s : Nat))))
  | f, s, 0, _, _, h, _, _ => by omega
  | 0, s, fuel + 1, A, hf, _, _, hs => by
    rw [m18_L1, brn_df (by omega), show n - s = 0 by omega]; simp
  | f + 1, s, fuel + 1, A, hf, hfu, hA, hs => by
    rw [m18_L1, brn_dt (by omega), met_ok N (by omega) d (s : Nat) L hL, bnd_t, getB_t, range'_step (show s < n by omega), List.filter_cons, wrapN (by omega)]
    cases metB L d (s : Nat) with
    | true =>
      rw [brn_t rfl, if_neg (by simp)]
      exact fre_L1 N n hN hn L hL d a c f (s + 1) fuel A (by omega) (by omega) (by omega) (by omega)
    | false =>
      have ih := fre_L1 N n hN hn L hL d a c f (s + 1) fuel (A ++ [s]) (by omega) (by omega) (by simp; omega) (by omega)
      rw [List.length_append, List.length_singleton, List.append_assoc, List.singleton_append] at ih
      rw [brn_f rfl, if_pos (by simp), grd_t (by omega), grd_t (by rw [iL_len, nL_len]), iL_app, show nL A ++ [(s : Int)] = nL (A ++ [s]) by simp [nL], ih]
theorem fre_L0 (N n : Nat) (hN : 5000 ≤ N) (hn : n ≤ 5) (L : List (List Int)) (hL : L.length ≤ 1000) : ∀ (f d fuel : Nat), n - d = f → f < fuel → d ≤ n →
    m18_L0 N (n : Int) L.length (rwsP L) fuel d (d : Int) (rwsP ((List.range d).map fun d => nL (freD n L d))) = some (n, rwsP ((List.range n).map fun d => nL (freD n L d)))
  | f, d, 0, _, h, _ => by omega
  | 0, d, fuel + 1, hf, _, hd => by
    have : d = n := by omega
    subst this
    rw [m18_L0, brn_df (by omega)]
  | f + 1, d, fuel + 1, hf, hfu, hd => by
    have ih := fre_L0 N n hN hn L hL f (d + 1) fuel (by omega) (by omega) (by omega)
    have e := fre_L1 N n hN hn L hL d d (rwsP ((List.range d).map fun d => nL (freD n L d))) n 0 N [] (by omega) (by omega) (by simp) (by omega)
    rw [List.nil_append, Nat.sub_zero, ← List.range_eq_range'] at e
    have e2 : rwsP ((List.range d).map fun d => nL (freD n L d)) ++ [rwP (nL (freD n L d))] = rwsP ((List.range (d + 1)).map fun d => nL (freD n L d)) := by
      rw [rws_app, List.range_succ, List.map_append]; rfl
    rw [m18_L0, brn_dt (by omega), show m18_L1 N (n : Int) L.length (rwsP L) d (d : Int) (rwsP ((List.range d).map fun d => nL (freD n L d))) N 0 0 [] = _ from e, bnd_t]
    show grd _ _ = _
    rw [grd_t (by omega), grd_t (by rw [rws_len]; simp), grd_t (by rw [iL_len, nL_len]), wrapN (by omega)]
    have e3 : PV.lst false (freD n L d).length (iL (nL (freD n L d))) = rwP (nL (freD n L d)) := by unfold rwP; rw [nL_len]
    show m18_L0 N (n : Int) L.length (rwsP L) fuel (d + 1) ((d + 1 : Nat) : Int) (rwsP ((List.range d).map fun d => nL (freD n L d)) ++ [PV.lst false (freD n L d).length (iL (nL (freD n L d)))]) = _
    rw [e3, e2, ih]
theorem free_ok (N : Nat) (hN : 5000 ≤ N) (x : Int) (L : List (List Int)) (hL : L.length ≤ 1000) (hr : ∀ r ∈ L, r.length ≤ 1000) : m17 N x (.lst false L.length (rwsP L)) = some (.tup [.lst false (freE x L).1.length (rwsP (freE x L).1), .int .i64 (freE x L).2]) ∧ m18 N x (.lst false L.length (rwsP L)) = some (.tup [.lst false (freE x L).1.length (rwsP (freE x L).1), .int .i64 (freE x L).2]) := by
  obtain ⟨T, e, hT⟩ := opened_ok N (by omega) x x L hL hr
  have hc := (check_ok N (by omega) x L hL hr).2
  constructor
  · rw [m17, getL_t, e, bnd_t]
    unfold opE freE
    by_cases h : chkE x x L = 0
    · simp only [if_pos h]
      obtain ⟨h1, h2, h3, h4⟩ := chkE_zero h
      obtain ⟨n, rfl⟩ : ∃ n : Nat, x = (n : Int) := ⟨x.toNat, by omega⟩
      rw [brn_nf rfl, if_neg (show ¬ chkE n n L ≠ 0 by simpa using h), toNatN, show m17_L1 N (n : Int) (tP n T) N 0 0 [] = _ from free_L N n hN (by omega) L T (hT h []) n 0 N (by omega) (by omega) (by omega), bnd_t]
      show grd _ _ = _
      rw [grd_t (by rw [rws_len]; simp)]
      simp
    · simp only [if_neg h]
      rw [brn_nt h, if_pos h]; rfl
  · rw [m18, getL_t, hc, bnd_t, getI_t]
    unfold freE
    by_cases h : chkE x x L = 0
    · obtain ⟨h1, h2, h3, h4⟩ := chkE_zero h
      obtain ⟨n, rfl⟩ : ∃ n : Nat, x = (n : Int) := ⟨x.toNat, by omega⟩
      rw [brn_nf h, if_neg (show ¬ chkE n n L ≠ 0 by simpa using h), toNatN, show m18_L0 N (n : Int) L.length (rwsP L) N 0 0 [] = _ from fre_L0 N n hN (by omega) L hL n 0 N (by omega) (by omega) (by omega), bnd_t]
      show grd _ _ = _
      rw [grd_t (by rw [rws_len]; simp)]
      simp
    · rw [brn_nt h, if_pos h]; rfl
def fl (n : Nat) (P : List (List Int)) (f : Nat) (l : List Nat) : List (List Nat) := (ext n f l).filter fun x => fitB P x f l.length
def fitG (n : Nat) (P : List (List Int)) (f : Nat) (l : List Nat) (s : Nat) : List (List Nat) := if (decide (s ∈ l) || metB P l.length (s : Nat)) = true then [] else fl n P f (l ++ [s])
theorem fl_step (n : Nat) (P : List (List Int)) (f : Nat) (l : List Nat) : fl n P (f + 1) l = (List.range n).flatMap (fitG n P f l) := by
  unfold fl
  rw [ext, filter_fm]
  refine fm_congr fun s _ => ?_
  unfold fitG fl
  by_cases g : s ∈ l
  · rw [if_pos g, decide_eq_true g, Bool.true_or, if_pos rfl]; rfl
  · rw [if_neg g, decide_eq_false g, Bool.false_or]
    have hx : ∀ x ∈ ext n f (l ++ [s]), gn x l.length = s := fun x hx => by
      rw [(ext_get hx).2 l.length (by simp), gn_app2]
    have hq : (ext n f (l ++ [s])).filter (fun x => fitB P x (f + 1) l.length) = (ext n f (l ++ [s])).filter (fun x => !metB P l.length (s : Nat) && fitB P x f (l.length + 1)) := filter_congr' fun x h => by
      show (!metB P l.length (gn x l.length : Nat) && _) = _
      rw [hx x h]
    rw [hq]
    cases metB P l.length (s : Nat) with
    | true => simp
    | false => simp
theorem idx_L (N : Nat) (s : Int) (X : List Int) (hX : X.length ≤ 1000) : ∀ (f i fuel : Nat), X.length - i = f → f < fuel → ∃ o, m86_L0 N s X.length (iL X) fuel (i : Int) = some o ∧ (s ∈ X.drop i → ∃ j : Nat, o = .inl (.int .i64 (j : Int))) ∧ (s ∉ X.drop i → o = .inr ())
  | f, i, 0, _, h => by omega
  | f, i, fuel + 1, hf, hfu => by
    rw [m86_L0]
    by_cases h : i < X.length
    · obtain ⟨o, o1, o2, o3⟩ := idx_L N s X hX (f - 1) (i + 1) fuel (by omega) (by omega)
      rw [brn_dt (by omega), grd_t ⟨by omega, by omega⟩, toNatN, grd_t (by rw [List.length_drop, iL_len]; omega), iL_gp h, getI_t, drop_en h]
      by_cases e : s = en X i
      · rw [brn_et e]
        exact ⟨_, rfl, fun _ => ⟨i, rfl⟩, fun g => absurd (by rw [← e]; exact .head _) g⟩
      · rw [brn_ef e, wrapN (by omega)]
        refine ⟨o, o1, fun g => o2 ?_, fun g => o3 fun g2 => g (.tail _ g2)⟩
        rcases List.mem_cons.1 g with g | g
        · exact absurd g e
        · exact g
    · rw [brn_df (by omega), List.drop_eq_nil_of_le (by omega)]
      exact ⟨_, rfl, fun g => absurd g (by simp), fun _ => rfl⟩
theorem cont_ok (N : Nat) (hN : 2000 ≤ N) (s : Int) (X : List Int) (hX : X.length ≤ 1000) : m57 N (rwP X) s = some (.bool (decide (s ∈ X))) := by
  obtain ⟨o, o1, o2, o3⟩ := idx_L N s X hX X.length 0 N (by omega) (by omega)
  rw [List.drop_zero] at o2 o3
  unfold rwP
  rw [m57, getL_t, m86, getL_t, show m86_L0 N s X.length (iL X) N 0 = _ from o1, bnd_t]
  by_cases h : s ∈ X
  · obtain ⟨j, rfl⟩ := o2 h
    show bnd' (some (PV.int .i64 (j : Int))) _ = _
    rw [bnd_t, getI_t, decide_eq_true h, decide_eq_true (show (j : Int) ≥ 0 by omega)]
  · rw [o3 h, decide_eq_false h]; rfl
theorem nL_mem {s : Nat} {l : List Nat} : decide ((s : Int) ∈ nL l) = decide (s ∈ l) := by
  refine decide_eq_decide.2 ?_
  unfold nL
  rw [List.mem_map]
  constructor
  · rintro ⟨t, ht, e⟩
    have : t = s := by omega
    exact this ▸ ht
  · exact fun h => ⟨s, h, rfl⟩
theorem clash9_L1 (N n : Nat) (hn : n ≤ 5) (P : List (List Int)) (hP : P.length ≤ 1000) (hPn : ∀ q ∈ P, q.length = n) (rec : PV → List PV → Nat → List PV → Nat → List PV → Option (List PV × Nat × Nat × List PV × List PV)) (k : Nat) (hk : k < n) (cl : List PV) (s : Int) (cc oc pc : List PV) (on : Nat) : ∀ (f i fuel : Nat) (b : Bool), P.length - i = f → f < fuel → i ≤ P.length →
    m79_9_L1 N rec k cl (n : Int) s cc on P.length (rwsP P) oc fuel b (i : Int) = some (b || metB (P.drop i) k s)
  | f, i, 0, _, _, h, _ => by omega
  | 0, i, fuel + 1, b, hf, _, hi => by
    rw [m79_9_L1, brn_df (by omega), List.drop_eq_nil_of_le (by omega)]; simp [metB]
  | f + 1, i, fuel + 1, b, hf, hfu, hi => by
    have h1 : i < P.length := by omega
    have hq := hPn _ (ro_mem h1)
    have ih := fun b => clash9_L1 N n hn P hP hPn rec k hk cl s cc oc pc on f (i + 1) fuel b (by omega) (by omega) (by omega)
    have em : metB (P.drop i) k s = ((en (ro P i) k == s) || metB (P.drop (i + 1)) k s) := by
      rw [drop_ro h1]
      unfold metB
      rw [List.any_cons, decide_eq_true (show k < (ro P i).length by omega), Bool.true_and]
    rw [m79_9_L1, brn_dt (by omega), grd_t ⟨by omega, by omega⟩, toNatN, grd_t (by rw [rws_len]; omega), rws_gp h1, getL_t, wrapN (by omega), em]
    cases b with
    | true => rw [brn_t rfl, ih]; simp
    | false =>
      rw [brn_f rfl, grd_t ⟨by omega, by omega⟩, grd_t (by rw [List.length_drop, iL_len]; omega), iL_gp (by omega), getI_t, ih, Bool.false_or]
theorem fit9_L0 (N n : Nat) (hN : 5000 ≤ N) (hn : n ≤ 5) (P : List (List Int)) (hP : P.length ≤ 1000) (hPn : ∀ q ∈ P, q.length = n) (rec : PV → List PV → Nat → List PV → Nat → List PV → Option (List PV × Nat × Nat × List PV × List PV)) (f : Nat) (l : List Nat) (hl : l.length + (f + 1) = n)
    (hrec : ∀ s (A : List (List Nat)), A.length + (fl n P f (l ++ [s])).length ≤ 100000 → rec (rwP (nL (l ++ [s]))) [.int .i64 (n : Int)] A.length (rwsP (A.map nL)) P.length (rwsP P) = some (([.int .i64 (n : Int)], (A ++ fl n P f (l ++ [s])).length, P.length, rwsP P, rwsP ((A ++ fl n P f (l ++ [s])).map nL)))) : ∀ (g s fuel : Nat) (A : List (List Nat)), n - s = g → g < fuel → A.length + ((List.range' s (n - s)).flatMap (fitG n P f l)).length ≤ 100000 →
    m79_9_L0 N rec l.length (iL (nL l)) (n : Int) fuel (s : Int) [.int .i64 (n : Int)] A.length P.length (rwsP P) (rwsP (A.map nL)) = some (([.int .i64 (n : Int)], (A ++ (List.range' s (n - s)).flatMap (fitG n P f l)).length, P.length, rwsP P, rwsP ((A ++ (List.range' s (n - s)).flatMap (fitG n P f l)).map nL)))
  | g, s, 0, _, _, h, _ => by omega
  | g, s, fuel + 1, A, hg, hfu, hA => by
    rw [m79_9_L0]
    by_cases h : s < n
    · have hc := cont_ok N (by omega) (s : Int) (nL l) (by rw [nL_len]; omega)
      unfold rwP at hc
      rw [nL_len, nL_mem] at hc
      rw [range'_step h, List.flatMap_cons, List.length_append] at hA
      rw [brn_dt (by omega), hc, bnd_t, getB_t, show m79_9_L1 N rec l.length (iL (nL l)) (n : Int) (s : Int) [.int .i64 (n : Int)] A.length P.length (rwsP P) (rwsP (A.map nL)) N (decide (s ∈ l)) 0 = _ from clash9_L1 N n hn P hP hPn rec l.length (by omega) (iL (nL l)) (s : Int) [.int .i64 (n : Int)] (rwsP (A.map nL)) [] A.length P.length 0 N (decide (s ∈ l)) (by omega) (by omega) (by omega), List.drop_zero, bnd_t, range'_step h, List.flatMap_cons, wrapN (by omega)]
      by_cases g1 : (decide (s ∈ l) || metB P l.length (s : Nat)) = true
      · have e : fitG n P f l s = [] := by unfold fitG; rw [if_pos g1]
        rw [e] at hA ⊢
        rw [brn_t g1, List.nil_append]
        exact fit9_L0 N n hN hn P hP hPn rec f l hl hrec (g - 1) (s + 1) fuel A (by omega) (by omega) (by simpa using hA)
      · have e : fitG n P f l s = fl n P f (l ++ [s]) := by unfold fitG; rw [if_neg g1]
        rw [e] at hA ⊢
        have ih := fit9_L0 N n hN hn P hP hPn rec f l hl hrec (g - 1) (s + 1) fuel (A ++ fl n P f (l ++ [s])) (by omega) (by omega) (by rw [List.length_append]; omega)
        have hr := hrec s A (by omega)
        have e2 : PV.lst false (l.length + 1) (iL (nL l) ++ [.int .i64 (s : Int)]) = rwP (nL (l ++ [s])) := by
          rw [iL_app, show nL l ++ [(s : Int)] = nL (l ++ [s]) by simp [nL]]
          unfold rwP; rw [nL_len, List.length_append, List.length_singleton]
        rw [List.append_assoc] at ih
        rw [brn_f (by simpa using g1), grd_t ⟨by omega, by omega⟩, grd_t (by rw [iL_len, nL_len]), grd_t (by omega), e2, hr, bnd_t]
        exact ih
    · rw [brn_df (by omega), show n - s = 0 by omega]; simp
theorem fit9_ok (N n : Nat) (hN : 5000 ≤ N) (hn : n ≤ 5) (P : List (List Int)) (hP : P.length ≤ 1000) (hPn : ∀ q ∈ P, q.length = n) : ∀ (f fu : Nat) (l : List Nat) (A : List (List Nat)), l.length + f = n → f < fu → A.length + (fl n P f l).length ≤ 100000 →
    m79_9 N fu (rwP (nL l)) [.int .i64 (n : Int)] A.length (rwsP (A.map nL)) P.length (rwsP P) = some (([.int .i64 (n : Int)], (A ++ fl n P f l).length, P.length, rwsP P, rwsP ((A ++ fl n P f l).map nL)))
  | f, 0, _, _, _, h, _ => by omega
  | 0, fu + 1, l, A, hl, _, hA => by
    have hll := nL_len l
    have e0 : fl n P 0 l = [l] := by simp [fl, ext, fitB]
    rw [e0] at hA ⊢
    rw [m79_9]
    unfold rwP
    rw [getL_t, grd_t (by simp), show gp [PV.int .i64 (n : Int)] 0 = .int .i64 (n : Int) from rfl, getI_t, brn_et (by omega), grd_t (by simp at hA; omega), grd_t (by rw [rws_len]; simp)]
    rw [show rwsP (A.map nL) ++ [PV.lst false (nL l).length (iL (nL l))] = rwsP ((A ++ [l]).map nL) by simp [rwsP, rwP], List.length_append, List.length_singleton]
  | f + 1, fu + 1, l, A, hl, hf, hA => by
    have hll := nL_len l
    have hs := fl_step n P f l
    rw [hs] at hA ⊢
    rw [m79_9]
    unfold rwP
    have e := fit9_L0 N n hN hn P hP hPn (m79_9 N fu) f l hl (fun s A hA => fit9_ok N n hN hn P hP hPn f fu (l ++ [s]) A (by simp; omega) (by omega) hA) n 0 N A (by omega) (by omega) (by rw [Nat.sub_zero, ← List.range_eq_range']; exact hA)
    rw [Nat.sub_zero, ← List.range_eq_range'] at e
    rw [getL_t, grd_t (by simp), show gp [PV.int .i64 (n : Int)] 0 = .int .i64 (n : Int) from rfl, getI_t, brn_ef (by omega), hll]
    rw [show m79_9_L0 N (m79_9 N fu) l.length (iL (nL l)) (n : Int) N 0 [.int .i64 (n : Int)] A.length P.length (rwsP P) (rwsP (A.map nL)) = _ from e, bnd_t]
theorem met_hd {P : List (List Int)} {i n : Nat} (hn1 : 1 ≤ n) (h1 : i < P.length) (hq : (ro P i).length = n) (s : Int) : metB (P.drop i) 0 s = ((en (ro P i) 0 == s) || metB (P.drop (i + 1)) 0 s) := by
  rw [drop_ro h1]
  unfold metB
  rw [List.any_cons, decide_eq_true (show 0 < (ro P i).length by omega), Bool.true_and]
theorem topB_L1 (N n : Nat) (hn1 : 1 ≤ n) (P : List (List Int)) (hP : P.length ≤ 1000) (hPn : ∀ q ∈ P, q.length = n) (s : Int) (c0 c3 : List PV) (a : Nat) : ∀ (f i fuel : Nat) (b : Bool), P.length - i = f → f < fuel → i ≤ P.length →
    m79_7_L1 N (n : Int) s c0 a P.length (rwsP P) c3 fuel b (i : Int) = some (b || metB (P.drop i) 0 s)
  | f, i, 0, _, _, h, _ => by omega
  | 0, i, fuel + 1, b, hf, _, hi => by
    rw [m79_7_L1, brn_df (by omega), List.drop_eq_nil_of_le (by omega)]; simp [metB]
  | f + 1, i, fuel + 1, b, hf, hfu, hi => by
    have h1 : i < P.length := by omega
    have hq := hPn _ (ro_mem h1)
    have ih := fun b => topB_L1 N n hn1 P hP hPn s c0 c3 a f (i + 1) fuel b (by omega) (by omega) (by omega)
    rw [m79_7_L1, brn_dt (by omega), grd_t ⟨by omega, by omega⟩, toNatN, grd_t (by rw [rws_len]; omega), rws_gp h1, getL_t, wrapN (by omega), met_hd hn1 h1 hq]
    cases b with
    | true => rw [brn_t rfl, ih]; simp
    | false =>
      rw [brn_f rfl, grd_t (by omega), grd_t (by rw [iL_len]; omega), iL_gp (by omega), getI_t, ih, Bool.false_or]
theorem topB_L0 (N n : Nat) (hN : 5000 ≤ N) (hn1 : 1 ≤ n) (hn : n ≤ 5) (P : List (List Int)) (hP : P.length ≤ 1000) (hPn : ∀ q ∈ P, q.length = n) : ∀ (g s fuel : Nat) (A : List (List Nat)), n - s = g → g < fuel → A.length + ((List.range' s (n - s)).flatMap (fitG n P (n - 1) [])).length ≤ 100000 →
    m79_7_L0 N (n : Int) fuel (s : Int) [.int .i64 (n : Int)] A.length P.length (rwsP P) (rwsP (A.map nL)) = some ([.int .i64 (n : Int)], (A ++ (List.range' s (n - s)).flatMap (fitG n P (n - 1) [])).length, P.length, rwsP P, rwsP ((A ++ (List.range' s (n - s)).flatMap (fitG n P (n - 1) [])).map nL))
  | g, s, 0, _, _, h, _ => by omega
  | g, s, fuel + 1, A, hg, hfu, hA => by
    rw [m79_7_L0]
    by_cases h : s < n
    · have hc := cont_ok N (by omega) (s : Int) [] (by simp)
      rw [show rwP [] = PV.lst false 0 [] from rfl, decide_eq_false (show ¬ (s : Int) ∈ ([] : List Int) by simp)] at hc
      rw [range'_step h, List.flatMap_cons, List.length_append] at hA
      have hm := topB_L1 N n hn1 P hP hPn (s : Int) [.int .i64 (n : Int)] (rwsP (A.map nL)) A.length P.length 0 N false (by omega) (by omega) (by omega)
      rw [Bool.false_or, List.drop_zero] at hm
      rw [brn_dt (by omega), hc, bnd_t, getB_t, show m79_7_L1 N (n : Int) (s : Int) [.int .i64 (n : Int)] A.length P.length (rwsP P) (rwsP (A.map nL)) N false 0 = _ from hm, bnd_t, wrapN (by omega), range'_step h, List.flatMap_cons]
      by_cases g1 : metB P 0 (s : Nat) = true
      · have e : fitG n P (n - 1) [] s = [] := by unfold fitG; rw [if_pos (by simpa using g1)]
        rw [e] at hA ⊢
        rw [brn_t g1, List.nil_append]
        exact topB_L0 N n hN hn1 hn P hP hPn (g - 1) (s + 1) fuel A (by omega) (by omega) (by simpa using hA)
      · have e : fitG n P (n - 1) [] s = fl n P (n - 1) [s] := by unfold fitG; rw [if_neg (by simpa using g1)]; rfl
        rw [e] at hA ⊢
        have ih := topB_L0 N n hN hn1 hn P hP hPn (g - 1) (s + 1) fuel (A ++ fl n P (n - 1) [s]) (by omega) (by omega) (by rw [List.length_append]; omega)
        have hr := fit9_ok N n hN hn P hP hPn (n - 1) N [s] A (by simp; omega) (by omega) (by omega)
        rw [List.append_assoc] at ih
        rw [brn_f (by simpa using g1), show PV.lst false 1 [PV.int .i64 (s : Int)] = rwP (nL [s]) from rfl, hr, bnd_t]
        exact ih
    · rw [brn_df (by omega), show n - s = 0 by omega]; simp
theorem fl_all {n : Nat} (hn1 : 1 ≤ n) (P : List (List Int)) : (List.range' 0 (n - 0)).flatMap (fitG n P (n - 1) []) = fitn n P := by
  have := fl_step n P (n - 1) []
  rw [Nat.sub_zero, ← List.range_eq_range', ← this, show n - 1 + 1 = n by omega]; rfl
theorem m38_3_ok (N n : Nat) (hN : 5000 ≤ N) (hn1 : 1 ≤ n) (hn : n ≤ 5) (P : List (List Int)) (hP : P.length ≤ 1000) (hPn : ∀ q ∈ P, q.length = n) : m38_3 N (n : Int) P.length (rwsP P) = some (.lst false (fitn n P).length (rwsP ((fitn n P).map nL)), rwsP P) := by
  have h := topB_L0 N n hN hn1 hn P hP hPn n 0 N [] (by omega) (by omega) (by rw [fl_all hn1]; have := fitn_le hn P; simp; omega)
  rw [fl_all hn1, List.nil_append] at h
  rw [m38_3, m79_7, brn_ef (by omega), show m79_7_L0 N (n : Int) N 0 [.int .i64 (n : Int)] 0 P.length (rwsP P) [] = _ from h, bnd_t, bnd_t]
  show grd _ _ = _
  rw [grd_t (by rw [rws_len, List.length_map])]
theorem ext_dis : ∀ n : Nat, n < 6 → ∀ x ∈ ext n n [], ∀ k : Nat, k < n → gn x k ∉ x.take k := by decide +kernel
theorem mem_nL {s : Nat} {l : List Nat} : (s : Int) ∈ nL l ↔ s ∈ l := by
  have := @nL_mem s l
  exact ⟨fun h => by simpa [h] using this, fun h => by simpa [h] using this⟩
theorem dayE_mk {n : Int} {P : List (List Int)} {r : List Int} : ∀ {f k : Nat}, (∀ j, k ≤ j → j < k + f → 0 ≤ en r j ∧ en r j < n ∧ en r j ∉ r.take j ∧ metB P j (en r j) = false) → dayE n P r f k = 0
  | 0, k, _ => rfl
  | f + 1, k, h => by
    obtain ⟨h1, h2, h3, h4⟩ := h k (by omega) (by omega)
    unfold metB at h4
    rw [dayE, if_neg (by omega), if_neg (by omega), if_neg h3, if_neg (by simpa using h4)]
    exact dayE_mk fun j g1 g2 => h j (by omega) (by omega)
theorem rowE_mk {n : Nat} {L : List (List Int)} : ∀ {f i : Nat}, (∀ j, i ≤ j → j < i + f → (ro L j).length = n ∧ dayE n (L.take j) (ro L j) (ro L j).length 0 = 0) → rowE n n L f i = 0
  | 0, i, _ => rfl
  | f + 1, i, h => by
    obtain ⟨h1, h2⟩ := h i (by omega) (by omega)
    rw [rowE, if_neg (by omega), if_neg (by omega), if_neg (by rw [h2]; simp)]
    exact rowE_mk fun j g1 g2 => h j (by omega) (by omega)
theorem vp_rows {n : Nat} (hn : n ≤ 5) {X : List (List Nat)} {D : List Nat} (h : Vp n X D) : ∀ j, j < X.length → (ro (X.map nL) j).length = n ∧ dayE n ((X.map nL).take j) (ro (X.map nL) j) (ro (X.map nL) j).length 0 = 0 := by
  induction h with
  | nil => intro j hj; simp at hj
  | snoc X D x h hx hf ih =>
    intro j hj
    rw [List.map_append, List.map_singleton]
    by_cases e : j < X.length
    · have e1 : ro (X.map nL ++ [nL x]) j = ro (X.map nL) j := by
        unfold ro; rw [List.getD, List.getElem?_append_left (by simpa using e)]; rfl
      rw [e1, List.take_append_of_le_length (by simp; omega)]
      exact ih j e
    · have ej : j = (X.map nL).length := by simp at hj ⊢; omega
      have e1 : ro (X.map nL ++ [nL x]) j = nL x := by subst ej; simp [ro]
      have hl := (ext_get hx).1
      have hlt := ext_lt (fun s hs => absurd hs (by simp)) hx
      simp at hl
      rw [e1, List.take_append_of_le_length (by omega), ej, List.take_length, nL_len]
      refine ⟨hl, dayE_mk fun k _ hk => ?_⟩
      have hk' : k < x.length := by omega
      have hd := ext_dis n (by omega) x hx k (by omega)
      have hm := hlt _ (gn_mem hk')
      rw [nL_en hk']
      refine ⟨by omega, by omega, ?_, fitB_get hf k (by omega) (by omega)⟩
      rw [show (nL x).take k = nL (x.take k) by simp [nL], mem_nL]
      exact hd
theorem vp_chk {n : Nat} (hn1 : 1 ≤ n) (hn : n ≤ 5) {X : List (List Nat)} {D : List Nat} (h : Vp n X D) (hX : X.length ≤ n) : chkE n n (X.map nL) = 0 := by
  unfold chkE
  rw [if_neg (by omega), if_neg (by omega), if_neg (by simp; omega)]
  exact rowE_mk fun j _ hj => vp_rows hn h j (by simpa using hj)
theorem vp_len {n : Nat} {X : List (List Nat)} {D : List Nat} (h : Vp n X D) : ∀ q ∈ X.map nL, q.length = n := by
  induction h with
  | nil => intro q hq; simp at hq
  | snoc X D x h hx hf ih =>
    intro q hq
    rw [List.map_append, List.mem_append] at hq
    rcases hq with hq | hq
    · exact ih q hq
    · simp at hq; subst hq
      rw [nL_len]; simpa using (ext_get hx).1
theorem fac_pos : ∀ n : Nat, 1 ≤ fac n
  | 0 => Nat.le_refl 1
  | n + 1 => by rw [fac]; exact Nat.le_trans (fac_pos n) (Nat.le_mul_of_pos_left _ (by omega))
theorem getA7_t {α : Type} {a b c d e f g : PV} {k : PV → PV → PV → PV → PV → PV → PV → Option α} : getA7 (.agg [a, b, c, d, e, f, g]) k = k a b c d e f g := rfl
theorem wr8 : ∀ a : Nat, a < 256 → IntKind.i64.wrap (1 + Int.tmod (IntKind.i64.wrap (a : Int)) 5) = ((1 + a % 5 : Nat) : Int) := by decide +kernel
theorem wr9 : ∀ n : Nat, n < 6 → ∀ b : Nat, b < 256 → Int.tmod (IntKind.i64.wrap (b : Int)) (IntKind.i64.wrap ((n : Int) + 1)) = ((b % (n + 1) : Nat) : Int) := by decide +kernel
theorem wr0 {b m : Nat} (hb : b < 256) : Int.tmod (IntKind.i64.wrap (b : Int)) (m : Int) = ((b % m : Nat) : Int) := by
  have : IntKind.i64.wrap (b : Int) = (b : Int) := by
    cases b with
    | zero => decide
    | succ b => exact wrapN (by omega)
  rw [this]; rfl
def u8s (l : List Nat) : List PV := l.map fun (x : Nat) => PV.int .u8 (x : Int)
theorem u8_gp {l : List Nat} {i : Nat} (h : i < l.length) : gp (u8s l) i = .int .u8 (gn l i : Int) := by simp [u8s, gp, gn, List.getD, h]
theorem made_L (N n : Nat) (hN : 5000 ≤ N) (hn1 : 1 ≤ n) (hn : n ≤ 5) (a b c0 c1 c2 c3 c4 : Nat) (ha : a < 256) (hb : b < 256) (h0 : c0 < 256) (h1 : c1 < 256) (h2 : c2 < 256) (h3 : c3 < 256) (h4 : c4 < 256) (en' : n = 1 + a % 5) : ∀ (f fuel : Nat) (X : List (List Nat)) (D : List Nat), b % (n + 1) - X.length = f → f < fuel → Vp n X D → X.length ≤ b % (n + 1) →
    ∃ X' D', Vp n X' D' ∧ X'.length ≤ n ∧ m37_L0 N 5 (.int .u8 (c0 : Int)) (.int .u8 (c1 : Int)) (.int .u8 (c2 : Int)) (.int .u8 (c3 : Int)) (.int .u8 (c4 : Int)) (a : Int) (b : Int) fuel X.length (X.length : Int) (rwsP (X.map nL)) = some (X'.length, rwsP (X'.map nL))
  | f, 0, _, _, _, h, _, _ => by omega
  | f, fuel + 1, X, D, hf, hfu, hV, hX => by
    have hm : b % (n + 1) < n + 1 := Nat.mod_lt _ (by omega)
    rw [m37_L0, wr8 a ha, ← en', wr9 n (by omega) b hb]
    by_cases h : X.length < b % (n + 1)
    · have hk := fit_many hn hV (by omega)
      have hp := fac_pos (n - X.length)
      have hl := vp_len hV
      have e38 := m38_3_ok N n hN hn1 hn (X.map nL) (by simp; omega) hl
      rw [List.length_map] at e38
      have e : [PV.int .u8 (a : Int), .int .u8 (b : Int), .int .u8 (c0 : Int), .int .u8 (c1 : Int), .int .u8 (c2 : Int), .int .u8 (c3 : Int), .int .u8 (c4 : Int)] = u8s [a, b, c0, c1, c2, c3, c4] := rfl
      have hg : gn [a, b, c0, c1, c2, c3, c4] (2 + X.length) < 256 := by
        have hx : X.length < 5 := by omega
        generalize X.length = j at hx
        match j, hx with
        | 0, _ => exact h0
        | 1, _ => exact h1
        | 2, _ => exact h2
        | 3, _ => exact h3
        | 4, _ => exact h4
      rw [brn_dt (by omega), e38, bnd_t]
      dsimp only
      rw [getL_t, grd_t ⟨by omega, by omega⟩, toNatN, grd_t (by omega), e, u8_gp (by simp; omega)]
      generalize gn [a, b, c0, c1, c2, c3, c4] (2 + X.length) = y at hg
      have hM : (fitn n (X.map nL)).length ≤ 3125 := fitn_le hn _
      have hlt : y % (fitn n (X.map nL)).length < (fitn n (X.map nL)).length := Nat.mod_lt _ (by omega)
      have hmem : (fitn n (X.map nL)).getD (y % (fitn n (X.map nL)).length) [] ∈ fitn n (X.map nL) := by
        rw [List.getD, List.getElem?_eq_getElem hlt]; exact List.getElem_mem hlt
      have e2 : gp (rwsP ((fitn n (X.map nL)).map nL)) (y % (fitn n (X.map nL)).length) = rwP (nL ((fitn n (X.map nL)).getD (y % (fitn n (X.map nL)).length) [])) := by
        rw [rws_gp (by simpa using hlt)]
        unfold ro
        rw [List.getD, List.getElem?_map, List.getD, List.getElem?_eq_getElem hlt]; rfl
      generalize (fitn n (X.map nL)).getD (y % (fitn n (X.map nL)).length) [] = x at hmem e2
      obtain ⟨hx, hf'⟩ := List.mem_filter.1 hmem
      obtain ⟨X', D', g1, g2, g3⟩ := made_L N n hN hn1 hn a b c0 c1 c2 c3 c4 ha hb h0 h1 h2 h3 h4 en' (f - 1) fuel (X ++ [x]) _ (by simp; omega) (by omega) (.snoc X D x hV hx hf') (by simp; omega)
      rw [List.length_append, List.length_singleton, List.map_append, List.map_singleton, ← rws_app] at g3
      rw [getI_t, grd_t (by omega), wr0 hg, grd_t ⟨by omega, by omega⟩, toNatN, grd_t (by rw [List.length_drop, rws_len, List.length_map]; omega), e2]
      unfold rwP at g3 ⊢
      rw [getL_t, grd_t (by omega), grd_t (by rw [rws_len, List.length_map]), wrapN (by omega)]
      exact ⟨X', D', g1, g2, g3⟩
    · rw [brn_df (by omega)]
      exact ⟨X, D, hV, by omega, rfl⟩
theorem made_ok (N : Nat) (hN : 5000 ≤ N) (a b c0 c1 c2 c3 c4 : Nat) (ha : a < 256) (hb : b < 256) (h0 : c0 < 256) (h1 : c1 < 256) (h2 : c2 < 256) (h3 : c3 < 256) (h4 : c4 < 256) : ∃ n X D, 1 ≤ n ∧ n ≤ 5 ∧ Vp n X D ∧ X.length ≤ n ∧ m37 N (.agg [.int .u8 (a : Int), .int .u8 (b : Int), .int .u8 (c0 : Int), .int .u8 (c1 : Int), .int .u8 (c2 : Int), .int .u8 (c3 : Int), .int .u8 (c4 : Int)]) 5 = some (.tup [.int .i64 (n : Int), .lst false X.length (rwsP (X.map nL))]) := by
  have hn : 1 + a % 5 ≤ 5 := by have := Nat.mod_lt a (show 0 < 5 by omega); omega
  have hm : b % (1 + a % 5 + 1) < 1 + a % 5 + 1 := Nat.mod_lt _ (by omega)
  obtain ⟨X, D, g1, g2, g3⟩ := made_L N (1 + a % 5) hN (by omega) hn a b c0 c1 c2 c3 c4 ha hb h0 h1 h2 h3 h4 rfl (b % (1 + a % 5 + 1) - 0) N [] _ rfl (by omega) .nil (by simp)
  refine ⟨1 + a % 5, X, D, by omega, hn, g1, g2, ?_⟩
  rw [m37, getA7_t, getI_t, grd_t (by decide), getI_t, grd_t (by rw [wr8 a ha, wrapN (by omega)]; omega), show m37_L0 N 5 (.int .u8 (c0 : Int)) (.int .u8 (c1 : Int)) (.int .u8 (c2 : Int)) (.int .u8 (c3 : Int)) (.int .u8 (c4 : Int)) (a : Int) (b : Int) N 0 0 [] = _ from g3, bnd_t]
  dsimp only
  rw [grd_t (by rw [rws_len, List.length_map]), wr8 a ha]
theorem plan_L2 (N n : Nat) (hn : n ≤ 5) (L : List (List Int)) (hL : L.length ≤ 1000) (hl : ∀ i, i < L.length → (ro L i).length = n) (i : Nat) (hi : i < L.length) (y : Int) (c : List PV) (m : Nat) (k : Nat) (hk : k < n) (s : Int) (h : metB (L.take i) k s = false) : ∀ (f j fuel : Nat), i - j = f → f < fuel → j ≤ i →
    m40_L2 N y L.length (rwsP L) (i : Int) m c (k : Int) s fuel (j : Int) = some (.inr ())
  | f, j, 0, _, _, _ => by omega
  | f, j, fuel + 1, hf, hfu, hj => by
    rw [m40_L2, toNatN]
    by_cases g : j < i
    · have hq := hl j (by omega)
      have e : (en (ro L j) k == s) = false := by
        unfold metB at h
        rw [List.any_eq_false] at h
        have := h (ro L j) (by
          have : ro L j = ro (L.take i) j := by unfold ro; rw [List.getD, List.getD, List.getElem?_take_of_lt g]
          rw [this]; exact ro_mem (by rw [List.length_take]; omega))
        rw [decide_eq_true (show k < (ro L j).length by omega), Bool.true_and] at this
        simpa using this
      rw [brn_dt (by omega), grd_t ⟨by omega, by omega⟩, toNatN, grd_t ⟨by rw [List.length_drop, List.length_take, rws_len]; omega, by omega⟩, rws_gp (by omega), getL_t, grd_t (by omega), toNatN, grd_t (by rw [List.length_drop, iL_len]; omega), iL_gp (by omega), getI_t, brn_f e, wrapN (by omega)]
      exact plan_L2 N n hn L hL hl i hi y c m k hk s h (f - 1) (j + 1) fuel (by omega) (by omega) (by omega)
    · rw [brn_df (by omega)]
theorem plan_L1 (N n : Nat) (hN : 5000 ≤ N) (hn : n ≤ 5) (L : List (List Int)) (hL : L.length ≤ 1000) (hl : ∀ i, i < L.length → (ro L i).length = n) (i : Nat) (hi : i < L.length) (h : ∀ k, k < n → 0 ≤ en (ro L i) k ∧ en (ro L i) k < n ∧ en (ro L i) k ∉ (ro L i).take k ∧ metB (L.take i) k (en (ro L i) k) = false) : ∀ (f k fuel : Nat), n - k = f → f < fuel → k ≤ n →
    m40_L1 N (n : Int) L.length (rwsP L) (i : Int) n (iL (ro L i)) fuel (k : Int) = some (.inr ())
  | f, k, 0, _, _, _ => by omega
  | f, k, fuel + 1, hf, hfu, hk => by
    rw [m40_L1]
    by_cases g : k < n
    · obtain ⟨e1, e2, e3, e4⟩ := h k g
      have h1 := hl i hi
      have ec := cont_ok N (by omega) (en (ro L i) k) ((ro L i).take k) (by rw [List.length_take]; omega)
      unfold rwP at ec
      rw [decide_eq_false e3, List.length_take, show min k (ro L i).length = k by omega, ← iL_take] at ec
      have e5 := plan_L2 N n hn L hL hl i hi (n : Int) (iL (ro L i)) n k g (en (ro L i) k) e4 i 0 N (by omega) (by omega) (by omega)
      rw [brn_dt (by omega), grd_t ⟨by omega, by omega⟩, toNatN, grd_t (by rw [List.length_drop, iL_len]; omega), iL_gp (by omega), getI_t, brn_df (by omega), brn_df (by omega), grd_t (by omega), grd_t (by rw [iL_len]; omega), ec, bnd_t, getB_t, brn_f rfl, grd_t (by omega), grd_t (rws_len L), show m40_L2 N (n : Int) L.length (rwsP L) (i : Int) n (iL (ro L i)) (k : Int) (en (ro L i) k) N 0 = _ from e5, bnd_t]
      dsimp only
      rw [wrapN (by omega)]
      exact plan_L1 N n hN hn L hL hl i hi h (f - 1) (k + 1) fuel (by omega) (by omega) (by omega)
    · rw [brn_df (by omega)]
theorem plan_L0 (N n : Nat) (hN : 5000 ≤ N) (hn : n ≤ 5) (L : List (List Int)) (hL : L.length ≤ n) (h : ∀ j, j < L.length → (ro L j).length = n ∧ dayE n (L.take j) (ro L j) (ro L j).length 0 = 0) : ∀ (f i fuel : Nat), L.length - i = f → f < fuel → i ≤ L.length →
    m40_L0 N (n : Int) L.length (rwsP L) fuel (i : Int) = some (.inr ())
  | f, i, 0, _, _, _ => by omega
  | f, i, fuel + 1, hf, hfu, hi => by
    rw [m40_L0]
    by_cases g : i < L.length
    · obtain ⟨e1, e2⟩ := h i g
      have e3 := plan_L1 N n hN hn L (by omega) (fun j hj => (h j hj).1) i g (fun k hk => dayE_zero e2 k (by omega) (by omega)) n 0 N (by omega) (by omega) (by omega)
      rw [brn_dt (by omega), grd_t ⟨by omega, by omega⟩, toNatN, grd_t (by rw [List.length_drop, rws_len]; omega), rws_gp g, getL_t, e1, brn_nf rfl, show m40_L1 N (n : Int) L.length (rwsP L) (i : Int) n (iL (ro L i)) N 0 = _ from e3, bnd_t]
      dsimp only
      rw [wrapN (by omega)]
      exact plan_L0 N n hN hn L hL h (f - 1) (i + 1) fuel (by omega) (by omega) (by omega)
    · rw [brn_df (by omega)]
theorem planned_ok (N : Nat) (hN : 5000 ≤ N) (n : Nat) (hn : n ≤ 5) (L : List (List Int)) (hL : L.length ≤ n) (h : ∀ j, j < L.length → (ro L j).length = n ∧ dayE n (L.take j) (ro L j) (ro L j).length 0 = 0) : m40 N (n : Int) (.lst false L.length (rwsP L)) = some (.bool true) := by
  have e := plan_L0 N n hN hn L hL h L.length 0 N (by omega) (by omega) (by omega)
  rw [m40, getL_t, brn_df (by omega), show m40_L0 N (n : Int) L.length (rwsP L) N 0 = _ from e, bnd_t]
theorem nd_lt {to i n : Nat} (h : i < to) : (to - (i + 1)) * (n + 1) + n < (to - i) * (n + 1) := by
  obtain ⟨a, rfl⟩ : ∃ a, to = i + 1 + a := ⟨to - (i + 1), by omega⟩
  rw [show i + 1 + a - (i + 1) = a by omega, show i + 1 + a - i = a + 1 by omega, Nat.add_mul, Nat.one_mul]; omega
theorem cmpl_fuel (n to : Nat) : ∀ (f f' i k : Nat) (T : T3), (to - i) * (n + 1) + (n - k) < f → (to - i) * (n + 1) + (n - k) < f' → i ≤ to → k ≤ n → cmpl n to f i k T = cmpl n to f' i k T
  | 0, _, _, _, _, h, _, _, _ => by omega
  | _ + 1, 0, _, _, _, _, h, _, _ => by omega
  | f + 1, f' + 1, i, k, T, h, h', hi, hk => by
    rw [cmpl, cmpl]
    by_cases e : i = to
    · rw [if_pos e, if_pos e]
    · have hh := nd_lt (n := n) (show i < to by omega)
      rw [if_neg e, if_neg e]
      by_cases e2 : k = n
      · rw [if_pos e2, if_pos e2, cmpl_fuel n to f f' (i + 1) 0 T (by omega) (by omega) (by omega) (by omega)]
      · rw [if_neg e2, if_neg e2, cmpl_fuel n to f f' i (k + 1) T (by omega) (by omega) hi (by omega)]
        by_cases e3 : 0 ≤ en T.1 (i * 5 + k)
        · rw [if_pos e3, if_pos e3]
        · rw [if_neg e3, if_neg e3]
          exact fm_congr fun s _ => cmpl_fuel n to f f' i (k + 1) _ (by omega) (by omega) hi (by omega)
theorem cmpl_in {n to f i k : Nat} {T : T3} (h1 : i ≠ to) (h2 : k ≠ n) : cmpl n to (f + 1) i k T = if 0 ≤ en T.1 (i * 5 + k) then cmpl n to f i (k + 1) T else (bits (mayB n (bn T.2.1 i) (bn T.2.2 k))).flatMap fun s => cmpl n to f i (k + 1) (putT T i k s) := by
  rw [cmpl, if_neg h1, if_neg h2]
theorem cmpl_split (n p : Nat) (hp : p < n) : ∀ (f k : Nat) (T : T3), k + f = n → ∀ F F' G, (n - p) * (n + 1) + (n - k) < F → (p + 1 - p) * (n + 1) + (n - k) < F' → (n - (p + 1)) * (n + 1) + n < G →
    cmpl n n F p k T = (cmpl n (p + 1) F' p k T).flatMap fun T' => cmpl n n G (p + 1) 0 T'
  | 0, k, T, hk, F, F', G, hF, hF', hG => by
    obtain ⟨F, rfl⟩ : ∃ x, F = x + 1 := ⟨F - 1, by omega⟩
    obtain ⟨F', rfl⟩ : ∃ x, F' = x + 2 := ⟨F' - 2, by rw [show p + 1 - p = 1 by omega] at hF'; omega⟩
    have hh := nd_lt (n := n) hp
    rw [cmpl, if_neg (by omega), if_pos (by omega), cmpl, if_neg (by omega), if_pos (by omega), cmpl, if_pos rfl, List.flatMap_singleton]
    exact cmpl_fuel n n F G (p + 1) 0 T (by omega) (by omega) (by omega) (by omega)
  | f + 1, k, T, hk, F, F', G, hF, hF', hG => by
    obtain ⟨F, rfl⟩ : ∃ x, F = x + 1 := ⟨F - 1, by omega⟩
    obtain ⟨F', rfl⟩ : ∃ x, F' = x + 1 := ⟨F' - 1, by omega⟩
    have ih := fun T => cmpl_split n p hp f (k + 1) T (by omega) F F' G (by omega) (by omega) hG
    rw [cmpl_in (by omega) (by omega), cmpl_in (by omega) (by omega)]
    by_cases e3 : 0 ≤ en T.1 (p * 5 + k)
    · rw [if_pos e3, if_pos e3, ih]
    · rw [if_neg e3, if_neg e3, List.flatMap_assoc]
      exact fm_congr fun s _ => ih _
theorem cmpl_skip (n p : Nat) (hp : p ≤ n) (T : T3) (hT : ∀ i k, i < p → k < n → 0 ≤ en T.1 (i * 5 + k)) : ∀ (f i k F : Nat), (n - i) * (n + 1) + (n - k) < f → (n - p) * (n + 1) + n < F → i ≤ p → k ≤ n → (i = p → k = 0) → cmpl n n f i k T = cmpl n n F p 0 T
  | 0, _, _, _, h, _, _, _, _ => by omega
  | f + 1, i, k, F, h, hF, hi, hk, hz => by
    by_cases e : i = p
    · obtain rfl := e
      obtain rfl := hz rfl
      exact cmpl_fuel n n _ _ i 0 T (by omega) (by omega) hp (by omega)
    · have hh := nd_lt (n := n) (show i < n by omega)
      rw [cmpl, if_neg (by omega)]
      by_cases e2 : k = n
      · rw [if_pos e2]
        exact cmpl_skip n p hp T hT f (i + 1) 0 F (by omega) hF (by omega) (by omega) (fun _ => rfl)
      · rw [if_neg e2, if_pos (hT i k (by omega) (by omega))]
        exact cmpl_skip n p hp T hT f i (k + 1) F (by omega) hF hi (by omega) (fun g => absurd g e)
theorem row_mem (n : Nat) (hn : n ≤ 5) (P : List (List Int)) (p : Nat) (hp : p < n) (hP : P.length = p) : ∀ (f : Nat) (l : List Nat) (T : T3) (F : Nat), l.length + f = n → Rp P p (nL l) l.length T → f + 2 ≤ F → ∀ T' ∈ cmpl n (p + 1) F p l.length T, ∃ x : List Nat, x.length = n ∧ rowOf n p T' = nL x ∧ ∀ r', Rp (P ++ [nL x]) (p + 1) r' 0 T'
  | 0, l, T, F, hl, hT, hF => by
    obtain ⟨F, rfl⟩ : ∃ G, F = G + 2 := ⟨F - 2, by omega⟩
    rw [cmpl, if_neg (by omega), if_pos (by omega), cmpl, if_pos rfl]
    intro T' hm
    obtain rfl := List.mem_singleton.1 hm
    have h2 := hT
    rw [show l.length = (nL l).length from (nL_len l).symm] at h2
    refine ⟨l, by omega, ?_, fun r' => h2.next hP (by rw [nL_len]; omega) r'⟩
    exact rowOf_eq hn (by omega) hT.tv (by rw [nL_len]; omega) fun d hd => by
      rw [hT.a p d (by omega) (by omega), if_neg (by omega), if_pos ⟨rfl, by omega⟩]
  | f + 1, l, T, F, hl, hT, hF => by
    obtain ⟨F, rfl⟩ : ∃ G, F = G + 1 := ⟨F - 1, by omega⟩
    have ha : en T.1 (p * 5 + l.length) = -1 := by
      rw [hT.a p l.length (by omega) (by omega), if_neg (by omega), if_neg (by omega)]
    rw [cmpl, if_neg (by omega), if_neg (by omega), if_neg (by omega)]
    intro T' hm
    obtain ⟨s, hs, hm⟩ := List.mem_flatMap.1 hm
    have h5 := (mem_bits.1 hs).1
    have hl1 : (l ++ [s]).length = l.length + 1 := by simp
    have hR : Rp P p (nL (l ++ [s])) l.length T := hT.congr (by rw [show nL (l ++ [s]) = nL l ++ [(s : Int)] by simp [nL], List.take_append_of_le_length (by rw [nL_len]; omega)]) fun d hd => by rw [nL_en hd, nL_en (by omega), gn_app1 hd]
    have hR2 := hR.put (by omega) (by omega) (by rw [nL_len]; omega) h5 (by rw [nL_en (by omega), gn_app2])
    rw [← hl1] at hR2 hm
    exact row_mem n hn P p hp hP f (l ++ [s]) _ F (by omega) hR2 (by omega) T' hm
def gre (n : Nat) : Nat → List (List Nat) → List (List Nat)
  | 0, X => X
  | m + 1, X => gre n m (X ++ [(fitn n (X.map nL)).headD []])
theorem gre_len (n : Nat) : ∀ (m : Nat) (X : List (List Nat)), (gre n m X).length = X.length + m
  | 0, X => rfl
  | m + 1, X => by rw [gre, gre_len n m]; simp; omega
theorem vp_head {n : Nat} (hn1 : 1 ≤ n) (hn : n ≤ 5) {X : List (List Nat)} {D : List Nat} (h : Vp n X D) (hX : X.length < n) : ∃ y l, fitn n (X.map nL) = y :: l ∧ Vp n (X ++ [y]) (stp D y) ∧ y.length = n := by
  obtain ⟨y, l, e⟩ := fit_cons hn (vp_chk hn1 hn h (by omega)) (by simpa using hX)
  have hm : y ∈ fitn n (X.map nL) := by rw [e]; exact .head _
  obtain ⟨h1, h2⟩ := List.mem_filter.1 hm
  exact ⟨y, l, e, .snoc X D y h h1 h2, by simpa using (ext_get h1).1⟩
theorem gre_vp {n : Nat} (hn1 : 1 ≤ n) (hn : n ≤ 5) : ∀ (m : Nat) {X : List (List Nat)} {D : List Nat}, Vp n X D → X.length + m = n → ∃ D', Vp n (gre n m X) D'
  | 0, X, D, h, _ => ⟨D, h⟩
  | m + 1, X, D, h, hm => by
    obtain ⟨y, l, e, h2, _⟩ := vp_head hn1 hn h (by omega)
    rw [gre, e]
    exact gre_vp hn1 hn m h2 (by simp; omega)
theorem full_hd {n : Nat} (hn1 : 1 ≤ n) (hn : n ≤ 5) : ∀ (m : Nat) (X : List (List Nat)) (D : List Nat) (T : T3), Vp n X D → X.length + m = n → (∀ r', Rp (X.map nL) X.length r' 0 T) → ∀ F, (n - X.length) * (n + 1) + n < F →
    ∃ T1 l, cmpl n n F X.length 0 T = T1 :: l ∧ ∀ r', Rp ((gre n m X).map nL) n r' 0 T1
  | 0, X, D, T, h, hm, hT, F, hF => by
    obtain ⟨F, rfl⟩ : ∃ x, F = x + 1 := ⟨F - 1, by omega⟩
    rw [cmpl, if_pos (by omega)]
    exact ⟨T, [], rfl, by rw [show X.length = n by omega] at hT; exact hT⟩
  | m + 1, X, D, T, h, hm, hT, F, hF => by
    obtain ⟨y, l, e, h2, hy⟩ := vp_head hn1 hn h (by omega)
    have hl : (X.map nL).length = X.length := List.length_map ..
    have hr := row_fit hn (L := X.map nL) (by omega) (T := T) (by rw [hl]; exact hT) (n + n + 4) (by omega)
    rw [hl, e] at hr
    cases ec : cmpl n (X.length + 1) (n + n + 4) X.length 0 T with
    | nil => rw [ec] at hr; simp at hr
    | cons T' R =>
      rw [ec] at hr
      have hr1 : rowOf n X.length T' = nL y := by
        simp only [List.map_cons, List.cons.injEq] at hr; exact hr.1
      obtain ⟨x, x1, x2, x3⟩ := row_mem n hn (X.map nL) X.length (by omega) hl n [] T (n + n + 4) (by simp) (hT _) (by omega) T' (by rw [show ([] : List Nat).length = 0 from rfl, ec]; exact .head _)
      rw [← x2, hr1] at x3
      rw [gre, e]
      have hl1 : (X ++ [y]).length = X.length + 1 := by simp
      obtain ⟨T1, l1, g1, g2⟩ := full_hd hn1 hn m (X ++ [y]) _ T' h2 (by omega) (by rw [hl1, List.map_append, List.map_singleton]; exact x3) ((n - (X.length + 1)) * (n + 1) + n + 1) (by rw [hl1]; omega)
      rw [hl1] at g1
      rw [cmpl_split n X.length (by omega) n 0 T (by omega) F (n + n + 4) ((n - (X.length + 1)) * (n + 1) + n + 1) (by omega) (by rw [show X.length + 1 - X.length = 1 by omega]; omega) (by omega), ec, List.flatMap_cons, g1]
      exact ⟨T1, _, rfl, g2⟩
theorem full_rows {n : Nat} (hn : n ≤ 5) {L : List (List Int)} (hL : L.length = n) (hl : ∀ q ∈ L, q.length = n) {T : T3} (hT : ∀ r', Rp L n r' 0 T) : rowsE n T.1 = L := by
  have h := hT []
  unfold rowsE
  refine List.ext_getElem (by simp [hL]) fun i h1 h2 => ?_
  have hi : i < n := by simpa using h1
  have e : L[i] = ro L i := by simp [ro, List.getD, h2]
  rw [List.getElem_map, List.getElem_range, e]
  have hq := hl _ (ro_mem h2)
  exact rowOf_eq hn (by omega) h.tv hq fun d hd => by
    rw [h.a i d (by omega) (by omega), if_pos hi, if_pos (by omega)]
def outR2 (c : List PV) (n : Nat) (e : Int) (T : T3) : ((Int × List PV) ⊕ (Int × List PV × List PV)) ⊕ List PV := if e = 0 then .inr (tP n T) else .inl (.inl (e, c))
theorem open2_L1 (N n : Nat) (hn : n ≤ 5) (w : Int) (L : List (List Int)) (P : List (List Int)) (r : List Int) (i : Nat) (hi : i < 5) (hr : r.length ≤ 5) : ∀ (f k fuel : Nat) (T : T3), r.length - k = f → f < fuel → k ≤ r.length → Rp P i r k T →
    ∃ T', m61_2_L1 N (n : Int) L.length w (rwsP L) (i : Int) r.length (iL r) fuel (k : Int) (tP n T) = some (outR2 (rwsP L) n (dayE n P r f k) T') ∧ (dayE n P r f k = 0 → Rp P i r r.length T')
  | f, k, 0, _, _, h, _, _ => by omega
  | 0, k, fuel + 1, T, hf, _, hk, hT => by
    have : k = r.length := by omega
    subst this
    refine ⟨T, ?_, fun _ => hT⟩
    rw [m61_2_L1, brn_df (by omega)]; rfl
  | f + 1, k, fuel + 1, T, hf, hfu, hk, hT => by
    have hl := tbl_len (n := n) hT.tv.tb
    have h1 : k < r.length := by omega
    rw [m61_2_L1, brn_dt (by omega), dayE]
    rw [grd_t (p := 0 ≤ (k : Int) ∧ (k : Int) < ((r.length : Nat) : Int)) ⟨by omega, by omega⟩, grd_t (p := 0 < List.length (List.drop (Int.toNat (k : Int)) (iL r))) (by rw [List.length_drop, iL_len, toNatN]; omega), gI_n h1]
    by_cases h2 : en r k < 0
    · rw [brn_dt h2, if_pos h2]; exact ⟨T, rfl, fun h => by cases h⟩
    · rw [brn_df h2, if_neg h2]
      by_cases h3 : (n : Int) ≤ en r k
      · rw [brn_dt (by omega), if_pos h3]; exact ⟨T, rfl, fun h => by cases h⟩
      · obtain ⟨s, hs⟩ : ∃ s : Nat, en r k = (s : Int) := ⟨(en r k).toNat, by omega⟩
        have s5 : s < 5 := by omega
        rw [brn_df (by omega), if_neg h3, hs, toNatN, toNatN, toNatN, grd_t (by omega), grd_t (by unfold tP; omega)]
        rw [show gp (tP n T) (26 + i) = .int .u64 (bn T.2.1 i : Int) from gp_b hT.tv.tb hi, getU_t, grd_t (by omega), b_tst _ (hT.tv.tb.b32 i hi) s s5]
        by_cases h4 : (s : Int) ∈ r.take k
        · rw [brn_t ((hT.b s s5).2 h4), if_pos h4]; exact ⟨T, rfl, fun h => by cases h⟩
        · rw [brn_f (by rw [Bool.eq_false_iff]; intro h; exact h4 ((hT.b s s5).1 h)), if_neg h4, grd_t (by omega), grd_t (by unfold tP; omega)]
          rw [show gp (tP n T) (31 + k) = .int .u64 (bn T.2.2 k : Int) from gp_d hT.tv.tb (by omega), getU_t, b_tst _ (hT.tv.tb.d32 k (by omega)) s s5]
          have hd : (bn T.2.2 k).testBit s = P.any (fun q => decide (k < q.length) && (en q k == (s : Int))) := by
            rw [Bool.eq_iff_iff, hT.d k s (by omega) s5, List.any_eq_true]
            constructor
            · rintro (⟨q, hq, h5, h6⟩ | h5)
              · exact ⟨q, hq, by simp [h5, h6]⟩
              · omega
            · rintro ⟨q, hq, h5⟩
              simp only [Bool.and_eq_true, decide_eq_true_eq, beq_iff_eq] at h5
              exact .inl ⟨q, hq, h5⟩
          rw [hd]
          cases h5 : P.any (fun q => decide (k < q.length) && (en q k == (s : Int))) with
          | true => rw [brn_t rfl, if_pos rfl]; exact ⟨T, rfl, fun h => by cases h⟩
          | false =>
            rw [brn_f rfl, if_neg (by simp)]
            obtain ⟨T', e1, e2⟩ := open2_L1 N n hn w L P r i hi hr f (k + 1) fuel (putT T i k s) (by omega) (by omega) (by omega) (hT.put hi (by omega) h1 s5 hs)
            refine ⟨T', ?_, e2⟩
            rw [show m72 N (i : Int) (k : Int) (s : Int) (tP n T) = _ from put_ok N n hT.tv.tb hi (by omega) s5, bnd_t]
            show getT0 (.tup []) _ = _
            rw [getT0_t, wrapN (by omega)]
            exact e1
theorem open2_L0 (N n : Nat) (hN : 2000 ≤ N) (hn : n ≤ 5) (w : Int) (L : List (List Int)) (hL : L.length ≤ n) (hr20 : ∀ r ∈ L, r.length ≤ 1000) : ∀ (f i fuel : Nat) (T : T3), L.length - i = f → f < fuel → i ≤ L.length → (∀ r', Rp (L.take i) i r' 0 T) →
    ∃ T', m61_2_L0 N (n : Int) L.length w (rwsP L) fuel (i : Int) (tP n T) = some (outR2 (rwsP L) n (rowE n w L f i) T') ∧ (rowE n w L f i = 0 → ∀ r', Rp L L.length r' 0 T')
  | f, i, 0, _, _, h, _, _ => by omega
  | 0, i, fuel + 1, T, hf, _, hi, hT => by
    have : i = L.length := by omega
    subst this
    refine ⟨T, ?_, fun _ r' => by have := hT r'; rwa [List.take_length] at this⟩
    rw [m61_2_L0, brn_df (by omega)]; rfl
  | f + 1, i, fuel + 1, T, hf, hfu, hi, hT => by
    have h1 : i < L.length := by omega
    have hrl := hr20 _ (ro_mem h1)
    rw [m61_2_L0, brn_dt (by omega), rowE]
    simp (disch := (try simp only [List.length_drop, iL_len, rws_len, toNatN]) <;> omega) only [↓grd_t, ↓gL_n]
    by_cases h2 : ((ro L i).length : Int) = w
    · rw [brn_nf h2, if_neg (by simpa using h2)]
      by_cases h3 : (n : Int) < w
      · rw [brn_dt (by omega), if_pos h3]; exact ⟨T, rfl, fun h => by cases h⟩
      · rw [brn_df (by omega), if_neg h3]
        obtain ⟨T', e1, e2⟩ := open2_L1 N n hn w L (L.take i) (ro L i) i (by omega) (by omega) (ro L i).length 0 N T (by omega) (by omega) (by omega) (hT _)
        rw [show m61_2_L1 N (n : Int) L.length w (rwsP L) (i : Int) (ro L i).length (iL (ro L i)) N 0 (tP n T) = _ from e1, bnd_t]
        by_cases h4 : dayE n (L.take i) (ro L i) (ro L i).length 0 = 0
        · rw [if_neg (by simpa using h4), wrapN (by omega)]
          unfold outR2
          rw [if_pos h4]
          have h5 := (e2 h4).next (by rw [List.length_take]; omega) (by omega)
          rw [← take_ro h1] at h5
          exact open2_L0 N n hN hn w L hL hr20 f (i + 1) fuel T' (by omega) (by omega) (by omega) h5
        · unfold outR2
          simp only [if_neg h4, if_pos (show dayE (n : Int) (L.take i) (ro L i) (ro L i).length 0 ≠ 0 from h4)]
          exact ⟨T, by trivial, fun h => absurd h h4⟩
    · rw [brn_nt h2, if_pos h2]; exact ⟨T, rfl, fun h => by cases h⟩
def opE2 (c : List PV) (n : Nat) (e : Int) (T : T3) : (Int × List PV) ⊕ (Int × List PV × List PV) := if e = 0 then .inr (0, c, tP n T) else .inl (e, c)
theorem opened2_ok (N : Nat) (hN : 2000 ≤ N) (x w : Int) (L : List (List Int)) (hL : L.length ≤ 1000) (hr : ∀ r ∈ L, r.length ≤ 1000) :
    ∃ T, m61_2 N x L.length w (rwsP L) = some (opE2 (rwsP L) x.toNat (chkE x w L) T) ∧ (chkE x w L = 0 → ∀ r', Rp L L.length r' 0 T) := by
  rw [m61_2]
  unfold chkE
  by_cases h1 : x < 1
  · rw [brn_dt h1, if_pos h1]; exact ⟨T0, rfl, fun h => by cases h⟩
  · rw [brn_df h1, if_neg h1]
    by_cases h2 : 5 < x
    · rw [brn_dt (by omega), if_pos h2]; exact ⟨T0, rfl, fun h => by cases h⟩
    · rw [brn_df (by omega), if_neg h2]
      by_cases h3 : x < (L.length : Int)
      · rw [brn_dt (by omega), if_pos h3]; exact ⟨T0, rfl, fun h => by cases h⟩
      · obtain ⟨n, rfl⟩ : ∃ n : Nat, x = (n : Int) := ⟨x.toNat, by omega⟩
        rw [brn_df (by omega), if_neg h3, begun_ok N n hN, bnd_t]
        obtain ⟨T, e1, e2⟩ := open2_L0 N n hN (by omega) w L (by omega) hr L.length 0 N T0 (by omega) (by omega) (by omega) (fun r' => by rw [List.take_zero]; exact T0_rp r')
        refine ⟨T, ?_, e2⟩
        show bnd' (m61_2_L0 N (n : Int) L.length w (rwsP L) N 0 (tP n T0)) _ = _
        rw [show m61_2_L0 N (n : Int) L.length w (rwsP L) N 0 (tP n T0) = _ from e1, bnd_t, toNatN]
        unfold outR2 opE2
        by_cases h4 : rowE (n : Int) w L L.length 0 = 0
        · simp only [if_pos h4]
        · simp only [if_neg h4]
theorem next2_ok (N : Nat) (hN : 5000 ≤ N) (x : Int) (L : List (List Int)) (hL : L.length ≤ 1000) (hr : ∀ r ∈ L, r.length ≤ 1000) : m19_2 N x L.length (rwsP L) = some (.tup [rwP (nxtE x L).1, .int .i64 (nxtE x L).2], rwsP L) := by
  obtain ⟨T, e, hT⟩ := opened2_ok N (by omega) x x L hL hr
  rw [m19_2, e, bnd_t]
  unfold opE2 nxtE
  by_cases h : chkE x x L = 0
  · simp only [if_pos h]
    rw [brn_nf rfl, if_neg (show ¬ chkE x x L ≠ 0 by simpa using h)]
    obtain ⟨h1, h2, h3, h4⟩ := chkE_zero h
    by_cases h5 : (L.length : Int) = x
    · rw [brn_et h5, if_pos h5]; rfl
    · rw [brn_ef h5, if_neg h5]
      obtain ⟨n, rfl⟩ : ∃ n : Nat, x = (n : Int) := ⟨x.toNat, by omega⟩
      rw [toNatN]
      have hT' := hT h
      obtain ⟨y, l, hy⟩ := fit_cons (n := n) (by omega) h (by omega)
      have rf := row_fit (n := n) (by omega) (by omega) hT' 100 (by omega)
      rw [hy] at rf ⊢
      have c := one_ok N n (L.length + 1) L.length (L.length + 1) (by omega) (by omega) (by omega) false (List.replicate 25 0) (by simp) 100 N L.length 0 T (hT' []).tv (by omega) (by rw [Nat.add_sub_cancel_left]; omega) (by omega) (by omega)
      have sg := search_one N n hN L.length (L.length + 1) (List.replicate 25 0) (by simp) T _ c
      cases hR : cmpl n (L.length + 1) 100 L.length 0 T with
      | nil => rw [hR] at rf; cases rf
      | cons T' R =>
        rw [hR] at rf sg
        simp only [List.map_cons, List.cons.injEq] at rf
        have hT2 : T'.1.length = 25 := by
          have hm : ∀ (f i k : Nat) (T1 T2 : T3), T2 ∈ cmpl n (L.length + 1) f i k T1 → T2.1.length = T1.1.length := by
            intro f
            induction f with
            | zero => intro i k T1 T2 h; cases h
            | succ f ih =>
              intro i k T1 T2 h
              rw [cmpl] at h
              split at h
              · obtain rfl := List.mem_singleton.1 h; rfl
              · split at h
                · exact ih _ _ _ _ h
                · split at h
                  · exact ih _ _ _ _ h
                  · obtain ⟨s, _, h⟩ := List.mem_flatMap.1 h
                    rw [ih _ _ _ _ h]; simp [putT]
          rw [hm 100 L.length 0 T T' (by rw [hR]; exact .head _)]
          exact (hT' []).tv.tb.la
        rw [wrapN (by omega)]
        show bnd' (m64 N (tP n T) (oneP L.length (L.length + 1) false (List.replicate 25 0))) _ = _
        rw [sg, bnd_t]
        show getT0 (.tup []) _ = _
        rw [getT0_t]
        show grd (28 ≤ List.length (oneP L.length (L.length + 1) true T'.1)) _ = _
        rw [grd_t (by simp [oneP, iL_len, hT2]), show List.take 25 (List.drop 3 (oneR n L.length (L.length + 1) false (List.replicate 25 0) T (T' :: R)).2.1) = iL T'.1 from oneP_A _ _ _ _ hT2, rows_ok' N n hN (by omega) (by omega) T'.1 hT2, bnd_t, getL_t, grd_t ⟨by omega, by omega⟩]
        have hl : (rowsE n T'.1).length = n := by simp [rowsE]
        have hro : ro (rowsE n T'.1) L.length = nL y := by
          rw [← rf.1]
          have : L.length < n := by omega
          simp [ro, rowsE, List.getD, this, rowOf]
        rw [grd_t (by rw [List.length_drop, rws_len, hl]; omega), rws_gp (by omega), getL_t, hro]
        rfl
  · simp only [if_neg h]
    rw [brn_nt h, if_pos h]; rfl
theorem wrapS {m : Nat} (h : m ≤ 100000) : IntKind.i64.wrap (m : Int) = m := by
  cases m with
  | zero => decide
  | succ b => exact wrapN (by omega)
theorem no_L2 (N n : Nat) (L : List (List Int)) (hL : L.length ≤ 1000) (hl : ∀ i, i < L.length → (ro L i).length = n) (d : Nat) (hd : d < n) (s : Int) (h : metB L d s = false) (x y : Int) (a b : Nat) (c e A : List PV) : ∀ (f i fuel : Nat), L.length - i = f → f < fuel → i ≤ L.length →
    m6_L2 N x L.length (rwsP L) a c (d : Int) b e y A s fuel (i : Int) = some (.inr ())
  | f, i, 0, _, _, _ => by omega
  | f, i, fuel + 1, hf, hfu, hi => by
    rw [m6_L2]
    by_cases g : i < L.length
    · have hq := hl i g
      have e1 : (en (ro L i) d == s) = false := by
        unfold metB at h
        rw [List.any_eq_false] at h
        have := h (ro L i) (ro_mem g)
        rw [decide_eq_true (show d < (ro L i).length by omega), Bool.true_and] at this
        simpa using this
      rw [brn_dt (by omega), grd_t ⟨by omega, by omega⟩, toNatN, grd_t (by rw [List.length_drop, rws_len]; omega), rws_gp g, getL_t, grd_t (by omega), toNatN, grd_t (by rw [List.length_drop, iL_len]; omega), iL_gp (by omega), getI_t, brn_f e1, wrapN (by omega)]
      exact no_L2 N n L hL hl d hd s h x y a b c e A (f - 1) (i + 1) fuel (by omega) (by omega) (by omega)
    · rw [brn_df (by omega)]
theorem no_L3 (N n : Nat) (L : List (List Int)) (hL : L.length ≤ 1000) (hl : ∀ i, i < L.length → (ro L i).length = n) (d : Nat) (hd : d < n) (s : Int) (h : metB L d s = false) (x y : Int) (a b : Nat) (c e A : List PV) : ∀ (f i fuel : Nat), L.length - i = f → f < fuel → i ≤ L.length →
    m6_L3 N x L.length (rwsP L) a c (d : Int) b e y A s fuel (i : Int) = some (.inr ())
  | f, i, 0, _, _, _ => by omega
  | f, i, fuel + 1, hf, hfu, hi => by
    rw [m6_L3]
    by_cases g : i < L.length
    · have hq := hl i g
      have e1 : (en (ro L i) d == s) = false := by
        unfold metB at h
        rw [List.any_eq_false] at h
        have := h (ro L i) (ro_mem g)
        rw [decide_eq_true (show d < (ro L i).length by omega), Bool.true_and] at this
        simpa using this
      rw [brn_dt (by omega), grd_t ⟨by omega, by omega⟩, toNatN, grd_t (by rw [List.length_drop, rws_len]; omega), rws_gp g, getL_t, grd_t (by omega), toNatN, grd_t (by rw [List.length_drop, iL_len]; omega), iL_gp (by omega), getI_t, brn_f e1, wrapN (by omega)]
      exact no_L3 N n L hL hl d hd s h x y a b c e A (f - 1) (i + 1) fuel (by omega) (by omega) (by omega)
    · rw [brn_df (by omega)]
theorem gn_set {A : List Nat} {s x t : Nat} (hs : s < A.length) : gn (A.set s x) t = if t = s then x else gn A t := by
  unfold gn
  rw [List.getD, List.getElem?_set, List.getD]
  by_cases h : s = t
  · subst h; simp [hs]
  · rw [if_neg h, if_neg (Ne.symm h)]
theorem times_L1 (N n : Nat) (hN : 5000 ≤ N) (L : List (List Int)) (hL : L.length ≤ 1000) (hl : ∀ i, i < L.length → (ro L i).length = n) (d : Nat) (hd : d < n) (l : List Nat) (hll : l.length ≤ 1000) (h1 : ∀ j, j < l.length → gn l j < n ∧ metB L d (gn l j : Nat) = false) (h2 : ∀ j, j + 1 < l.length → gn l j < gn l (j + 1)) (a : Nat) (c : List PV) :
    ∀ (f k fuel : Nat) (A : List Nat), l.length - k = f → f < fuel → k ≤ l.length → A.length = n → (∀ s, gn A s + (l.length - k) ≤ 2000) →
    ∃ A' : List Nat, m6_L1 N (n : Int) L.length (rwsP L) a c (d : Int) l.length (iL (nL l)) fuel (k : Int) (iL (nL A)) = some (.inr (iL (nL A'))) ∧ A'.length = n ∧ ∀ s, gn A' s = gn A s + (l.drop k).count s
  | f, k, 0, _, _, _, _, _, _ => by omega
  | f, k, fuel + 1, A, hf, hfu, hk, hA, hb => by
    rw [m6_L1]
    by_cases g : k < l.length
    · obtain ⟨e1, e2⟩ := h1 k g
      have hlk : k < (nL l).length := by rw [nL_len]; exact g
      have hg : gn l k < (nL A).length := by rw [nL_len]; omega
      have hbk := hb (gn l k)
      obtain ⟨A', g1, g2, g3⟩ := times_L1 N n hN L hL hl d hd l hll h1 h2 a c (f - 1) (k + 1) fuel (A.set (gn l k) (gn A (gn l k) + 1)) (by omega) (by omega) (by omega) (by simpa using hA) (fun s => by
        rw [gn_set (by omega)]
        have := hb s
        split
        · rename_i e; subst e; omega
        · omega)
      refine ⟨A', ?_, g2, fun s => ?_⟩
      · have eset : List.set (iL (nL A)) (gn l k) (.int .i64 ((gn A (gn l k) + 1 : Nat) : Int)) = iL (nL (A.set (gn l k) (gn A (gn l k) + 1))) := by
          rw [iL_set]; congr 1; simp [nL, List.map_set]
        rw [brn_dt (by omega), grd_t ⟨by omega, by omega⟩, toNatN, grd_t (by rw [List.length_drop, iL_len]; omega), iL_gp hlk, getI_t, nL_en g, brn_df (by omega), brn_df (by omega)]
        by_cases h0 : k = 0
        · subst h0
          rw [brn_df (by omega), show m6_L3 N (n : Int) L.length (rwsP L) a c (d : Int) l.length (iL (nL l)) ((0 : Nat) : Int) (iL (nL A)) (gn l 0 : Int) N 0 = _ from no_L3 N n L hL hl d hd _ e2 _ _ a _ c _ _ L.length 0 N (by omega) (by omega) (by omega), bnd_t]
          dsimp only
          rw [toNatN, toNatN, grd_t ⟨by omega, by omega⟩, grd_t (by rw [iL_len]; exact hg), iL_gp hg, getI_t, nL_en (by omega), grd_t (by rw [iL_len]; omega), wrapN (by omega), wrapN (by omega), eset]
          exact g1
        · obtain ⟨j, rfl⟩ : ∃ j, k = j + 1 := ⟨k - 1, by omega⟩
          have hj := h2 j (by omega)
          have ew : IntKind.i64.wrap (((j + 1 : Nat) : Int) - 1) = (j : Int) := by
            rw [show ((j + 1 : Nat) : Int) - 1 = (j : Int) by omega]; exact wrapS (by omega)
          rw [brn_dt (by omega), ew, grd_t ⟨by omega, by omega⟩, toNatN, grd_t (by rw [List.length_drop, iL_len]; omega), iL_gp (by omega), getI_t, nL_en (by omega), brn_df (by omega), show m6_L2 N (n : Int) L.length (rwsP L) a c (d : Int) l.length (iL (nL l)) ((j + 1 : Nat) : Int) (iL (nL A)) (gn l (j + 1) : Int) N 0 = _ from no_L2 N n L hL hl d hd _ e2 _ _ a _ c _ _ L.length 0 N (by omega) (by omega) (by omega), bnd_t]
          dsimp only
          rw [toNatN, toNatN, grd_t ⟨by omega, by omega⟩, grd_t (by rw [iL_len]; exact hg), iL_gp hg, getI_t, nL_en (by omega), grd_t (by rw [iL_len]; omega), wrapN (by omega), wrapN (by omega), eset]
          exact g1
      · rw [g3 s, gn_set (by omega), show l.drop k = gn l k :: l.drop (k + 1) by rw [List.drop_eq_getElem_cons g]; simp [gn, List.getD, g], List.count_cons]
        by_cases e : s = gn l k
        · subst e; simp; omega
        · rw [if_neg e, if_neg (by simpa using Ne.symm e)]; rfl
    · rw [brn_df (by omega), List.drop_eq_nil_of_le (by omega)]
      exact ⟨A, rfl, hA, fun s => by simp⟩
theorem flt_pw (p : Nat → Bool) (n : Nat) : ((List.range n).filter p).Pairwise (· < ·) := List.Pairwise.filter _ List.pairwise_lt_range
theorem pw_gn {l : List Nat} (h : l.Pairwise (· < ·)) : ∀ j, j + 1 < l.length → gn l j < gn l (j + 1) := fun j hj => by
  have := List.pairwise_iff_getElem.1 h j (j + 1) (by omega) hj (by omega)
  simpa [gn, List.getD, hj, show j < l.length by omega] using this
theorem flt_cnt (p : Nat → Bool) {n s : Nat} (hs : s < n) : ((List.range n).filter p).count s = if p s then 1 else 0 := by
  by_cases h : p s = true
  · rw [if_pos h, List.count_filter h]
    rw [List.nodup_range.count, if_pos (List.mem_range.2 hs)]
  · rw [if_neg h, List.count_eq_zero]
    exact fun g => h (List.mem_filter.1 g).2
theorem times_L0 (N n : Nat) (hN : 5000 ≤ N) (hn : n ≤ 5) (L : List (List Int)) (hL : L.length ≤ 1000) (hl : ∀ i, i < L.length → (ro L i).length = n) : ∀ (f d fuel : Nat) (A : List Nat), n - d = f → f < fuel → d ≤ n → A.length = n → (∀ s, gn A s ≤ 100 * d) →
    ∃ A' : List Nat, m6_L0 N (n : Int) L.length (rwsP L) n (rwsP ((List.range n).map fun d => nL (freD n L d))) fuel (d : Int) (iL (nL A)) = some (.inr (iL (nL A'))) ∧ A'.length = n ∧ ∀ s, s < n → gn A' s = gn A s + ((List.range' d (n - d)).filter fun d => !metB L d (s : Nat)).length
  | f, d, 0, _, _, _, _, _, _ => by omega
  | f, d, fuel + 1, A, hf, hfu, hd, hA, hb => by
    rw [m6_L0]
    by_cases g : d < n
    · have hll : (freD n L d).length ≤ n := by
        have := List.length_filter_le (fun s => !metB L d (s : Nat)) (List.range n)
        rw [List.length_range] at this; exact this
      have hro : ro ((List.range n).map fun d => nL (freD n L d)) d = nL (freD n L d) := by simp [ro, List.getD, g]
      have hz : ∀ j, j < (freD n L d).length → gn (freD n L d) j < n ∧ metB L d (gn (freD n L d) j : Nat) = false := fun j hj => by
        have := List.mem_filter.1 (gn_mem hj)
        exact ⟨List.mem_range.1 this.1, by have h2 := this.2; unfold freD; simpa using h2⟩
      obtain ⟨A1, e1, e2, e3⟩ := times_L1 N n hN L hL hl d g (freD n L d) (by omega) hz (pw_gn (flt_pw _ n)) n (rwsP ((List.range n).map fun d => nL (freD n L d))) (freD n L d).length 0 N A (by omega) (by omega) (by omega) hA (fun s => by
        have := hb s; omega)
      have hc : ∀ s, (freD n L d).count s ≤ n := fun s => Nat.le_trans List.count_le_length hll
      obtain ⟨A', g1, g2, g3⟩ := times_L0 N n hN hn L hL hl (f - 1) (d + 1) fuel A1 (by omega) (by omega) (by omega) e2 (fun s => by
        rw [e3 s, List.drop_zero]
        have := hb s; have := hc s; omega)
      refine ⟨A', ?_, g2, fun s hs => ?_⟩
      · rw [brn_dt (by omega), grd_t ⟨by omega, by omega⟩, toNatN, grd_t (by rw [List.length_drop, rws_len]; simp; omega), rws_gp (by simpa using g), getL_t, hro, nL_len, show m6_L1 N (n : Int) L.length (rwsP L) n (rwsP ((List.range n).map fun d => nL (freD n L d))) (d : Int) (freD n L d).length (iL (nL (freD n L d))) N 0 (iL (nL A)) = _ from e1, bnd_t]
        dsimp only
        rw [wrapN (by omega)]
        exact g1
      · rw [g3 s hs, e3 s, List.drop_zero, range'_step g, List.filter_cons]
        unfold freD
        rw [flt_cnt _ hs]
        cases metB L d (s : Nat) <;> simp <;> omega
    · rw [brn_df (by omega), show n - d = 0 by omega]
      exact ⟨A, rfl, hA, fun s _ => by simp⟩
theorem flt_not {α : Type} (p : α → Bool) : ∀ l : List α, (l.filter p).length + (l.filter fun x => !p x).length = l.length
  | [] => rfl
  | a :: l => by
    have := flt_not p l
    rw [List.filter_cons, List.filter_cons]
    cases h : p a <;> simp <;> omega
theorem cc_rng (D : List Nat) (s : Nat) : cc D s = ((List.range D.length).filter fun d => (gn D d).testBit s).length := by
  have e : D = (List.range D.length).map (gn D) := by
    refine List.ext_getElem (by simp) fun i h1 h2 => ?_
    simp [gn, List.getD, h1]
  unfold cc
  conv => lhs; rw [e]
  rw [List.filter_map, List.length_map]; rfl
theorem free_days {n : Nat} (hn : n ≤ 5) {X : List (List Nat)} {D : List Nat} (h : Vp n X D) {s : Nat} (hs : s < n) : ((List.range' 0 (n - 0)).filter fun d => !metB (X.map nL) d (s : Nat)).length = n - X.length := by
  have hv := h.vd hn
  have h1 := hv.cc s hs
  rw [cc_rng, hv.len] at h1
  have h2 := flt_not (fun d => metB (X.map nL) d (s : Nat)) (List.range n)
  rw [List.length_range] at h2
  rw [filter_congr' (q := fun d => metB (X.map nL) d (s : Nat)) fun d hd => hv.met d s (List.mem_range.1 hd) (by omega)] at h1
  rw [Nat.sub_zero, ← List.range_eq_range']; omega
theorem times_L4 (N n : Nat) (a : Nat) (c : List PV) (x : Nat) (hx : x ≤ 5) (ha : (n : Int) - (a : Int) = (x : Int)) (A : List Nat) (hA : A.length = n) (hn : n ≤ 5) (h : ∀ s, s < n → gn A s = x) : ∀ (f k fuel : Nat), n - k = f → f < fuel → k ≤ n →
    m6_L4 N (n : Int) a c (iL (nL A)) fuel (k : Int) = some (.inr ())
  | f, k, 0, _, _, _ => by omega
  | f, k, fuel + 1, hf, hfu, hk => by
    rw [m6_L4, toNatN]
    by_cases g : k < n
    · have e := h k g
      have hl : k < (nL A).length := by rw [nL_len]; omega
      rw [brn_dt (by omega), grd_t ⟨by omega, by omega⟩, toNatN, grd_t (by rw [iL_len]; exact hl), iL_gp hl, getI_t, nL_en (by omega), e, ha, wrapS (by omega), brn_nf rfl, wrapN (by omega)]
      exact times_L4 N n a c x hx ha A hA hn h (f - 1) (k + 1) fuel (by omega) (by omega) (by omega)
    · rw [brn_df (by omega)]
theorem now_L5 (N n : Nat) (hN : 5000 ≤ N) (hn1 : 1 ≤ n) (hn : n ≤ 5) (a : Nat) (c : List PV) : ∀ (m fuel : Nat) (X : List (List Nat)) (D : List Nat), m < fuel → Vp n X D → X.length + m = n →
    m6_L5 N (n : Int) a c fuel X.length (rwsP (X.map nL)) = some (.inr (n, rwsP ((gre n m X).map nL)))
  | m, 0, _, _, h, _, _ => by omega
  | 0, fuel + 1, X, D, _, h, hm => by
    rw [m6_L5, brn_df (by omega), gre, show X.length = n by omega]
  | m + 1, fuel + 1, X, D, hf, h, hm => by
    obtain ⟨y, l, e, h2, hy⟩ := vp_head hn1 hn h (by omega)
    have hl := vp_len h
    have hlen : (X.map nL).length = X.length := List.length_map ..
    have hc := vp_chk hn1 hn h (by omega)
    have en := next2_ok N hN (n : Int) (X.map nL) (by omega) (fun r hr => by rw [hl r hr]; omega)
    have hnx : nxtE n (X.map nL) = (nL y, 0) := by
      unfold nxtE; rw [if_neg (by rw [hc]; simp), hlen, if_neg (by omega), toNatN, e]; rfl
    rw [hlen, hnx] at en
    have ih := now_L5 N n hN hn1 hn a c m fuel (X ++ [y]) _ (by omega) h2 (by simp; omega)
    rw [List.length_append, List.length_singleton, List.map_append, List.map_singleton, ← rws_app] at ih
    rw [m6_L5, brn_dt (by omega), en, bnd_t]
    dsimp only
    unfold rwP at ih ⊢
    rw [getT2_t, getL_t, getI_t, brn_nf rfl, brn_nf (by rw [nL_len]; omega), grd_t (by omega), grd_t (by rw [rws_len, hlen]), ih, gre, e]; rfl
theorem full_ok (N n : Nat) (hN : 5000 ≤ N) (hn1 : 1 ≤ n) (hn : n ≤ 5) (X : List (List Nat)) (D : List Nat) (h : Vp n X D) (hX : X.length ≤ n) :
    m29 N (n : Int) (.lst false X.length (rwsP (X.map nL))) = some (.tup [.lst false n (rwsP ((gre n (n - X.length) X).map nL)), .int .i64 0]) := by
  have hl := vp_len h
  have hlen : (X.map nL).length = X.length := List.length_map ..
  have hc := vp_chk hn1 hn h hX
  obtain ⟨T, e, hT⟩ := opened_ok N (by omega) (n : Int) (n : Int) (X.map nL) (by omega) (fun r hr => by rw [hl r hr]; omega)
  rw [hc] at e hT
  have hT' := hT rfl
  rw [hlen] at e hT'
  obtain ⟨D', hg⟩ := gre_vp hn1 hn (n - X.length) h (by omega)
  have hgl := gre_len n (n - X.length) X
  obtain ⟨T1, R, c1, c2⟩ := full_hd hn1 hn (n - X.length) X D T h (by omega) hT' 100 (by
    have : (n - X.length) * (n + 1) ≤ 5 * 6 := Nat.mul_le_mul (by omega) (by omega)
    omega)
  have hsk := cmpl_skip n X.length hX T (fun i k hi hk => by
    rw [(hT' []).a i k (by omega) (by omega), if_pos hi]
    obtain ⟨r1, r2⟩ := vp_rows hn h i hi
    rw [if_pos (by omega)]
    exact (dayE_zero r2 k (by omega) (by omega)).1) 100 0 0 100 (by
      have : (n - 0) * (n + 1) ≤ 5 * 6 := Nat.mul_le_mul (by omega) (by omega)
      omega) (by
      have : (n - X.length) * (n + 1) ≤ 5 * 6 := Nat.mul_le_mul (by omega) (by omega)
      omega) (by omega) (by omega) (fun _ => rfl)
  have c := one_ok N n n 0 n (by omega) (by omega) (by omega) false (List.replicate 25 0) (by simp) 100 N 0 0 T (hT' []).tv (by omega) (by
      have : (n - 0) * (n + 1) ≤ 5 * 6 := Nat.mul_le_mul (by omega) (by omega)
      omega) (by omega) (by omega)
  rw [hsk, c1] at c
  have sg := search_one N n hN 0 n (List.replicate 25 0) (by simp) T _ c
  have hT2 : T1.1.length = 25 := (c2 []).tv.tb.la
  have hro := full_rows hn (L := (gre n (n - X.length) X).map nL) (by rw [List.length_map, hgl]; omega) (vp_len hg) c2
  rw [m29, getL_t, e, bnd_t]
  unfold opE
  rw [if_pos rfl]
  dsimp only
  rw [brn_nf rfl, toNatN]
  show bnd' (m64 N (tP n T) (oneP 0 n false (List.replicate 25 0))) _ = _
  rw [sg, bnd_t]
  show getT0 (.tup []) _ = _
  rw [getT0_t]
  show grd (28 ≤ List.length (oneP 0 n true T1.1)) _ = _
  rw [grd_t (by simp [oneP, iL_len, hT2]), show List.take 25 (List.drop 3 (oneR n 0 n false (List.replicate 25 0) T (T1 :: R)).2.1) = iL T1.1 from oneP_A _ _ _ _ hT2, rows_ok' N n hN hn1 hn T1.1 hT2, bnd_t, getL_t, hro]
theorem law6 (a b c0 c1 c2 c3 c4 : Nat) (ha : a < 256) (hb : b < 256) (h0 : c0 < 256) (h1 : c1 < 256) (h2 : c2 < 256) (h3 : c3 < 256) (h4 : c4 < 256) : m6 5000 (.agg [.int .u8 (a : Int), .int .u8 (b : Int), .int .u8 (c0 : Int), .int .u8 (c1 : Int), .int .u8 (c2 : Int), .int .u8 (c3 : Int), .int .u8 (c4 : Int)]) = some (.bool true) := by
  obtain ⟨n, X, D, hn1, hn, hV, hX, e37⟩ := made_ok 5000 (by omega) a b c0 c1 c2 c3 c4 ha hb h0 h1 h2 h3 h4
  have hlen : (X.map nL).length = X.length := List.length_map ..
  have hl := vp_len hV
  have hl1 : (X.map nL).length ≤ 1000 := by omega
  have hl2 : ∀ r ∈ X.map nL, r.length ≤ 1000 := fun r hr => by rw [hl r hr]; omega
  have hc := vp_chk hn1 hn hV hX
  have e17 := (free_ok 5000 (by omega) (n : Int) (X.map nL) hl1 hl2).1
  have hf : freE n (X.map nL) = ((List.range n).map fun d => nL (freD n (X.map nL) d), 0) := by
    unfold freE; rw [if_neg (by rw [hc]; simp), toNatN]
  have hfl : ((List.range n).map fun d => nL (freD n (X.map nL) d)).length = n := by simp
  obtain ⟨A, t1, t2, t3⟩ := times_L0 5000 n (by omega) hn (X.map nL) hl1 (fun i hi => hl _ (ro_mem hi)) n 0 5000 (List.replicate n 0) (by omega) (by omega) (by omega) (by simp) (fun s => by
    unfold gn; rw [List.getD, List.getElem?_replicate]; split <;> simp)
  have t4 := times_L4 5000 n X.length (rwsP (X.map nL)) (n - X.length) (by omega) (by omega) A t2 hn (fun s hs => by
    rw [t3 s hs, free_days hn hV hs]
    have : gn (List.replicate n 0) s = 0 := by unfold gn; rw [List.getD, List.getElem?_replicate]; split <;> rfl
    omega) n 0 5000 (by omega) (by omega) (by omega)
  have e39 : m39 5000 (.lst false X.length (rwsP (X.map nL))) = some (X.length, rwsP (X.map nL)) := by
    rw [m39, getL_t, grd_t (by rw [rws_len, hlen]), grd_t (by omega)]
  have e5 := now_L5 5000 n (by omega) hn1 hn X.length (rwsP (X.map nL)) (n - X.length) 5000 X D (by omega) hV (by omega)
  have e29 := full_ok 5000 n (by omega) hn1 hn X D hV hX
  obtain ⟨D', hg⟩ := gre_vp hn1 hn (n - X.length) hV (by omega)
  have hgl : ((gre n (n - X.length) X).map nL).length = n := by rw [List.length_map, gre_len]; omega
  have e40 := planned_ok 5000 (by omega) n hn ((gre n (n - X.length) X).map nL) (by omega) (fun j hj => vp_rows hn hg j (by simpa using hj))
  have e21 := lsame_ok 5000 (by omega) ((gre n (n - X.length) X).map nL) (by omega) (fun r hr => by rw [vp_len hg r hr]; omega)
  have m16t : m16 5000 = some (.bool true) := rfl
  rw [hf, hlen] at e17
  dsimp only at e17
  rw [hfl] at e17
  rw [hlen] at t1
  rw [hgl] at e40 e21
  have hrep : List.replicate n (PV.int .i64 0) = iL (nL (List.replicate n 0)) := by simp [iL, nL]
  rw [m6, getA7_t, e37, bnd_t, getT2_t, getI_t, getL_t, e17, bnd_t, getT2_t, getL_t, getI_t, brn_nf rfl, brn_nf rfl, grd_t ⟨by omega, by omega, by omega⟩, toNatN, hrep, show m6_L0 5000 (n : Int) X.length (rwsP (X.map nL)) n (rwsP ((List.range n).map fun d => nL (freD n (X.map nL) d))) 5000 0 (iL (nL (List.replicate n 0))) = _ from t1, bnd_t]
  dsimp only
  rw [show m6_L4 5000 (n : Int) X.length (rwsP (X.map nL)) (iL (nL A)) 5000 0 = _ from t4, bnd_t]
  dsimp only
  rw [e39, bnd_t]
  dsimp only
  rw [e5, bnd_t]
  dsimp only
  rw [e29, bnd_t, getT2_t, getL_t, getI_t, grd_t (by rw [rws_len]; exact hgl), brn_et rfl, e40, bnd_t, getB_t, brn_t rfl, e21, bnd_t, getB_t, brn_t rfl, m16t, bnd_t, getB_t]
end Go.Proofs.YtcaecfofgdogbaaDoor
namespace Go.Proofs.YtcaecfofgdogbaaDoor
open Go.V
theorem oct_of {x : List PV} (h : PT tab 5 x) : ∃ n : Nat, n < 256 ∧ x = [.int .u8 (n : Int)] := by
  obtain ⟨a, e, h1, h2⟩ := h.int' tl5 rfl
  have h1' : (0 : Int) ≤ a := h1
  have h2' : a ≤ 255 := h2
  exact ⟨a.toNat, by omega, by rw [e]; congr 2; omega⟩
theorem rota_of {qs : List PV} (h : PT tab 40 qs) : ∃ a b c0 c1 c2 c3 c4 : Nat, (a < 256 ∧ b < 256 ∧ c0 < 256 ∧ c1 < 256 ∧ c2 < 256 ∧ c3 < 256 ∧ c4 < 256) ∧ qs = [.int .u8 (a : Int), .int .u8 (b : Int), .int .u8 (c0 : Int), .int .u8 (c1 : Int), .int .u8 (c2 : Int), .int .u8 (c3 : Int), .int .u8 (c4 : Int)] := by
  obtain ⟨x, rs, rfl, hx, h⟩ := (h.structs tl40 rfl).cons'
  obtain ⟨y, rs, rfl, hy, h⟩ := h.cons'
  obtain ⟨z, rs, rfl, hz, h⟩ := h.cons'
  obtain rfl := h.nil'
  obtain ⟨a, ha, rfl⟩ := oct_of hx
  obtain ⟨b, hb, rfl⟩ := oct_of hy
  obtain ⟨xs, rfl, hl, hxs⟩ := hz.arr' tl38 rfl
  match xs, hl with
  | [p, q, r, s, t], _ =>
    obtain ⟨c0, h0, rfl⟩ := oct_of (hxs p (by simp))
    obtain ⟨c1, h1, rfl⟩ := oct_of (hxs q (by simp))
    obtain ⟨c2, h2, rfl⟩ := oct_of (hxs r (by simp))
    obtain ⟨c3, h3, rfl⟩ := oct_of (hxs s (by simp))
    obtain ⟨c4, h4, rfl⟩ := oct_of (hxs t (by simp))
    exact ⟨a, b, c0, c1, c2, c3, c4, ⟨ha, hb, h0, h1, h2, h3, h4⟩, rfl⟩
theorem con6 (x0 : List PV) (hx : PT tab 40 x0) : FnP Tryd.prog 6 [.agg x0] (.bool true) := by
  obtain ⟨a, b, c0, c1, c2, c3, c4, ⟨ha, hb, h0, h1, h2, h3, h4⟩, rfl⟩ := rota_of hx
  exact FnP_le (c6 5000 _ _ (law6 a b c0 c1 c2 c3 c4 ha hb h0 h1 h2 h3 h4)) (.cons _ _ _ _ (.refl _) .nil) (.refl _)
end Go.Proofs.YtcaecfofgdogbaaDoor
namespace Go.Proofs.YtcaecfofgdogbaaDoor.weekFilled
open Go.ChangeShapes Go.WideShapes Go.ChangeAt Go.RowKit Go.V
theorem own : ownKnob Tryd.prog.godebug = none := by kernel_rfl
theorem laid : laidOutB Tryd.prog = true := by kernel_rfl
set_option maxRecDepth 100000 in
theorem lifted (os : Os) (started : os.Started) (H : Type) (enc : TypeId × Value → H) :
    ReturnsInHanded {} Tryd.checked os 6 .any (fun w args => (Rows.weekFilledSpec.pre enc Tryd.prog Tryd.f6 [] false w args ∧ laidMetH Tryd.prog [("math/bits.deBruijn32tab", Rows.laid_math_bits_deBruijn32tab), ("math/bits.deBruijn64tab", Rows.laid_math_bits_deBruijn64tab)] w) ∧ sizedMet enc Tryd.prog Tryd.f6 (OpenSpec.ofChange Rows.weekFilledSpec) false w args)
      (Rows.weekFilledSpec.post enc Tryd.prog Tryd.f6 false true false false) := by
  refine returnsInHanded_of_change_and (C := Tryd.checked) (X := fun w _ => laidMetH Tryd.prog [("math/bits.deBruijn32tab", Rows.laid_math_bits_deBruijn32tab), ("math/bits.deBruijn64tab", Rows.laid_math_bits_deBruijn64tab)] w) (fun _ _ _ hh h => h.of_heap hh) own started (by kernel_rfl) Tryd.func6
    (ChangeSpec.witness_shaped (enc := enc) (C := Tryd.checked) (os := os) (X := fun w _ => laidMetH Tryd.prog [("math/bits.deBruijn32tab", Rows.laid_math_bits_deBruijn32tab), ("math/bits.deBruijn64tab", Rows.laid_math_bits_deBruijn64tab)] w) false (World.laidAll Tryd.prog os [("math/bits.deBruijn32tab", Rows.laid_math_bits_deBruijn32tab), ("math/bits.deBruijn64tab", Rows.laid_math_bits_deBruijn64tab)]) #[.agg #[.int .u8 0, .int .u8 0, .int .u8 0, .int .u8 0, .int .u8 0, .int .u8 0, .int .u8 0]] 8 (World.laidAll_os _ _ _)
      (World.shaped_of_ZipB (by kernel_rfl) (by kernel_rfl)) (by kernel_rfl) (by kernel_rfl) (by kernel_rfl)
      (by rw [MakeChecks.laidMetH_plain _ _ _ (by kernel_rfl)]; exact laidMet_laidAll _ (by kernel_rfl) (by kernel_rfl))) ?_
  intro W base args ds gs before hval0 hW _ _ hL _
  have hW' := hW
  obtain ⟨p, q, hA0, hV, rfl, hfz, hnd⟩ := hW
  have hA : DataW.TrodAll enc Tryd.prog W 0 (fun _ => true) true Tryd.f6.params.toList args.toList ds p := hA0
  rw [Tryd.params6] at hA
  obtain ⟨v0, vs0, d0, ds0, p0, q0, e0, rfl, rfl, h0, hr0⟩ := trodAll_cons hA
  obtain ⟨rfl, rfl, rfl⟩ := trodAll_nil hr0
  obtain rfl : args = #[v0] := by cases args; simp_all
  obtain ⟨x0, k0, t0⟩ := arg_agg (n := 8) tab_ok (hval0 0 40 v0 rfl rfl) h0 (by kernel_rfl) (by kernel_rfl)
  obtain ⟨rfl, rfl⟩ := trodVars_none hV
  clear hA0 hval0
  simp only [List.append_nil] at hW'
  refine (FnP.calls (W := W) (vals := #[v0]) (con6 x0 t0) (.cons _ _ _ _ k0 .nil) (laidG hL)).mono fun e W' ⟨he, hg⟩ => ?_
  subst he
  exact ⟨_, rfl, post_of_kept (pv := []) hW' (fun _ _ _ => trodAll_cons_mk (shut_bool Tryd.underlying4 _) trodAll_mk0) (fun sp hsp => trodAll_cons_mk (Kept.trod hg laid (by kernel_rfl) (of_decide_eq_true (by kernel_rfl)) h0 (fun y hy => hsp y (by simp [hy]))) (trodAll_mk0)) (fun _ _ => rfl) (by simp)
    hg (ok_one (by kernel_rfl) rfl (okWide_bool_mk Tryd.underlying4 _))⟩
theorem over : Rows.weekFilledRow.holds Tryd.pinned (OpenSpec.ofChange Rows.weekFilledSpec) :=
  OpenClaim.holds_of_wide 6 Tryd.f6 rfl rfl rfl rfl rfl rfl rfl ⟨rfl, rfl, rfl, rfl, rfl⟩ rfl rfl rfl rfl rfl (by kernel_rfl) Tryd.func6 (by kernel_rfl)
    (of_decide_eq_true (by kernel_rfl)) (by unfold Func.isWrapper; first | (rw [if_pos (by decide +kernel)]; kernel_rfl) | (rw [if_neg (by decide +kernel)]; exact ⟨rfl, rfl⟩))
    (fun os started H enc _ => lifted os started H enc)
theorem card : Rows.WeekFilledCardSaid :=
  Claim7.holds_tied_plain_at .later [] [.data, .data] true (true, "b10945a5c0c6bbe518806a5b2982a3effa3ad2c65afd0553d66b8bf8a483c2f3") true (over) (fun _ h => by cases h) (by kernel_rfl) (fun _ h => by cases h) weekFilled_row_tie rfl ⟨rfl, rfl⟩ (by kernel_rfl) rfl
    (fun f fn hf hfn => by
      obtain rfl : f = 6 := Option.some.inj ((show Tryd.prog.funcNamed "breeze/breezelaw03.WeekFilled" = some 6 by kernel_rfl).symm.trans hf) |>.symm
      obtain rfl : fn = Tryd.f6 := (Option.some.inj (Tryd.func6.symm.trans hfn)).symm
      exact ⟨by kernel_rfl, fun j t ht => by
        rw [Tryd.params6] at ht
        rcases j with _ | j
        · obtain rfl : t = 40 := by simpa using ht.symm
          exact (show Tryd.prog.wantsStandIn 40 = false by kernel_rfl)
        · simp at ht⟩)
    (by kernel_rfl)
end Go.Proofs.YtcaecfofgdogbaaDoor.weekFilled
namespace Go.Proofs.YtcaecfofgdogbaaDoor
/-- the statement -/
theorem weekFilled_holds : Rows.WeekFilledCardSaid := weekFilled.card
#print axioms weekFilled_holds
end Go.Proofs.YtcaecfofgdogbaaDoor
