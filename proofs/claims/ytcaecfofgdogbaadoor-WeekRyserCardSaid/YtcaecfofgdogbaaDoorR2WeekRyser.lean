/-
  WeekRyser: the law returns true.
-/
import Derived.Test.YtcaecfofgdogbaaDoorR2WyR
import Derived.Test.YtcaecfofgdogbaaDoorR2Wrya
import Derived.Test.YtcaecfofgdogbaaDoorR2WrB
import Derived.Test.YtcaecfofgdogbaaDoorR2V32
import Derived.Test.YtcaecfofgdogbaaDoorRows
import Derived.Test.YtcaecfofgdogbaaDoorCards
import Derived.Test.YtcaecfofgdogbaaDoorTie
import Derived.Test.YtcaecfofgdogbaaDoorR2V31
import Derived.WalkKit
import Derived.ProofKit
import Derived.OpenShut
import Derived.Lay
import Derived.SevenTiedAt
import Derived.MakeChecks
set_option linter.unusedSimpArgs false
set_option linter.unusedVariables false
namespace Go.Proofs.YtcaecfofgdogbaaDoor
open Go.V
set_option linter.unusedSectionVars false
theorem casN_t {α : Type} {n : Nat} {a b : Option α} : casN n n a b = a := by simp [casN]
theorem casN_f {α : Type} {n v : Nat} {a b : Option α} (h : n ≠ v) : casN n v a b = b := by simp [casN, h]
theorem casI_t {α : Type} {n v : Int} {a b : Option α} (h : n = v) : casI n v a b = a := by simp [casI, h]
theorem casI_f {α : Type} {n v : Int} {a b : Option α} (h : n ≠ v) : casI n v a b = b := by simp [casI, h]
theorem u8q : ∀ a : Nat, a < 256 → IntKind.i64.wrap (IntKind.u8.wrap (Int.tdiv (a : Int) 8)) = ((a / 8 : Nat) : Int) := by decide +kernel
theorem nL_set (l : List Nat) (k v : Nat) : (iL (nL l)).set k (.int .i64 (v : Int)) = iL (nL (l.set k v)) := by rw [iL_set]; simp [nL, List.map_set]
theorem getI_t8 {α : Type} {x : Int} {f : Int → Option α} : getI .u8 (.int .u8 x) f = f x := by simp [getI]
theorem e56 (N : Nat) {w : Nat} (hw : w ≤ 5) {a : List Nat} (ha : w ≤ a.length) : m56_2 N (.lst false w (iL (nL (a.take w)))) = some (w, iL (nL (a.take w))) := by
 rw [m56_2, getL_t, grd_t (by rw [iL_len, nL_len, List.length_take]; omega), grd_t (by omega)]
def Crn (N n w wd s0 s1 : Nat) (X : List (List Nat)) : Prop := ∃ C : List (List Nat), C.length = X.length ∧ (∀ l ∈ C, l.length = w ∧ ∀ s ∈ l, s < n) ∧ m14_L0 N (wd : Int) (.int .u8 (s0 : Int)) (.int .u8 (s1 : Int)) (n : Int) X.length (rwsP (X.map nL)) = some (.lst false C.length (rwsP (C.map nL)))
theorem tk_ok {n w : Nat} {a : List Nat} (hw : w ≤ n) (ha : a.length = n) (ga : ∀ s ∈ a, s < n) : (a.take w).length = w ∧ ∀ s ∈ a.take w, s < n := ⟨by rw [List.length_take]; omega, fun s hs => ga s (List.mem_of_mem_take hs)⟩
theorem st_ok {n w : Nat} {a : List Nat} (h : a.length = w ∧ ∀ s ∈ a, s < n) {k v : Nat} (hv : v < n) : (a.set k v).length = w ∧ ∀ s ∈ a.set k v, s < n := ⟨by rw [List.length_set]; exact h.1, fun s hs => by
 rcases List.mem_or_eq_of_mem_set hs with q | q
 ·exact h.2 s q
 ·omega⟩
theorem crn_0 (N n w wd s0 s1 : Nat) : Crn N n w wd s0 s1 [] := ⟨[], rfl, (fun _ h => nomatch h), rfl⟩
theorem crn_1 (N n w wd s0 s1 : Nat) (hn1 : 1 ≤ n) (hn : n ≤ 4) (hwd : wd < 256) (hw : wd % (n + 1) = w) (h0 : s0 < 256) (h1 : s1 < 256) (a : List Nat) (ha : a.length = n) (ga : ∀ s ∈ a, s < n) : Crn N n w wd s0 s1 [a] := by
 have hwn : w ≤ n := by have := Nat.mod_lt wd (show 0 < n + 1 by omega); omega
 have ew : Int.tmod (IntKind.i64.wrap (wd : Int)) (IntKind.i64.wrap ((n : Int) + 1)) = (w : Int) := by rw [wr9 n (by omega) wd hwd, hw]
 have hv : s1 % n < n := Nat.mod_lt _ (by omega)
 have ta := tk_ok hwn ha ga
 have ea := e56 N (w := w) (a := a) (by omega) (by omega)
 have ka : (iL (nL a)).take w = iL (nL (a.take w)) := by rw [iL_take]; simp [nL]
 have lg : ∀ x : List Nat, x.length = w → (iL (nL x)).length = w := fun x hx => by rw [iL_len, nL_len]; exact hx
 rcases Nat.eq_zero_or_pos w with hw0 | hw0
 ·refine ⟨[a.take w], rfl, ?_, ?_⟩
  ·intro l hl
   simp only [List.mem_cons, List.not_mem_nil, or_false] at hl
   rcases hl with rfl
   all_goals assumption
  ·show m14_L0 N (wd : Int) (.int .u8 (s0 : Int)) (.int .u8 (s1 : Int)) (n : Int) 1 (rwsP ([a].map nL)) = _
   rw [m14_L0]
   simp only [ew, toNatN]
   rw [casN_f (by decide), casN_t, grd_t (by simp [rwsP]), show gp (rwsP ([a].map nL)) 0 = .lst false (nL a).length (iL (nL a)) from rfl, getL_t, nL_len, ha, grd_t ⟨by omega, by omega⟩, grd_t (by rw [iL_len, nL_len, ha]), ka, ea, bnd_t]
   dsimp only
   rw [brn_df (by omega), grd_t (lg _ ta.1)]
   simp only [List.map_cons, List.map_nil, rwsP, rwP, nL_len, List.length_cons, List.length_nil, ta.1]
 ·have em : Int.tmod (IntKind.i64.wrap (s0 : Int)) 1 = ((s0 % 1 : Nat) : Int) := wr0 h0
  have ei : Int.tmod (IntKind.i64.wrap (IntKind.u8.wrap (Int.tdiv (s0 : Int) 8))) (w : Int) = ((s0 / 8 % w : Nat) : Int) := by rw [u8q s0 h0]; rfl
  have hi : s0 / 8 % w < w := Nat.mod_lt _ hw0
  have hm : s0 % 1 = 0 := by omega
  rcases hm with hm
  ·have ts := st_ok ta (k := s0 / 8 % w) hv
   refine ⟨[(a.take w).set (s0 / 8 % w) (s1 % n)], rfl, ?_, ?_⟩
   ·intro l hl
    simp only [List.mem_cons, List.not_mem_nil, or_false] at hl
    rcases hl with rfl
    all_goals assumption
   ·show m14_L0 N (wd : Int) (.int .u8 (s0 : Int)) (.int .u8 (s1 : Int)) (n : Int) 1 (rwsP ([a].map nL)) = _
    rw [m14_L0]
    simp only [ew, toNatN]
    rw [casN_f (by decide), casN_t, grd_t (by simp [rwsP]), show gp (rwsP ([a].map nL)) 0 = .lst false (nL a).length (iL (nL a)) from rfl, getL_t, nL_len, ha, grd_t ⟨by omega, by omega⟩, grd_t (by rw [iL_len, nL_len, ha]), ka, ea, bnd_t]
    dsimp only
    rw [brn_dt (by omega), getI_t8, grd_t (by decide), em, hm, casI_t (by decide), grd_t (by decide), grd_t (by omega), getI_t8, grd_t (by omega), ei, grd_t ⟨by omega, by omega⟩, toNatN, grd_t (by rw [lg _ ta.1]; omega), wr0 h1, nL_set, grd_t (lg _ ts.1)]
    simp only [List.map_cons, List.map_nil, rwsP, rwP, nL_len, List.length_cons, List.length_nil, ts.1, ta.1]
theorem crn_2 (N n w wd s0 s1 : Nat) (hn1 : 1 ≤ n) (hn : n ≤ 4) (hwd : wd < 256) (hw : wd % (n + 1) = w) (h0 : s0 < 256) (h1 : s1 < 256) (a b : List Nat) (ha : a.length = n) (hb : b.length = n) (ga : ∀ s ∈ a, s < n) (gb : ∀ s ∈ b, s < n) : Crn N n w wd s0 s1 [a, b] := by
 have hwn : w ≤ n := by have := Nat.mod_lt wd (show 0 < n + 1 by omega); omega
 have ew : Int.tmod (IntKind.i64.wrap (wd : Int)) (IntKind.i64.wrap ((n : Int) + 1)) = (w : Int) := by rw [wr9 n (by omega) wd hwd, hw]
 have hv : s1 % n < n := Nat.mod_lt _ (by omega)
 have ta := tk_ok hwn ha ga
 have ea := e56 N (w := w) (a := a) (by omega) (by omega)
 have ka : (iL (nL a)).take w = iL (nL (a.take w)) := by rw [iL_take]; simp [nL]
 have tb := tk_ok hwn hb gb
 have eb := e56 N (w := w) (a := b) (by omega) (by omega)
 have kb : (iL (nL b)).take w = iL (nL (b.take w)) := by rw [iL_take]; simp [nL]
 have lg : ∀ x : List Nat, x.length = w → (iL (nL x)).length = w := fun x hx => by rw [iL_len, nL_len]; exact hx
 rcases Nat.eq_zero_or_pos w with hw0 | hw0
 ·refine ⟨[a.take w, b.take w], rfl, ?_, ?_⟩
  ·intro l hl
   simp only [List.mem_cons, List.not_mem_nil, or_false] at hl
   rcases hl with rfl | rfl
   all_goals assumption
  ·show m14_L0 N (wd : Int) (.int .u8 (s0 : Int)) (.int .u8 (s1 : Int)) (n : Int) 2 (rwsP ([a, b].map nL)) = _
   rw [m14_L0]
   simp only [ew, toNatN]
   rw [casN_f (by decide), casN_f (by decide), casN_t, grd_t (by simp [rwsP]), show gp (rwsP ([a, b].map nL)) 0 = .lst false (nL a).length (iL (nL a)) from rfl, getL_t, nL_len, ha, grd_t ⟨by omega, by omega⟩, grd_t (by rw [iL_len, nL_len, ha]), ka, ea, bnd_t]
   dsimp only
   rw [grd_t (by simp [rwsP]), show gp (rwsP ([a, b].map nL)) 1 = .lst false (nL b).length (iL (nL b)) from rfl, getL_t, nL_len, hb, grd_t (by omega), grd_t (by rw [iL_len, nL_len, hb]), kb, eb, bnd_t]
   dsimp only
   rw [brn_df (by omega), grd_t (lg _ ta.1), grd_t (lg _ tb.1)]
   simp only [List.map_cons, List.map_nil, rwsP, rwP, nL_len, List.length_cons, List.length_nil, ta.1, tb.1]
 ·have em : Int.tmod (IntKind.i64.wrap (s0 : Int)) 2 = ((s0 % 2 : Nat) : Int) := wr0 h0
  have ei : Int.tmod (IntKind.i64.wrap (IntKind.u8.wrap (Int.tdiv (s0 : Int) 8))) (w : Int) = ((s0 / 8 % w : Nat) : Int) := by rw [u8q s0 h0]; rfl
  have hi : s0 / 8 % w < w := Nat.mod_lt _ hw0
  have hm : s0 % 2 = 0 ∨ s0 % 2 = 1 := by omega
  rcases hm with hm | hm
  ·have ts := st_ok ta (k := s0 / 8 % w) hv
   refine ⟨[(a.take w).set (s0 / 8 % w) (s1 % n), b.take w], rfl, ?_, ?_⟩
   ·intro l hl
    simp only [List.mem_cons, List.not_mem_nil, or_false] at hl
    rcases hl with rfl | rfl
    all_goals assumption
   ·show m14_L0 N (wd : Int) (.int .u8 (s0 : Int)) (.int .u8 (s1 : Int)) (n : Int) 2 (rwsP ([a, b].map nL)) = _
    rw [m14_L0]
    simp only [ew, toNatN]
    rw [casN_f (by decide), casN_f (by decide), casN_t, grd_t (by simp [rwsP]), show gp (rwsP ([a, b].map nL)) 0 = .lst false (nL a).length (iL (nL a)) from rfl, getL_t, nL_len, ha, grd_t ⟨by omega, by omega⟩, grd_t (by rw [iL_len, nL_len, ha]), ka, ea, bnd_t]
    dsimp only
    rw [grd_t (by simp [rwsP]), show gp (rwsP ([a, b].map nL)) 1 = .lst false (nL b).length (iL (nL b)) from rfl, getL_t, nL_len, hb, grd_t (by omega), grd_t (by rw [iL_len, nL_len, hb]), kb, eb, bnd_t]
    dsimp only
    rw [brn_dt (by omega), getI_t8, grd_t (by decide), em, hm, casI_t (by decide), grd_t (by decide), grd_t (by omega), getI_t8, grd_t (by omega), ei, grd_t ⟨by omega, by omega⟩, toNatN, grd_t (by rw [lg _ ta.1]; omega), wr0 h1, nL_set, grd_t (lg _ ts.1), grd_t (lg _ tb.1)]
    simp only [List.map_cons, List.map_nil, rwsP, rwP, nL_len, List.length_cons, List.length_nil, ts.1, ta.1, tb.1]
  ·have ts := st_ok tb (k := s0 / 8 % w) hv
   refine ⟨[a.take w, (b.take w).set (s0 / 8 % w) (s1 % n)], rfl, ?_, ?_⟩
   ·intro l hl
    simp only [List.mem_cons, List.not_mem_nil, or_false] at hl
    rcases hl with rfl | rfl
    all_goals assumption
   ·show m14_L0 N (wd : Int) (.int .u8 (s0 : Int)) (.int .u8 (s1 : Int)) (n : Int) 2 (rwsP ([a, b].map nL)) = _
    rw [m14_L0]
    simp only [ew, toNatN]
    rw [casN_f (by decide), casN_f (by decide), casN_t, grd_t (by simp [rwsP]), show gp (rwsP ([a, b].map nL)) 0 = .lst false (nL a).length (iL (nL a)) from rfl, getL_t, nL_len, ha, grd_t ⟨by omega, by omega⟩, grd_t (by rw [iL_len, nL_len, ha]), ka, ea, bnd_t]
    dsimp only
    rw [grd_t (by simp [rwsP]), show gp (rwsP ([a, b].map nL)) 1 = .lst false (nL b).length (iL (nL b)) from rfl, getL_t, nL_len, hb, grd_t (by omega), grd_t (by rw [iL_len, nL_len, hb]), kb, eb, bnd_t]
    dsimp only
    rw [brn_dt (by omega), getI_t8, grd_t (by decide), em, hm, casI_f (by decide), casI_t (by decide), grd_t (by decide), grd_t (by omega), getI_t8, grd_t (by omega), ei, grd_t ⟨by omega, by omega⟩, toNatN, grd_t (by rw [lg _ tb.1]; omega), wr0 h1, nL_set, grd_t (lg _ ta.1), grd_t (lg _ ts.1)]
    simp only [List.map_cons, List.map_nil, rwsP, rwP, nL_len, List.length_cons, List.length_nil, ts.1, ta.1, tb.1]
theorem crn_3 (N n w wd s0 s1 : Nat) (hn1 : 1 ≤ n) (hn : n ≤ 4) (hwd : wd < 256) (hw : wd % (n + 1) = w) (h0 : s0 < 256) (h1 : s1 < 256) (a b c : List Nat) (ha : a.length = n) (hb : b.length = n) (hc : c.length = n) (ga : ∀ s ∈ a, s < n) (gb : ∀ s ∈ b, s < n) (gc : ∀ s ∈ c, s < n) : Crn N n w wd s0 s1 [a, b, c] := by
 have hwn : w ≤ n := by have := Nat.mod_lt wd (show 0 < n + 1 by omega); omega
 have ew : Int.tmod (IntKind.i64.wrap (wd : Int)) (IntKind.i64.wrap ((n : Int) + 1)) = (w : Int) := by rw [wr9 n (by omega) wd hwd, hw]
 have hv : s1 % n < n := Nat.mod_lt _ (by omega)
 have ta := tk_ok hwn ha ga
 have ea := e56 N (w := w) (a := a) (by omega) (by omega)
 have ka : (iL (nL a)).take w = iL (nL (a.take w)) := by rw [iL_take]; simp [nL]
 have tb := tk_ok hwn hb gb
 have eb := e56 N (w := w) (a := b) (by omega) (by omega)
 have kb : (iL (nL b)).take w = iL (nL (b.take w)) := by rw [iL_take]; simp [nL]
 have tc := tk_ok hwn hc gc
 have ec := e56 N (w := w) (a := c) (by omega) (by omega)
 have kc : (iL (nL c)).take w = iL (nL (c.take w)) := by rw [iL_take]; simp [nL]
 have lg : ∀ x : List Nat, x.length = w → (iL (nL x)).length = w := fun x hx => by rw [iL_len, nL_len]; exact hx
 rcases Nat.eq_zero_or_pos w with hw0 | hw0
 ·refine ⟨[a.take w, b.take w, c.take w], rfl, ?_, ?_⟩
  ·intro l hl
   simp only [List.mem_cons, List.not_mem_nil, or_false] at hl
   rcases hl with rfl | rfl | rfl
   all_goals assumption
  ·show m14_L0 N (wd : Int) (.int .u8 (s0 : Int)) (.int .u8 (s1 : Int)) (n : Int) 3 (rwsP ([a, b, c].map nL)) = _
   rw [m14_L0]
   simp only [ew, toNatN]
   rw [casN_f (by decide), casN_f (by decide), casN_f (by decide), casN_t, grd_t (by simp [rwsP]), show gp (rwsP ([a, b, c].map nL)) 0 = .lst false (nL a).length (iL (nL a)) from rfl, getL_t, nL_len, ha, grd_t ⟨by omega, by omega⟩, grd_t (by rw [iL_len, nL_len, ha]), ka, ea, bnd_t]
   dsimp only
   rw [grd_t (by simp [rwsP]), show gp (rwsP ([a, b, c].map nL)) 1 = .lst false (nL b).length (iL (nL b)) from rfl, getL_t, nL_len, hb, grd_t (by omega), grd_t (by rw [iL_len, nL_len, hb]), kb, eb, bnd_t]
   dsimp only
   rw [grd_t (by simp [rwsP]), show gp (rwsP ([a, b, c].map nL)) 2 = .lst false (nL c).length (iL (nL c)) from rfl, getL_t, nL_len, hc, grd_t (by omega), grd_t (by rw [iL_len, nL_len, hc]), kc, ec, bnd_t]
   dsimp only
   rw [brn_df (by omega), grd_t (lg _ ta.1), grd_t (lg _ tb.1), grd_t (lg _ tc.1)]
   simp only [List.map_cons, List.map_nil, rwsP, rwP, nL_len, List.length_cons, List.length_nil, ta.1, tb.1, tc.1]
 ·have em : Int.tmod (IntKind.i64.wrap (s0 : Int)) 3 = ((s0 % 3 : Nat) : Int) := wr0 h0
  have ei : Int.tmod (IntKind.i64.wrap (IntKind.u8.wrap (Int.tdiv (s0 : Int) 8))) (w : Int) = ((s0 / 8 % w : Nat) : Int) := by rw [u8q s0 h0]; rfl
  have hi : s0 / 8 % w < w := Nat.mod_lt _ hw0
  have hm : s0 % 3 = 0 ∨ s0 % 3 = 1 ∨ s0 % 3 = 2 := by omega
  rcases hm with hm | hm | hm
  ·have ts := st_ok ta (k := s0 / 8 % w) hv
   refine ⟨[(a.take w).set (s0 / 8 % w) (s1 % n), b.take w, c.take w], rfl, ?_, ?_⟩
   ·intro l hl
    simp only [List.mem_cons, List.not_mem_nil, or_false] at hl
    rcases hl with rfl | rfl | rfl
    all_goals assumption
   ·show m14_L0 N (wd : Int) (.int .u8 (s0 : Int)) (.int .u8 (s1 : Int)) (n : Int) 3 (rwsP ([a, b, c].map nL)) = _
    rw [m14_L0]
    simp only [ew, toNatN]
    rw [casN_f (by decide), casN_f (by decide), casN_f (by decide), casN_t, grd_t (by simp [rwsP]), show gp (rwsP ([a, b, c].map nL)) 0 = .lst false (nL a).length (iL (nL a)) from rfl, getL_t, nL_len, ha, grd_t ⟨by omega, by omega⟩, grd_t (by rw [iL_len, nL_len, ha]), ka, ea, bnd_t]
    dsimp only
    rw [grd_t (by simp [rwsP]), show gp (rwsP ([a, b, c].map nL)) 1 = .lst false (nL b).length (iL (nL b)) from rfl, getL_t, nL_len, hb, grd_t (by omega), grd_t (by rw [iL_len, nL_len, hb]), kb, eb, bnd_t]
    dsimp only
    rw [grd_t (by simp [rwsP]), show gp (rwsP ([a, b, c].map nL)) 2 = .lst false (nL c).length (iL (nL c)) from rfl, getL_t, nL_len, hc, grd_t (by omega), grd_t (by rw [iL_len, nL_len, hc]), kc, ec, bnd_t]
    dsimp only
    rw [brn_dt (by omega), getI_t8, grd_t (by decide), em, hm, casI_t (by decide), grd_t (by decide), grd_t (by omega), getI_t8, grd_t (by omega), ei, grd_t ⟨by omega, by omega⟩, toNatN, grd_t (by rw [lg _ ta.1]; omega), wr0 h1, nL_set, grd_t (lg _ ts.1), grd_t (lg _ tb.1), grd_t (lg _ tc.1)]
    simp only [List.map_cons, List.map_nil, rwsP, rwP, nL_len, List.length_cons, List.length_nil, ts.1, ta.1, tb.1, tc.1]
  ·have ts := st_ok tb (k := s0 / 8 % w) hv
   refine ⟨[a.take w, (b.take w).set (s0 / 8 % w) (s1 % n), c.take w], rfl, ?_, ?_⟩
   ·intro l hl
    simp only [List.mem_cons, List.not_mem_nil, or_false] at hl
    rcases hl with rfl | rfl | rfl
    all_goals assumption
   ·show m14_L0 N (wd : Int) (.int .u8 (s0 : Int)) (.int .u8 (s1 : Int)) (n : Int) 3 (rwsP ([a, b, c].map nL)) = _
    rw [m14_L0]
    simp only [ew, toNatN]
    rw [casN_f (by decide), casN_f (by decide), casN_f (by decide), casN_t, grd_t (by simp [rwsP]), show gp (rwsP ([a, b, c].map nL)) 0 = .lst false (nL a).length (iL (nL a)) from rfl, getL_t, nL_len, ha, grd_t ⟨by omega, by omega⟩, grd_t (by rw [iL_len, nL_len, ha]), ka, ea, bnd_t]
    dsimp only
    rw [grd_t (by simp [rwsP]), show gp (rwsP ([a, b, c].map nL)) 1 = .lst false (nL b).length (iL (nL b)) from rfl, getL_t, nL_len, hb, grd_t (by omega), grd_t (by rw [iL_len, nL_len, hb]), kb, eb, bnd_t]
    dsimp only
    rw [grd_t (by simp [rwsP]), show gp (rwsP ([a, b, c].map nL)) 2 = .lst false (nL c).length (iL (nL c)) from rfl, getL_t, nL_len, hc, grd_t (by omega), grd_t (by rw [iL_len, nL_len, hc]), kc, ec, bnd_t]
    dsimp only
    rw [brn_dt (by omega), getI_t8, grd_t (by decide), em, hm, casI_f (by decide), casI_t (by decide), grd_t (by decide), grd_t (by omega), getI_t8, grd_t (by omega), ei, grd_t ⟨by omega, by omega⟩, toNatN, grd_t (by rw [lg _ tb.1]; omega), wr0 h1, nL_set, grd_t (lg _ ta.1), grd_t (lg _ ts.1), grd_t (lg _ tc.1)]
    simp only [List.map_cons, List.map_nil, rwsP, rwP, nL_len, List.length_cons, List.length_nil, ts.1, ta.1, tb.1, tc.1]
  ·have ts := st_ok tc (k := s0 / 8 % w) hv
   refine ⟨[a.take w, b.take w, (c.take w).set (s0 / 8 % w) (s1 % n)], rfl, ?_, ?_⟩
   ·intro l hl
    simp only [List.mem_cons, List.not_mem_nil, or_false] at hl
    rcases hl with rfl | rfl | rfl
    all_goals assumption
   ·show m14_L0 N (wd : Int) (.int .u8 (s0 : Int)) (.int .u8 (s1 : Int)) (n : Int) 3 (rwsP ([a, b, c].map nL)) = _
    rw [m14_L0]
    simp only [ew, toNatN]
    rw [casN_f (by decide), casN_f (by decide), casN_f (by decide), casN_t, grd_t (by simp [rwsP]), show gp (rwsP ([a, b, c].map nL)) 0 = .lst false (nL a).length (iL (nL a)) from rfl, getL_t, nL_len, ha, grd_t ⟨by omega, by omega⟩, grd_t (by rw [iL_len, nL_len, ha]), ka, ea, bnd_t]
    dsimp only
    rw [grd_t (by simp [rwsP]), show gp (rwsP ([a, b, c].map nL)) 1 = .lst false (nL b).length (iL (nL b)) from rfl, getL_t, nL_len, hb, grd_t (by omega), grd_t (by rw [iL_len, nL_len, hb]), kb, eb, bnd_t]
    dsimp only
    rw [grd_t (by simp [rwsP]), show gp (rwsP ([a, b, c].map nL)) 2 = .lst false (nL c).length (iL (nL c)) from rfl, getL_t, nL_len, hc, grd_t (by omega), grd_t (by rw [iL_len, nL_len, hc]), kc, ec, bnd_t]
    dsimp only
    rw [brn_dt (by omega), getI_t8, grd_t (by decide), em, hm, casI_f (by decide), casI_f (by decide), casI_t (by decide), grd_t (by decide), grd_t (by omega), getI_t8, grd_t (by omega), ei, grd_t ⟨by omega, by omega⟩, toNatN, grd_t (by rw [lg _ tc.1]; omega), wr0 h1, nL_set, grd_t (lg _ ta.1), grd_t (lg _ tb.1), grd_t (lg _ ts.1)]
    simp only [List.map_cons, List.map_nil, rwsP, rwP, nL_len, List.length_cons, List.length_nil, ts.1, ta.1, tb.1, tc.1]
theorem crn_4 (N n w wd s0 s1 : Nat) (hn1 : 1 ≤ n) (hn : n ≤ 4) (hwd : wd < 256) (hw : wd % (n + 1) = w) (h0 : s0 < 256) (h1 : s1 < 256) (a b c d : List Nat) (ha : a.length = n) (hb : b.length = n) (hc : c.length = n) (hd : d.length = n) (ga : ∀ s ∈ a, s < n) (gb : ∀ s ∈ b, s < n) (gc : ∀ s ∈ c, s < n) (gd : ∀ s ∈ d, s < n) : Crn N n w wd s0 s1 [a, b, c, d] := by
 have hwn : w ≤ n := by have := Nat.mod_lt wd (show 0 < n + 1 by omega); omega
 have ew : Int.tmod (IntKind.i64.wrap (wd : Int)) (IntKind.i64.wrap ((n : Int) + 1)) = (w : Int) := by rw [wr9 n (by omega) wd hwd, hw]
 have hv : s1 % n < n := Nat.mod_lt _ (by omega)
 have ta := tk_ok hwn ha ga
 have ea := e56 N (w := w) (a := a) (by omega) (by omega)
 have ka : (iL (nL a)).take w = iL (nL (a.take w)) := by rw [iL_take]; simp [nL]
 have tb := tk_ok hwn hb gb
 have eb := e56 N (w := w) (a := b) (by omega) (by omega)
 have kb : (iL (nL b)).take w = iL (nL (b.take w)) := by rw [iL_take]; simp [nL]
 have tc := tk_ok hwn hc gc
 have ec := e56 N (w := w) (a := c) (by omega) (by omega)
 have kc : (iL (nL c)).take w = iL (nL (c.take w)) := by rw [iL_take]; simp [nL]
 have td := tk_ok hwn hd gd
 have ed := e56 N (w := w) (a := d) (by omega) (by omega)
 have kd : (iL (nL d)).take w = iL (nL (d.take w)) := by rw [iL_take]; simp [nL]
 have lg : ∀ x : List Nat, x.length = w → (iL (nL x)).length = w := fun x hx => by rw [iL_len, nL_len]; exact hx
 rcases Nat.eq_zero_or_pos w with hw0 | hw0
 ·refine ⟨[a.take w, b.take w, c.take w, d.take w], rfl, ?_, ?_⟩
  ·intro l hl
   simp only [List.mem_cons, List.not_mem_nil, or_false] at hl
   rcases hl with rfl | rfl | rfl | rfl
   all_goals assumption
  ·show m14_L0 N (wd : Int) (.int .u8 (s0 : Int)) (.int .u8 (s1 : Int)) (n : Int) 4 (rwsP ([a, b, c, d].map nL)) = _
   rw [m14_L0]
   simp only [ew, toNatN]
   rw [casN_f (by decide), casN_f (by decide), casN_f (by decide), casN_f (by decide), casN_t, grd_t (by simp [rwsP]), show gp (rwsP ([a, b, c, d].map nL)) 0 = .lst false (nL a).length (iL (nL a)) from rfl, getL_t, nL_len, ha, grd_t ⟨by omega, by omega⟩, grd_t (by rw [iL_len, nL_len, ha]), ka, ea, bnd_t]
   dsimp only
   rw [grd_t (by simp [rwsP]), show gp (rwsP ([a, b, c, d].map nL)) 1 = .lst false (nL b).length (iL (nL b)) from rfl, getL_t, nL_len, hb, grd_t (by omega), grd_t (by rw [iL_len, nL_len, hb]), kb, eb, bnd_t]
   dsimp only
   rw [grd_t (by simp [rwsP]), show gp (rwsP ([a, b, c, d].map nL)) 2 = .lst false (nL c).length (iL (nL c)) from rfl, getL_t, nL_len, hc, grd_t (by omega), grd_t (by rw [iL_len, nL_len, hc]), kc, ec, bnd_t]
   dsimp only
   rw [grd_t (by simp [rwsP]), show gp (rwsP ([a, b, c, d].map nL)) 3 = .lst false (nL d).length (iL (nL d)) from rfl, getL_t, nL_len, hd, grd_t (by omega), grd_t (by rw [iL_len, nL_len, hd]), kd, ed, bnd_t]
   dsimp only
   rw [brn_df (by omega), grd_t (lg _ ta.1), grd_t (lg _ tb.1), grd_t (lg _ tc.1), grd_t (lg _ td.1)]
   simp only [List.map_cons, List.map_nil, rwsP, rwP, nL_len, List.length_cons, List.length_nil, ta.1, tb.1, tc.1, td.1]
 ·have em : Int.tmod (IntKind.i64.wrap (s0 : Int)) 4 = ((s0 % 4 : Nat) : Int) := wr0 h0
  have ei : Int.tmod (IntKind.i64.wrap (IntKind.u8.wrap (Int.tdiv (s0 : Int) 8))) (w : Int) = ((s0 / 8 % w : Nat) : Int) := by rw [u8q s0 h0]; rfl
  have hi : s0 / 8 % w < w := Nat.mod_lt _ hw0
  have hm : s0 % 4 = 0 ∨ s0 % 4 = 1 ∨ s0 % 4 = 2 ∨ s0 % 4 = 3 := by omega
  rcases hm with hm | hm | hm | hm
  ·have ts := st_ok ta (k := s0 / 8 % w) hv
   refine ⟨[(a.take w).set (s0 / 8 % w) (s1 % n), b.take w, c.take w, d.take w], rfl, ?_, ?_⟩
   ·intro l hl
    simp only [List.mem_cons, List.not_mem_nil, or_false] at hl
    rcases hl with rfl | rfl | rfl | rfl
    all_goals assumption
   ·show m14_L0 N (wd : Int) (.int .u8 (s0 : Int)) (.int .u8 (s1 : Int)) (n : Int) 4 (rwsP ([a, b, c, d].map nL)) = _
    rw [m14_L0]
    simp only [ew, toNatN]
    rw [casN_f (by decide), casN_f (by decide), casN_f (by decide), casN_f (by decide), casN_t, grd_t (by simp [rwsP]), show gp (rwsP ([a, b, c, d].map nL)) 0 = .lst false (nL a).length (iL (nL a)) from rfl, getL_t, nL_len, ha, grd_t ⟨by omega, by omega⟩, grd_t (by rw [iL_len, nL_len, ha]), ka, ea, bnd_t]
    dsimp only
    rw [grd_t (by simp [rwsP]), show gp (rwsP ([a, b, c, d].map nL)) 1 = .lst false (nL b).length (iL (nL b)) from rfl, getL_t, nL_len, hb, grd_t (by omega), grd_t (by rw [iL_len, nL_len, hb]), kb, eb, bnd_t]
    dsimp only
    rw [grd_t (by simp [rwsP]), show gp (rwsP ([a, b, c, d].map nL)) 2 = .lst false (nL c).length (iL (nL c)) from rfl, getL_t, nL_len, hc, grd_t (by omega), grd_t (by rw [iL_len, nL_len, hc]), kc, ec, bnd_t]
    dsimp only
    rw [grd_t (by simp [rwsP]), show gp (rwsP ([a, b, c, d].map nL)) 3 = .lst false (nL d).length (iL (nL d)) from rfl, getL_t, nL_len, hd, grd_t (by omega), grd_t (by rw [iL_len, nL_len, hd]), kd, ed, bnd_t]
    dsimp only
    rw [brn_dt (by omega), getI_t8, grd_t (by decide), em, hm, casI_t (by decide), grd_t (by decide), grd_t (by omega), getI_t8, grd_t (by omega), ei, grd_t ⟨by omega, by omega⟩, toNatN, grd_t (by rw [lg _ ta.1]; omega), wr0 h1, nL_set, grd_t (lg _ ts.1), grd_t (lg _ tb.1), grd_t (lg _ tc.1), grd_t (lg _ td.1)]
    simp only [List.map_cons, List.map_nil, rwsP, rwP, nL_len, List.length_cons, List.length_nil, ts.1, ta.1, tb.1, tc.1, td.1]
  ·have ts := st_ok tb (k := s0 / 8 % w) hv
   refine ⟨[a.take w, (b.take w).set (s0 / 8 % w) (s1 % n), c.take w, d.take w], rfl, ?_, ?_⟩
   ·intro l hl
    simp only [List.mem_cons, List.not_mem_nil, or_false] at hl
    rcases hl with rfl | rfl | rfl | rfl
    all_goals assumption
   ·show m14_L0 N (wd : Int) (.int .u8 (s0 : Int)) (.int .u8 (s1 : Int)) (n : Int) 4 (rwsP ([a, b, c, d].map nL)) = _
    rw [m14_L0]
    simp only [ew, toNatN]
    rw [casN_f (by decide), casN_f (by decide), casN_f (by decide), casN_f (by decide), casN_t, grd_t (by simp [rwsP]), show gp (rwsP ([a, b, c, d].map nL)) 0 = .lst false (nL a).length (iL (nL a)) from rfl, getL_t, nL_len, ha, grd_t ⟨by omega, by omega⟩, grd_t (by rw [iL_len, nL_len, ha]), ka, ea, bnd_t]
    dsimp only
    rw [grd_t (by simp [rwsP]), show gp (rwsP ([a, b, c, d].map nL)) 1 = .lst false (nL b).length (iL (nL b)) from rfl, getL_t, nL_len, hb, grd_t (by omega), grd_t (by rw [iL_len, nL_len, hb]), kb, eb, bnd_t]
    dsimp only
    rw [grd_t (by simp [rwsP]), show gp (rwsP ([a, b, c, d].map nL)) 2 = .lst false (nL c).length (iL (nL c)) from rfl, getL_t, nL_len, hc, grd_t (by omega), grd_t (by rw [iL_len, nL_len, hc]), kc, ec, bnd_t]
    dsimp only
    rw [grd_t (by simp [rwsP]), show gp (rwsP ([a, b, c, d].map nL)) 3 = .lst false (nL d).length (iL (nL d)) from rfl, getL_t, nL_len, hd, grd_t (by omega), grd_t (by rw [iL_len, nL_len, hd]), kd, ed, bnd_t]
    dsimp only
    rw [brn_dt (by omega), getI_t8, grd_t (by decide), em, hm, casI_f (by decide), casI_t (by decide), grd_t (by decide), grd_t (by omega), getI_t8, grd_t (by omega), ei, grd_t ⟨by omega, by omega⟩, toNatN, grd_t (by rw [lg _ tb.1]; omega), wr0 h1, nL_set, grd_t (lg _ ta.1), grd_t (lg _ ts.1), grd_t (lg _ tc.1), grd_t (lg _ td.1)]
    simp only [List.map_cons, List.map_nil, rwsP, rwP, nL_len, List.length_cons, List.length_nil, ts.1, ta.1, tb.1, tc.1, td.1]
  ·have ts := st_ok tc (k := s0 / 8 % w) hv
   refine ⟨[a.take w, b.take w, (c.take w).set (s0 / 8 % w) (s1 % n), d.take w], rfl, ?_, ?_⟩
   ·intro l hl
    simp only [List.mem_cons, List.not_mem_nil, or_false] at hl
    rcases hl with rfl | rfl | rfl | rfl
    all_goals assumption
   ·show m14_L0 N (wd : Int) (.int .u8 (s0 : Int)) (.int .u8 (s1 : Int)) (n : Int) 4 (rwsP ([a, b, c, d].map nL)) = _
    rw [m14_L0]
    simp only [ew, toNatN]
    rw [casN_f (by decide), casN_f (by decide), casN_f (by decide), casN_f (by decide), casN_t, grd_t (by simp [rwsP]), show gp (rwsP ([a, b, c, d].map nL)) 0 = .lst false (nL a).length (iL (nL a)) from rfl, getL_t, nL_len, ha, grd_t ⟨by omega, by omega⟩, grd_t (by rw [iL_len, nL_len, ha]), ka, ea, bnd_t]
    dsimp only
    rw [grd_t (by simp [rwsP]), show gp (rwsP ([a, b, c, d].map nL)) 1 = .lst false (nL b).length (iL (nL b)) from rfl, getL_t, nL_len, hb, grd_t (by omega), grd_t (by rw [iL_len, nL_len, hb]), kb, eb, bnd_t]
    dsimp only
    rw [grd_t (by simp [rwsP]), show gp (rwsP ([a, b, c, d].map nL)) 2 = .lst false (nL c).length (iL (nL c)) from rfl, getL_t, nL_len, hc, grd_t (by omega), grd_t (by rw [iL_len, nL_len, hc]), kc, ec, bnd_t]
    dsimp only
    rw [grd_t (by simp [rwsP]), show gp (rwsP ([a, b, c, d].map nL)) 3 = .lst false (nL d).length (iL (nL d)) from rfl, getL_t, nL_len, hd, grd_t (by omega), grd_t (by rw [iL_len, nL_len, hd]), kd, ed, bnd_t]
    dsimp only
    rw [brn_dt (by omega), getI_t8, grd_t (by decide), em, hm, casI_f (by decide), casI_f (by decide), casI_t (by decide), grd_t (by decide), grd_t (by omega), getI_t8, grd_t (by omega), ei, grd_t ⟨by omega, by omega⟩, toNatN, grd_t (by rw [lg _ tc.1]; omega), wr0 h1, nL_set, grd_t (lg _ ta.1), grd_t (lg _ tb.1), grd_t (lg _ ts.1), grd_t (lg _ td.1)]
    simp only [List.map_cons, List.map_nil, rwsP, rwP, nL_len, List.length_cons, List.length_nil, ts.1, ta.1, tb.1, tc.1, td.1]
  ·have ts := st_ok td (k := s0 / 8 % w) hv
   refine ⟨[a.take w, b.take w, c.take w, (d.take w).set (s0 / 8 % w) (s1 % n)], rfl, ?_, ?_⟩
   ·intro l hl
    simp only [List.mem_cons, List.not_mem_nil, or_false] at hl
    rcases hl with rfl | rfl | rfl | rfl
    all_goals assumption
   ·show m14_L0 N (wd : Int) (.int .u8 (s0 : Int)) (.int .u8 (s1 : Int)) (n : Int) 4 (rwsP ([a, b, c, d].map nL)) = _
    rw [m14_L0]
    simp only [ew, toNatN]
    rw [casN_f (by decide), casN_f (by decide), casN_f (by decide), casN_f (by decide), casN_t, grd_t (by simp [rwsP]), show gp (rwsP ([a, b, c, d].map nL)) 0 = .lst false (nL a).length (iL (nL a)) from rfl, getL_t, nL_len, ha, grd_t ⟨by omega, by omega⟩, grd_t (by rw [iL_len, nL_len, ha]), ka, ea, bnd_t]
    dsimp only
    rw [grd_t (by simp [rwsP]), show gp (rwsP ([a, b, c, d].map nL)) 1 = .lst false (nL b).length (iL (nL b)) from rfl, getL_t, nL_len, hb, grd_t (by omega), grd_t (by rw [iL_len, nL_len, hb]), kb, eb, bnd_t]
    dsimp only
    rw [grd_t (by simp [rwsP]), show gp (rwsP ([a, b, c, d].map nL)) 2 = .lst false (nL c).length (iL (nL c)) from rfl, getL_t, nL_len, hc, grd_t (by omega), grd_t (by rw [iL_len, nL_len, hc]), kc, ec, bnd_t]
    dsimp only
    rw [grd_t (by simp [rwsP]), show gp (rwsP ([a, b, c, d].map nL)) 3 = .lst false (nL d).length (iL (nL d)) from rfl, getL_t, nL_len, hd, grd_t (by omega), grd_t (by rw [iL_len, nL_len, hd]), kd, ed, bnd_t]
    dsimp only
    rw [brn_dt (by omega), getI_t8, grd_t (by decide), em, hm, casI_f (by decide), casI_f (by decide), casI_f (by decide), casI_t (by decide), grd_t (by decide), grd_t (by omega), getI_t8, grd_t (by omega), ei, grd_t ⟨by omega, by omega⟩, toNatN, grd_t (by rw [lg _ td.1]; omega), wr0 h1, nL_set, grd_t (lg _ ta.1), grd_t (lg _ tb.1), grd_t (lg _ tc.1), grd_t (lg _ ts.1)]
    simp only [List.map_cons, List.map_nil, rwsP, rwP, nL_len, List.length_cons, List.length_nil, ts.1, ta.1, tb.1, tc.1, td.1]
theorem corner1_ok (N : Nat) (hN : 2000 ≤ N) (x : Int) (L : List (List Int)) (hL : L.length ≤ 1000) (hr : ∀ r ∈ L, r.length ≤ 1000) : m49 N x (.lst false L.length (rwsP L)) = some (.int .i64 (corE x L)) := by
 obtain ⟨T, e, hT⟩ := cornered_ok N hN x L hL hr
 rw [m49, getL_t, e, bnd_t]
 by_cases h : corE x L = 0
 ·rw [if_pos h, h]
 ·rw [if_neg h]
def prvE (x : Int) (L : List (List Int)) (s : Int) : Int := if corE x L ≠ 0 then corE x L else if s < 0 ∨ x ≤ s then 2 else if barB x.toNat L s.toNat then 0 else 14
theorem proves_ok (N : Nat) (hN : 2000 ≤ N) (x : Int) (L : List (List Int)) (hL : L.length ≤ 1000) (hr : ∀ r ∈ L, r.length ≤ 1000) (s : Int) : m51 N x (.lst false L.length (rwsP L)) s = some (.int .i64 (prvE x L s)) := by
 rw [m51, getL_t, barring_ok N hN x L hL hr, bnd_t, getT2_t]
 unfold barE prvE
 by_cases h : corE x L = 0
 ·obtain ⟨h1, h2, h3, h4⟩ := chkE_zero h
  obtain ⟨n, rfl⟩ : ∃ n : Nat, x = (n : Int) := ⟨x.toNat, by omega⟩
  rw [if_neg (show ¬ corE n L ≠ 0 by simpa using h), if_neg (show ¬ corE n L ≠ 0 by simpa using h), toNatN]
  have hbl : (bars n L).length ≤ n := by
   have := List.length_filter_le (barB n L) (List.range n)
   rw [List.length_range] at this; exact this
  have hc := cont_ok N hN s (nL (bars n L)) (by rw [nL_len]; omega)
  unfold rwP at hc ⊢
  rw [getL_t, getI_t, brn_nf rfl]
  by_cases e1 : s < 0
  ·rw [brn_dt e1, if_pos (.inl e1)]
  ·rw [brn_df e1]
   by_cases e2 : (n : Int) ≤ s
   ·rw [brn_dt e2, if_pos (.inr e2)]
   ·obtain ⟨t, rfl⟩ : ∃ t : Nat, s = (t : Int) := ⟨s.toNat, by omega⟩
    rw [brn_df e2, if_neg (by omega), hc, bnd_t, getB_t, nL_mem, toNatN]
    have : decide (t ∈ bars n L) = barB n L t := by
     rw [Bool.eq_iff_iff, decide_eq_true_eq]
     unfold bars
     rw [List.mem_filter, List.mem_range]
     exact ⟨fun h => h.2, fun h => ⟨by omega, h⟩⟩
    rw [this]
    cases barB n L t <;> rfl
 ·rw [if_pos h, if_pos h]
  unfold rwP
  rw [getL_t, getI_t, brn_nt h]
theorem wr84 : ∀ a : Nat, a < 256 → IntKind.i64.wrap (1 + Int.tmod (IntKind.i64.wrap (a : Int)) 4) = ((1 + a % 4 : Nat) : Int) := by decide +kernel
theorem made4_L (N n : Nat) (hN : 5000 ≤ N) (hn1 : 1 ≤ n) (hn : n ≤ 5) (a b c0 c1 c2 c3 c4 : Nat) (ha : a < 256) (hb : b < 256) (h0 : c0 < 256) (h1 : c1 < 256) (h2 : c2 < 256) (h3 : c3 < 256) (h4 : c4 < 256) (en' : n = 1 + a % 4) : ∀ (f fuel : Nat) (X : List (List Nat)) (D : List Nat), b % (n + 1) - X.length = f → f < fuel → Vp n X D → X.length ≤ b % (n + 1) →
  ∃ X' D', Vp n X' D' ∧ X'.length ≤ n ∧ m37_L0 N 4 (.int .u8 (c0 : Int)) (.int .u8 (c1 : Int)) (.int .u8 (c2 : Int)) (.int .u8 (c3 : Int)) (.int .u8 (c4 : Int)) (a : Int) (b : Int) fuel X.length (X.length : Int) (rwsP (X.map nL)) = some (X'.length, rwsP (X'.map nL))
 | f, 0, _, _, _, h, _, _ => by omega
 | f, fuel + 1, X, D, hf, hfu, hV, hX => by
  have hm : b % (n + 1) < n + 1 := Nat.mod_lt _ (by omega)
  rw [m37_L0, wr84 a ha, ← en', wr9 n (by omega) b hb]
  by_cases h : X.length < b % (n + 1)
  ·have hk := fit_many hn hV (by omega)
   have hp := fac_pos (n - X.length)
   have hl := vp_len hV
   have e38 := m38_3_ok N n hN hn1 hn (X.map nL) (by simp; omega) hl
   rw [List.length_map] at e38
   have e : [PV.int .u8 (a : Int), .int .u8 (b : Int), .int .u8 (c0 : Int), .int .u8 (c1 : Int), .int .u8 (c2 : Int), .int .u8 (c3 : Int), .int .u8 (c4 : Int)] = u8s [a, b, c0, c1, c2, c3, c4] := rfl
   have hg : gn [a, b, c0, c1, c2, c3, c4] (2 + X.length) < 256 := by
    have hx : X.length < 5 := by omega
    generalize X.length = j at hx
    match j, hx with
    | 0, _ => exact h0
    | 1, _ => exact h1
    | 2, _ => exact h2
    | 3, _ => exact h3
    | 4, _ => exact h4
   rw [brn_dt (by omega), e38, bnd_t]
   dsimp only
   rw [getL_t, grd_t ⟨by omega, by omega⟩, toNatN, grd_t (by omega), e, u8_gp (by simp; omega)]
   generalize gn [a, b, c0, c1, c2, c3, c4] (2 + X.length) = y at hg
   have hM : (fitn n (X.map nL)).length ≤ 3125 := fitn_le hn _
   have hlt : y % (fitn n (X.map nL)).length < (fitn n (X.map nL)).length := Nat.mod_lt _ (by omega)
   have hmem : (fitn n (X.map nL)).getD (y % (fitn n (X.map nL)).length) [] ∈ fitn n (X.map nL) := by
    rw [List.getD, List.getElem?_eq_getElem hlt]; exact List.getElem_mem hlt
   have e2 : gp (rwsP ((fitn n (X.map nL)).map nL)) (y % (fitn n (X.map nL)).length) = rwP (nL ((fitn n (X.map nL)).getD (y % (fitn n (X.map nL)).length) [])) := by
    rw [rws_gp (by simpa using hlt)]
    unfold ro
    rw [List.getD, List.getElem?_map, List.getD, List.getElem?_eq_getElem hlt]; rfl
   generalize (fitn n (X.map nL)).getD (y % (fitn n (X.map nL)).length) [] = x at hmem e2
   obtain ⟨hx, hf'⟩ := List.mem_filter.1 hmem
   obtain ⟨X', D', g1, g2, g3⟩ := made4_L N n hN hn1 hn a b c0 c1 c2 c3 c4 ha hb h0 h1 h2 h3 h4 en' (f - 1) fuel (X ++ [x]) _ (by simp; omega) (by omega) (.snoc X D x hV hx hf') (by simp; omega)
   rw [List.length_append, List.length_singleton, List.map_append, List.map_singleton, ← rws_app] at g3
   rw [getI_t, grd_t (by omega), wr0 hg, grd_t ⟨by omega, by omega⟩, toNatN, grd_t (by rw [List.length_drop, rws_len, List.length_map]; omega), e2]
   unfold rwP at g3 ⊢
   rw [getL_t, grd_t (by omega), grd_t (by rw [rws_len, List.length_map]), wrapN (by omega)]
   exact ⟨X', D', g1, g2, g3⟩
  ·rw [brn_df (by omega)]
   exact ⟨X, D, hV, by omega, rfl⟩
theorem made4_ok (N : Nat) (hN : 5000 ≤ N) (a b c0 c1 c2 c3 c4 : Nat) (ha : a < 256) (hb : b < 256) (h0 : c0 < 256) (h1 : c1 < 256) (h2 : c2 < 256) (h3 : c3 < 256) (h4 : c4 < 256) : ∃ n X D, 1 ≤ n ∧ n ≤ 4 ∧ Vp n X D ∧ X.length ≤ n ∧ m37 N (.agg [.int .u8 (a : Int), .int .u8 (b : Int), .int .u8 (c0 : Int), .int .u8 (c1 : Int), .int .u8 (c2 : Int), .int .u8 (c3 : Int), .int .u8 (c4 : Int)]) 4 = some (.tup [.int .i64 (n : Int), .lst false X.length (rwsP (X.map nL))]) := by
 have hn : 1 + a % 4 ≤ 4 := by have := Nat.mod_lt a (show 0 < 4 by omega); omega
 have hm : b % (1 + a % 4 + 1) < 1 + a % 4 + 1 := Nat.mod_lt _ (by omega)
 obtain ⟨X, D, g1, g2, g3⟩ := made4_L N (1 + a % 4) hN (by omega) (by omega) a b c0 c1 c2 c3 c4 ha hb h0 h1 h2 h3 h4 rfl (b % (1 + a % 4 + 1) - 0) N [] _ rfl (by omega) .nil (by simp)
 refine ⟨1 + a % 4, X, D, by omega, hn, g1, g2, ?_⟩
 rw [m37, getA7_t, getI_t, grd_t (by decide), getI_t, grd_t (by rw [wr84 a ha, wrapN (by omega)]; omega), show m37_L0 N 4 (.int .u8 (c0 : Int)) (.int .u8 (c1 : Int)) (.int .u8 (c2 : Int)) (.int .u8 (c3 : Int)) (.int .u8 (c4 : Int)) (a : Int) (b : Int) N 0 0 [] = _ from g3, bnd_t]
 dsimp only
 rw [grd_t (by rw [rws_len, List.length_map]), wr84 a ha]
theorem any_rows {w : Nat} {C : List (List Nat)} (hC : ∀ o ∈ C, o.length = w) {j : Nat} (hj : j < C.length) : (C.getD j []).length = w ∧ ro (C.map nL) j = nL (C.getD j []) := ⟨hC _ (by simp [List.getD, hj]), by simp [ro, List.getD, hj]⟩
theorem rw_L3 (N w : Nat) (C : List (List Nat)) (hC : ∀ o ∈ C, o.length = w) (hC5 : C.length ≤ 5) (x y : Int) (z : Int) (i : Nat) (hi : i ≤ C.length) (nl : Nat) (cl : List PV) (k : Nat) (hk : k < w) (s : Nat) : ∀ (f j fuel : Nat) (v : Int), i - j = f → f < fuel → j ≤ i →
  m14_L3 N x y C.length (rwsP (C.map nL)) z (i : Int) nl cl (k : Int) (s : Int) fuel v (j : Int) = some (if metB (((C.map nL).take i).drop j) k (s : Int) then 13 else v)
 | f, j, 0, _, _, hf, _ => by omega
 | f, j, fuel + 1, v, hf, hfu, hj => by
  rw [m14_L3]
  by_cases h : j < i
  ·have ih := fun v => rw_L3 N w C hC hC5 x y z i hi nl cl k hk s (f - 1) (j + 1) fuel v (by omega) (by omega) (by omega)
   have hlc : (C.map nL).length = C.length := by simp
   obtain ⟨ho, e1⟩ := any_rows hC (show j < C.length by omega)
   have ed : ((C.map nL).take i).drop j = ro (C.map nL) j :: ((C.map nL).take i).drop (j + 1) := by
    have hl : j < ((C.map nL).take i).length := by rw [List.length_take]; omega
    rw [drop_ro hl]
    congr 1
    unfold ro
    rw [List.getD, List.getD, List.getElem?_take, if_pos h]
   simp only [toNatN]
   rw [brn_dt (by omega), grd_t ⟨by omega, by omega⟩, grd_t ⟨by rw [List.length_drop, List.length_take, rws_len]; omega, h⟩, rws_gp (by omega), getL_t, e1, nL_len, ho, grd_t (by omega), grd_t (by rw [List.length_drop, iL_len, nL_len]; omega), iL_gp (by rw [nL_len]; omega), getI_t, nL_en (by omega), wrapN (by omega), ih, ih, ed, e1]
   unfold metB
   rw [List.any_cons, nL_len, ho, decide_eq_true hk, Bool.true_and, nL_en (by omega)]
   by_cases q : (gn (C.getD j []) k : Int) = (s : Int)
   ·rw [brn_et q]
    have : ((gn (C.getD j []) k : Int) == (s : Int)) = true := by simpa using q
    rw [this, Bool.true_or, if_pos rfl]; simp
   ·rw [brn_ef q]
    have : ((gn (C.getD j []) k : Int) == (s : Int)) = false := by simpa using q
    rw [this, Bool.false_or]
  ·rw [toNatN, brn_df (by omega), List.drop_eq_nil_of_le (by rw [List.length_take]; omega)]; rfl
theorem m16t (N : Nat) : m16 N = some (.bool true) := rfl
theorem rw_L2 (N n w : Nat) (hN : 5000 ≤ N) (hn : n ≤ 5) (hw : w ≤ n) (C : List (List Nat)) (hC : ∀ o ∈ C, o.length = w) (hC5 : C.length ≤ 5) (hs : ∀ o ∈ C, ∀ s ∈ o, s < n) (x : Int) (z y1 y2 y3 : Int) (l1 : Nat) (c1 : List PV) (h45 : m45 N (n : Int) (.lst false C.length (rwsP (C.map nL))) = some (.tup [.int .i64 y1, .int .i64 y2])) (h47 : m47 N (n : Int) (.lst false C.length (rwsP (C.map nL))) = some (.tup [.lst false l1 c1, .int .i64 y3]))
  (hy : z ≠ 0 → y2 = z ∧ y3 = z) (i : Nat) (hi : i < C.length) : ∀ (f k fuel : Nat), w - k = f → f < fuel → k ≤ w → (dayE n ((C.map nL).take i) (nL (C.getD i [])) f k ≠ 0 → z = dayE n ((C.map nL).take i) (nL (C.getD i [])) f k) →
  m14_L2 N x (n : Int) C.length (rwsP (C.map nL)) z (i : Int) w (iL (nL (C.getD i []))) fuel (k : Int) = some (if dayE n ((C.map nL).take i) (nL (C.getD i [])) f k = 0 then .inr () else .inl (.bool true))
 | f, k, 0, _, hf, _, _ => by omega
 | 0, k, fuel + 1, hf, _, hk, _ => by
  rw [m14_L2, brn_df (by omega)]; rfl
 | f + 1, k, fuel + 1, hf, hfu, hk, hz => by
  have ih := rw_L2 N n w hN hn hw C hC hC5 hs x z y1 y2 y3 l1 c1 h45 h47 hy i hi f (k + 1) fuel (by omega) (by omega) (by omega)
  obtain ⟨ho, e1⟩ := any_rows hC hi
  have hg : gn (C.getD i []) k < n := hs (C.getD i []) (by simp [List.getD, hi]) _ (gn_mem (by omega))
  have hen : en (nL (C.getD i [])) k = (gn (C.getD i []) k : Int) := nL_en (by omega)
  have h3 := rw_L3 N w C hC hC5 x (n : Int) z i (by omega) w (iL (nL (C.getD i []))) k (by omega) (gn (C.getD i []) k) i 0 N 0 (by omega) (by omega) (by omega)
  rw [List.drop_zero] at h3
  have hct := cont_ok N (by omega) (gn (C.getD i []) k : Int) ((nL (C.getD i [])).take k) (by rw [List.length_take, nL_len]; omega)
  unfold rwP at hct
  rw [← iL_take, List.length_take, nL_len, ho, Nat.min_eq_left (by omega)] at hct
  have hd : dayE n ((C.map nL).take i) (nL (C.getD i [])) (f + 1) k = if ((gn (C.getD i []) k : Nat) : Int) ∈ (nL (C.getD i [])).take k then 6 else if metB ((C.map nL).take i) k (gn (C.getD i []) k : Nat) = true then 13 else dayE n ((C.map nL).take i) (nL (C.getD i [])) f (k + 1) := by
   rw [dayE, hen, if_neg (by omega), if_neg (by omega)]; rfl
  rw [hd] at hz ⊢
  rw [m14_L2, brn_dt (by omega), grd_t ⟨by omega, by omega⟩, toNatN, grd_t (by rw [List.length_drop, iL_len, nL_len]; omega), iL_gp (by rw [nL_len]; omega), getI_t, hen, grd_t (by omega), grd_t (by rw [rws_len]; simp)]
  rw [show m14_L3 N x (n : Int) C.length (rwsP (C.map nL)) z (i : Int) w (iL (nL (C.getD i []))) (k : Int) ((gn (C.getD i []) k : Nat) : Int) N 0 0 = _ from h3, bnd_t, grd_t (by omega), grd_t (by rw [iL_len, nL_len]; exact ho), hct, bnd_t, getB_t]
  by_cases q1 : (gn (C.getD i []) k : Int) ∈ (nL (C.getD i [])).take k
  ·rw [if_pos q1] at hz ⊢
   obtain rfl := hz (by omega)
   obtain ⟨rfl, rfl⟩ := hy (by omega)
   rw [brn_dt q1, h45, bnd_t, getT2_t, getI_t, getI_t, h47, bnd_t, getT2_t, getL_t, getI_t, brn_et rfl, brn_et rfl, brn_et rfl, m16t, bnd_t, getB_t]; rfl
  ·rw [if_neg q1] at hz ⊢
   rw [brn_df q1]
   cases q2 : metB ((C.map nL).take i) k (gn (C.getD i []) k : Nat) with
   | true =>
    rw [q2, if_pos rfl] at hz
    obtain rfl := hz (by omega)
    obtain ⟨rfl, rfl⟩ := hy (by omega)
    rw [if_pos rfl, if_pos rfl, brn_nt (by omega), h45, bnd_t, getT2_t, getI_t, getI_t, h47, bnd_t, getT2_t, getL_t, getI_t, brn_et rfl, brn_et rfl, brn_et rfl, m16t, bnd_t, getB_t]; rfl
   | false =>
    rw [q2, if_neg (by simp)] at hz
    simp only [Bool.false_eq_true, if_false]
    rw [brn_nf rfl, wrapN (by omega)]
    exact ih hz
theorem rw_L1 (N n w : Nat) (hN : 5000 ≤ N) (hn : n ≤ 5) (hw : w ≤ n) (C : List (List Nat)) (hC : ∀ o ∈ C, o.length = w) (hC5 : C.length ≤ 5) (hs : ∀ o ∈ C, ∀ s ∈ o, s < n) (x : Int) (z y1 y2 y3 : Int) (l1 : Nat) (c1 : List PV) (h45 : m45 N (n : Int) (.lst false C.length (rwsP (C.map nL))) = some (.tup [.int .i64 y1, .int .i64 y2])) (h47 : m47 N (n : Int) (.lst false C.length (rwsP (C.map nL))) = some (.tup [.lst false l1 c1, .int .i64 y3]))
  (hy : z ≠ 0 → y2 = z ∧ y3 = z) : ∀ (f i fuel : Nat), C.length - i = f → f < fuel → i ≤ C.length → (rowE n w (C.map nL) f i ≠ 0 → z = rowE n w (C.map nL) f i) →
  m14_L1 N x (n : Int) C.length (rwsP (C.map nL)) z fuel (i : Int) = some (if rowE n w (C.map nL) f i = 0 then .inr () else .inl (.bool true))
 | f, i, 0, _, hf, _, _ => by omega
 | 0, i, fuel + 1, hf, _, hi, _ => by
  rw [m14_L1, brn_df (by omega)]; rfl
 | f + 1, i, fuel + 1, hf, hfu, hi, hz => by
  have ih := rw_L1 N n w hN hn hw C hC hC5 hs x z y1 y2 y3 l1 c1 h45 h47 hy f (i + 1) fuel (by omega) (by omega) (by omega)
  have hlc : (C.map nL).length = C.length := by simp
  obtain ⟨ho, e1⟩ := any_rows hC (show i < C.length by omega)
  have hd : rowE n w (C.map nL) (f + 1) i = if dayE n ((C.map nL).take i) (nL (C.getD i [])) w 0 ≠ 0 then dayE n ((C.map nL).take i) (nL (C.getD i [])) w 0 else rowE n w (C.map nL) f (i + 1) := by
   rw [rowE, e1, nL_len, ho, if_neg (by simp), if_neg (by omega)]
  rw [hd] at hz ⊢
  rw [m14_L1, brn_dt (by omega), grd_t ⟨by omega, by omega⟩, toNatN, grd_t (by rw [List.length_drop, rws_len, hlc]; omega), rws_gp (by omega), getL_t, e1, nL_len, ho]
  by_cases q : dayE n ((C.map nL).take i) (nL (C.getD i [])) w 0 = 0
  ·have h2 := rw_L2 N n w hN hn hw C hC hC5 hs x z y1 y2 y3 l1 c1 h45 h47 hy i (by omega) w 0 N (by omega) (by omega) (by omega) (fun hh => absurd q hh)
   have hd2 : (if dayE n ((C.map nL).take i) (nL (C.getD i [])) w 0 ≠ 0 then dayE n ((C.map nL).take i) (nL (C.getD i [])) w 0 else rowE n w (C.map nL) f (i + 1)) = rowE n w (C.map nL) f (i + 1) := if_neg (fun hh => hh q)
   rw [hd2] at hz ⊢
   rw [show m14_L2 N x (n : Int) C.length (rwsP (C.map nL)) z (i : Int) w (iL (nL (C.getD i []))) N 0 = _ from h2, bnd_t, if_pos q]
   dsimp only
   rw [wrapN (by omega)]
   exact ih hz
  ·rw [if_pos q] at hz ⊢
   have h2 := rw_L2 N n w hN hn hw C hC hC5 hs x z y1 y2 y3 l1 c1 h45 h47 hy i (by omega) w 0 N (by omega) (by omega) (by omega) hz
   rw [show m14_L2 N x (n : Int) C.length (rwsP (C.map nL)) z (i : Int) w (iL (nL (C.getD i []))) N 0 = _ from h2, bnd_t, if_neg q]
theorem rw_L5 (N n w : Nat) (hN : 5000 ≤ N) (C : List (List Nat)) (hC : ∀ o ∈ C, o.length = w) (hw5 : w ≤ 5) (hC5 : C.length ≤ 5) (x y z b : Int) (s : Nat) : ∀ (f i fuel v : Nat), C.length - i = f → f < fuel → i ≤ C.length → v ≤ i →
  m14_L5 N x y C.length (rwsP (C.map nL)) z b (s : Int) fuel (v : Int) (i : Int) = some ((v + ((C.drop i).filter fun r => decide (s ∈ r)).length : Nat) : Int)
 | f, i, 0, _, _, hf, _, _ => by omega
 | f, i, fuel + 1, v, hf, hfu, hi, hv => by
  rw [m14_L5]
  by_cases h : i < C.length
  ·have hlc : (C.map nL).length = C.length := by simp
   obtain ⟨ho, e1⟩ := any_rows hC h
   have ed : C.drop i = C.getD i [] :: C.drop (i + 1) := by rw [List.drop_eq_getElem_cons h]; simp [List.getD, h]
   have hct := cont_ok N (by omega) (s : Int) (nL (C.getD i [])) (by rw [nL_len]; omega)
   unfold rwP at hct
   rw [nL_len, ho, nL_mem] at hct
   rw [brn_dt (by omega), grd_t ⟨by omega, by omega⟩, toNatN, grd_t (by rw [List.length_drop, rws_len, hlc]; omega), rws_gp (by omega), getL_t, e1, nL_len, ho, hct, bnd_t, getB_t, wrapN (by omega), wrapN (by omega), ed, List.filter_cons]
   by_cases q : s ∈ C.getD i []
   ·rw [brn_dt q, if_pos (decide_eq_true q), List.length_cons, rw_L5 N n w hN C hC hw5 hC5 x y z b s (f - 1) (i + 1) fuel (v + 1) (by omega) (by omega) (by omega) (by omega)]
    congr 2; omega
   ·rw [brn_df q, if_neg (by simpa using q), rw_L5 N n w hN C hC hw5 hC5 x y z b s (f - 1) (i + 1) fuel v (by omega) (by omega) (by omega) (by omega)]
  ·rw [brn_df (by omega), List.drop_eq_nil_of_le (by omega)]; simp
theorem bar_ct {n w : Nat} (hw : w ≤ n) {C : List (List Nat)} (hC : ∀ o ∈ C, o.length = w) (s : Nat) : barB n (C.map nL) s = decide (ctN C s + n < C.length + w) := by
 have hc : cntS (C.map nL) s = ctN C s := by
  unfold cntS ctN
  rw [List.filter_map, List.length_map]
  congr 1
  exact filter_congr' fun x _ => nL_mem
 unfold barB
 rw [hc, List.length_map, decide_eq_decide]
 cases C with
 | nil =>
  have : widE (([] : List (List Nat)).map nL) = 0 := rfl
  rw [this]; simp only [List.length_nil]; omega
 | cons l Q =>
  have : widE ((l :: Q).map nL) = w := by
   show (nL l).length = w
   rw [nL_len]; exact hC l (.head _)
  rw [this]; omega
def hdE (l : List Nat) (b : Int) : Int := match l with | [] => b | s :: _ => (s : Int)
theorem rw_L4 (N n w wd : Nat) (hN : 5000 ≤ N) (hn1 : 1 ≤ n) (hn : n ≤ 4) (hwd : wd < 256) (hw : wd % (n + 1) = w) (C : List (List Nat)) (hC : ∀ o ∈ C, o.length = w) (hCn : C.length ≤ n) (hz : corE n (C.map nL) = 0) : ∀ (t fuel : Nat) (b : Int), t < fuel → t ≤ n →
  m14_L4 N (wd : Int) (n : Int) C.length (rwsP (C.map nL)) 0 fuel b ((t : Int) - 1) = some (.inr (hdE ((List.range t).filter (barB n (C.map nL))) b))
 | t, 0, _, hf, _ => by omega
 | 0, fuel + 1, b, _, _ => by
  rw [m14_L4, brn_df (by omega)]; rfl
 | t + 1, fuel + 1, b, hf, ht => by
  have hwn : w ≤ n := by have := Nat.mod_lt wd (show 0 < n + 1 by omega); omega
  have ew : Int.tmod (IntKind.i64.wrap (wd : Int)) (IntKind.i64.wrap ((n : Int) + 1)) = (w : Int) := by rw [wr9 n (by omega) wd hwd, hw]
  have ih := fun b => rw_L4 N n w wd hN hn1 hn hwd hw C hC hCn hz t fuel b (by omega) (by omega)
  have hlc : (C.map nL).length = C.length := by simp
  have h5 := rw_L5 N n w hN C hC (by omega) (by omega) (wd : Int) (n : Int) 0 b t C.length 0 N 0 (by omega) (by omega) (by omega) (by omega)
  rw [List.drop_zero, Nat.zero_add] at h5
  have hp := proves_ok N (by omega) (n : Int) (C.map nL) (by omega) (fun r hr => by
   obtain ⟨o, ho, rfl⟩ := List.mem_map.1 hr
   rw [nL_len, hC o ho]; omega) (t : Int)
  rw [hlc] at hp
  unfold prvE at hp
  rw [if_neg (show ¬ corE n (C.map nL) ≠ 0 by simpa using hz), if_neg (by omega), toNatN, toNatN] at hp
  have e1 : (((t + 1 : Nat) : Int) - 1) = (t : Int) := by omega
  have ec : IntKind.i64.wrap (IntKind.i64.wrap ((C.length : Int) + (w : Int)) - (n : Int)) = (C.length : Int) + (w : Int) - (n : Int) := by
   rw [show (C.length : Int) + (w : Int) = ((C.length + w : Nat) : Int) by omega, wrapS' (by omega), wrapD (by omega) (by omega)]
  have ed : IntKind.i64.wrap ((t : Int) - 1) = (t : Int) - 1 := by
   have := wrapD (a := t) (b := 1) (by omega) (by omega)
   exact this
  rw [m14_L4, e1, brn_dt (by omega), show m14_L5 N (wd : Int) (n : Int) C.length (rwsP (C.map nL)) 0 b (t : Int) N 0 0 = _ from h5, bnd_t, ew, ec, ed, List.range_succ, List.filter_append]
  rw [bar_ct hwn hC] at hp
  have et : ((C.filter fun r => decide (t ∈ r)).length : Nat) = ctN C t := rfl
  rw [et]
  by_cases q : ctN C t + n < C.length + w
  ·have hcl : 0 < C.length := by omega
   rw [decide_eq_true q, if_pos rfl] at hp
   rw [brn_dt (by omega), brn_dt (by omega), hp, bnd_t, getI_t, brn_nf rfl, ih]
   have : ([t].filter (barB n (C.map nL))) = [t] := by simp [bar_ct hwn hC, q]
   rw [this]
   cases (List.range t).filter (barB n (C.map nL)) <;> rfl
  ·rw [decide_eq_false q, if_neg (by simp)] at hp
   rw [brn_df (by omega), hp, bnd_t, getI_t, brn_nf rfl, ih]
   have : ([t].filter (barB n (C.map nL))) = [] := by simp [bar_ct hwn hC]; omega
   rw [this, List.append_nil]
theorem take_ext {n f : Nat} {l x : List Nat} (h : x ∈ ext n f l) : x.take l.length = l := by
 obtain ⟨h1, h2⟩ := ext_get h
 refine List.ext_getElem (by rw [List.length_take]; omega) fun d d1 d2 => ?_
 have := h2 d d2
 rw [List.getElem_take]
 have d3 : d < x.length := by omega
 simpa [gn, List.getD, d2, d3] using this
theorem fil_cut {n w : Nat} : ∀ (C B0 B : List (List Nat)), (∀ l ∈ C, l.length = w) → fil n C B0 = some B → ∃ E, B = B0 ++ E ∧ cutC w E = C
 | [], B0, B, _, h => ⟨[], by rw [fil] at h; simpa using (Option.some.inj h).symm, rfl⟩
 | l :: Q, B0, B, hl, h => by
  rw [fil] at h
  obtain ⟨x, hx, hf⟩ := List.exists_of_findSome?_eq_some h
  obtain ⟨E, e1, e2⟩ := fil_cut Q (B0 ++ [x]) B (fun o ho => hl o (.tail _ ho)) hf
  have ht := take_ext (List.mem_filter.1 hx).1
  rw [hl l (.head _)] at ht
  refine ⟨x :: E, by rw [e1]; simp, ?_⟩
  unfold cutC at e2 ⊢
  rw [List.map_cons, e2, ht]
theorem gre_take (n : Nat) : ∀ (m : Nat) (X : List (List Nat)), (gre n m X).take X.length = X
 | 0, X => by simp [gre]
 | m + 1, X => by
  rw [gre]
  have h := gre_take n m (X ++ [(fitn n (X.map nL)).headD []])
  have := congrArg (List.take X.length) h
  rw [List.take_take, List.length_append, Nat.min_eq_left (by omega)] at this
  rw [this]; simp
theorem crn_all (N n w wd s0 s1 : Nat) (hn1 : 1 ≤ n) (hn : n ≤ 4) (hwd : wd < 256) (hw : wd % (n + 1) = w) (h0 : s0 < 256) (h1 : s1 < 256) (X : List (List Nat)) (hX : X.length ≤ 4) (hr : ∀ x ∈ X, x.length = n ∧ ∀ s ∈ x, s < n) : Crn N n w wd s0 s1 X := by
 match X, hX, hr with
 | [], _, _ => exact crn_0 N n w wd s0 s1
 | [a], _, hr => exact crn_1 N n w wd s0 s1 hn1 hn hwd hw h0 h1 a (hr a (by simp)).1 (hr a (by simp)).2
 | [a, b], _, hr => exact crn_2 N n w wd s0 s1 hn1 hn hwd hw h0 h1 a b (hr a (by simp)).1 (hr b (by simp)).1 (hr a (by simp)).2 (hr b (by simp)).2
 | [a, b, c], _, hr => exact crn_3 N n w wd s0 s1 hn1 hn hwd hw h0 h1 a b c (hr a (by simp)).1 (hr b (by simp)).1 (hr c (by simp)).1 (hr a (by simp)).2 (hr b (by simp)).2 (hr c (by simp)).2
 | [a, b, c, d], _, hr => exact crn_4 N n w wd s0 s1 hn1 hn hwd hw h0 h1 a b c d (hr a (by simp)).1 (hr b (by simp)).1 (hr c (by simp)).1 (hr d (by simp)).1 (hr a (by simp)).2 (hr b (by simp)).2 (hr c (by simp)).2 (hr d (by simp)).2
 | _ :: _ :: _ :: _ :: _ :: _, h, _ => simp at h
theorem law14 (a b c0 c1 c2 c3 c4 wd s0 s1 : Nat) (ha : a < 256) (hb : b < 256) (g0 : c0 < 256) (g1 : c1 < 256) (g2 : c2 < 256) (g3 : c3 < 256) (g4 : c4 < 256) (hwd : wd < 256) (h0 : s0 < 256) (h1 : s1 < 256) :
  m14 5000 (.agg [.int .u8 (a : Int), .int .u8 (b : Int), .int .u8 (c0 : Int), .int .u8 (c1 : Int), .int .u8 (c2 : Int), .int .u8 (c3 : Int), .int .u8 (c4 : Int)]) (wd : Int) (.agg [.int .u8 (s0 : Int), .int .u8 (s1 : Int)]) = some (.bool true) := by
 obtain ⟨n, X, D, n1, n4, hV, hX, e37⟩ := made4_ok 5000 (by omega) a b c0 c1 c2 c3 c4 ha hb g0 g1 g2 g3 g4
 have hwn : wd % (n + 1) ≤ n := by have := Nat.mod_lt wd (show 0 < n + 1 by omega); omega
 obtain ⟨C, hCl, hCr, e0⟩ := crn_all 5000 n (wd % (n + 1)) wd s0 s1 n1 n4 hwd rfl h0 h1 X (by omega) (fun x hx => by
  have he := vp_mem hV x hx
  exact ⟨by simpa using (ext_get he).1, ext_lt (by simp) he⟩)
 generalize hw : wd % (n + 1) = w at hwn hCr
 have hC : ∀ o ∈ C, o.length = w := fun o ho => (hCr o ho).1
 have hs : ∀ o ∈ C, ∀ s ∈ o, s < n := fun o ho => (hCr o ho).2
 have hlc : (C.map nL).length = C.length := List.length_map ..
 have hr : ∀ r ∈ C.map nL, r.length ≤ 1000 := fun r hr => by
  obtain ⟨o, ho, rfl⟩ := List.mem_map.1 hr
  rw [nL_len, hC o ho]; omega
 have e49 := corner1_ok 5000 (by omega) (n : Int) (C.map nL) (by omega) hr
 have e45 := why_ok 5000 (by omega) (n : Int) (C.map nL) (by omega) hr
 have e47 := fill_ok 5000 (by omega) (n : Int) (C.map nL) (by omega) hr
 rw [hlc] at e49 e45 e47
 have ez : rowE n w (C.map nL) C.length 0 = corE n (C.map nL) := by
  unfold corE chkE
  rw [if_neg (by omega), if_neg (by omega), if_neg (by rw [hlc]; omega), hlc]
  cases C with
  | nil => rfl
  | cons l Q =>
   have : widE ((l :: Q).map nL) = w := by
    show (nL l).length = w
    rw [nL_len]; exact hC l (.head _)
   rw [this]
 have hy : corE n (C.map nL) ≠ 0 → (whyE n (C.map nL)).2 = corE n (C.map nL) ∧ (filE n (C.map nL)).2 = corE n (C.map nL) := fun hh => by
  unfold whyE filE
  rw [if_pos hh, if_pos hh]; exact ⟨rfl, rfl⟩
 have eL1 := rw_L1 5000 n w (by omega) (by omega) hwn C hC (by omega) hs (wd : Int) (corE n (C.map nL)) _ _ _ _ _ e45 e47 hy C.length 0 5000 (by omega) (by omega) (by omega) (fun _ => ez.symm)
 rw [ez] at eL1
 rw [m14, getA7_t, show ∀ (p q : PV) (k : PV → PV → Option PV), getA2 (.agg [p, q]) k = k p q from fun _ _ _ => rfl, e37, bnd_t, getT2_t, getI_t, getL_t, grd_t (by rw [wrapN (by omega)]; omega), e0, bnd_t, getL_t, e49, bnd_t, getI_t, show m14_L1 5000 (wd : Int) (n : Int) C.length (rwsP (C.map nL)) (corE n (C.map nL)) 5000 0 = _ from eL1, bnd_t]
 by_cases hz : corE n (C.map nL) = 0
 ·rw [if_pos hz]
  dsimp only
  have eL4 := rw_L4 5000 n w wd (by omega) n1 n4 hwd hw C hC (by omega) hz n 5000 (-1) (by omega) (by omega)
  have ew : Int.tmod (IntKind.i64.wrap (wd : Int)) (IntKind.i64.wrap ((n : Int) + 1)) = (w : Int) := by rw [wr9 n (by omega) wd hwd, hw]
  have ed : IntKind.i64.wrap ((n : Int) - 1) = (n : Int) - 1 := wrapD (a := n) (b := 1) (by omega) (by omega)
  obtain ⟨k1, k2⟩ := cok_of hz
  rw [toC_nL] at k2
  have hcok : Cok n w C := by
   cases hCC : C with
   | nil => exact ⟨(fun _ h => nomatch h), .nil⟩
   | cons l Q =>
    rw [hCC] at k2
    have : widE ((l :: Q).map nL) = w := by
     show (nL l).length = w
     rw [nL_len]; exact hC l (by rw [hCC]; exact .head _)
    rw [this] at k2; exact k2
  have e58 := sb_ok 5000 n w (by omega) n1 n4 hwn C (by omega) hC hcok
  have hbars : (List.range n).filter (barB n (C.map nL)) = bars n (C.map nL) := rfl
  have hbr : brN n w C = true ↔ bars n (C.map nL) ≠ [] := by
   unfold brN bars
   rw [List.any_eq_true]
   constructor
   ·rintro ⟨s, s1, s2⟩ he
    have : s ∈ (List.range n).filter (barB n (C.map nL)) := List.mem_filter.2 ⟨s1, by rw [bar_ct hwn hC]; exact s2⟩
    rw [he] at this; cases this
   ·intro hne
    obtain ⟨s, hs'⟩ := List.exists_mem_of_ne_nil _ hne
    obtain ⟨s1, s2⟩ := List.mem_filter.1 hs'
    exact ⟨s, s1, by rw [bar_ct hwn hC] at s2; exact s2⟩
  have efil : filE n (C.map nL) = match fil n C [] with | none => ([], 12) | some B => ((gre n (n - C.length) B).map nL, 0) := by
   unfold filE
   rw [if_neg (show ¬ corE n (C.map nL) ≠ 0 by simpa using hz), toNatN, toC_nL, hlc]; rfl
  have ewhy : whyE n (C.map nL) = match bars n (C.map nL) with | [] => (0, 13) | s :: _ => ((s : Int), 0) := by
   unfold whyE
   rw [if_neg (show ¬ corE n (C.map nL) ≠ 0 by simpa using hz), toNatN]; rfl
  rw [hz, ed, eL4, bnd_t]
  dsimp only
  rw [ew, e58, bnd_t]
  rw [efil] at e47
  rw [ewhy] at e45
  rw [hbars]
  cases hf : fil n C [] with
  | none =>
   rw [hf] at e47
   have hne : bars n (C.map nL) ≠ [] := fun he => by
    have : brN n w C = false := by
     cases hbb : brN n w C with
     | false => rfl
     | true => exact absurd he (hbr.1 hbb)
    have := ryser n1 n4 hwn hcok (by omega) this
    rw [hf] at this; cases this
   cases hbs : bars n (C.map nL) with
   | nil => exact absurd hbs hne
   | cons s l =>
    rw [hbs] at e45
    dsimp only at e45 e47
    unfold ansP
    dsimp only
    rw [getB_t, e45, bnd_t, getT2_t, getI_t, getI_t, e47, bnd_t, getT2_t, getL_t, getI_t, brn_nf rfl]
    unfold hdE
    dsimp only
    rw [brn_f (by simp), brn_f rfl, brn_et rfl, brn_et rfl, brn_et rfl, brn_et (by simp), m16t, bnd_t, getB_t]
  | some B =>
   rw [hf] at e47
   obtain ⟨E, q1, q2⟩ := fil_cut C [] B hC hf
   rw [List.nil_append] at q1
   subst q1
   obtain ⟨T, eT, hT⟩ := cornered_ok 5000 (by omega) n (C.map nL) (by omega) hr
   have hrc := (hT hz []).rc (by omega)
   have hmul : (n - 0) * (n + 1) ≤ 5 * 6 := Nat.mul_le_mul (by omega) (by omega)
   have hsr := srch (n := n) (w := w) n1 (by omega) hwn C [] _ T .nil (by simp; omega) hcok (fun l _ d _ => by simp [metB]) hrc 100 (by simp only [List.length_nil]; omega)
   rw [hf] at hsr
   obtain ⟨D', v1, v2, _⟩ := hsr
   rw [List.length_nil, Nat.zero_add] at v2
   have hb0 : bars n (C.map nL) = [] := by
    have := cut_bars (by omega) hwn v1.pl
    rw [q2] at this; exact this
   rw [hb0] at e45 ⊢
   dsimp only at e45 e47
   obtain ⟨D2, hg⟩ := gre_vp n1 (by omega) (n - C.length) v1 (by omega)
   have hgl : ((gre n (n - C.length) B).map nL).length = n := by rw [List.length_map, gre_len]; omega
   have e40 := planned_ok 5000 (by omega) n (by omega) ((gre n (n - C.length) B).map nL) (by omega) (fun j hj => vp_rows (by omega) hg j (by simpa using hj))
   have hBl : (B.map nL).length = B.length := List.length_map ..
   have e21 := lsame_ok 5000 (by omega) (B.map nL) (by omega) (fun r hr => by rw [vp_len v1 r hr]; omega)
   rw [hgl] at e40 e47
   have htk : (rwsP ((gre n (n - C.length) B).map nL)).take C.length = rwsP (B.map nL) := by
    rw [rws_take, ← List.map_take, ← v2, gre_take]
   rw [hBl, v2] at e21
   unfold ansP
   dsimp only
   rw [getB_t, e45, bnd_t, getT2_t, getI_t, getI_t, e47, bnd_t, getT2_t, getL_t, getI_t, brn_nf rfl]
   unfold hdE
   dsimp only
   rw [brn_f (by simp), brn_t rfl, brn_et rfl, brn_et rfl, e40, bnd_t, getB_t, brn_t rfl, brn_et rfl, grd_t ⟨by omega, by omega⟩, grd_t (by rw [rws_len]; exact hgl), getL_t, htk, v2, e21, bnd_t, getB_t, brn_t rfl, m16t, bnd_t, getB_t]
 ·rw [if_neg hz]
end Go.Proofs.YtcaecfofgdogbaaDoor
namespace Go.Proofs.YtcaecfofgdogbaaDoor
open Go.V
theorem oct_of {x : List PV} (h : PT tab 5 x) : ∃ n : Nat, n < 256 ∧ x = [.int .u8 (n : Int)] := by
 obtain ⟨a, e, h1, h2⟩ := h.int' tl5 rfl
 have h1' : (0 : Int) ≤ a := h1
 have h2' : a ≤ 255 := h2
 exact ⟨a.toNat, by omega, by rw [e]; congr 2; omega⟩
theorem rota_of {qs : List PV} (h : PT tab 40 qs) : ∃ a b c0 c1 c2 c3 c4 : Nat, (a < 256 ∧ b < 256 ∧ c0 < 256 ∧ c1 < 256 ∧ c2 < 256 ∧ c3 < 256 ∧ c4 < 256) ∧ qs = [.int .u8 (a : Int), .int .u8 (b : Int), .int .u8 (c0 : Int), .int .u8 (c1 : Int), .int .u8 (c2 : Int), .int .u8 (c3 : Int), .int .u8 (c4 : Int)] := by
 obtain ⟨x, rs, rfl, hx, h⟩ := (h.structs tl40 rfl).cons'
 obtain ⟨y, rs, rfl, hy, h⟩ := h.cons'
 obtain ⟨z, rs, rfl, hz, h⟩ := h.cons'
 obtain rfl := h.nil'
 obtain ⟨a, ha, rfl⟩ := oct_of hx
 obtain ⟨b, hb, rfl⟩ := oct_of hy
 obtain ⟨xs, rfl, hl, hxs⟩ := hz.arr' tl38 rfl
 match xs, hl with
 | [p, q, r, s, t], _ =>
  obtain ⟨c0, h0, rfl⟩ := oct_of (hxs p (by simp))
  obtain ⟨c1, h1, rfl⟩ := oct_of (hxs q (by simp))
  obtain ⟨c2, h2, rfl⟩ := oct_of (hxs r (by simp))
  obtain ⟨c3, h3, rfl⟩ := oct_of (hxs s (by simp))
  obtain ⟨c4, h4, rfl⟩ := oct_of (hxs t (by simp))
  exact ⟨a, b, c0, c1, c2, c3, c4, ⟨ha, hb, h0, h1, h2, h3, h4⟩, rfl⟩
theorem two_of {x : List PV} (h : PT tab 55 x) : ∃ a b : Nat, a < 256 ∧ b < 256 ∧ x = [.int .u8 (a : Int), .int .u8 (b : Int)] := by
 obtain ⟨xs, rfl, hl, hxs⟩ := h.arr' tl55 rfl
 match xs, hl with
 | [p, q], _ =>
  obtain ⟨c0, h0, rfl⟩ := oct_of (hxs p (by simp))
  obtain ⟨c1, h1, rfl⟩ := oct_of (hxs q (by simp))
  exact ⟨c0, c1, h0, h1, rfl⟩
theorem con14 (x0 : List PV) (hx : PT tab 40 x0) (x1 : PV) (hw : PT tab 5 [x1]) (x2 : List PV) (hz : PT tab 55 x2) : FnP Tryd.prog 14 [.agg x0, x1, .agg x2] (.bool true) := by
 obtain ⟨a, b, c0, c1, c2, c3, c4, ⟨ha, hb, h0, h1, h2, h3, h4⟩, rfl⟩ := rota_of hx
 obtain ⟨s0, s1, g0, g1, rfl⟩ := two_of hz
 obtain ⟨w, hwd, e⟩ := oct_of hw
 cases e
 exact FnP_le (c14 5000 _ _ _ _ (law14 a b c0 c1 c2 c3 c4 w s0 s1 ha hb h0 h1 h2 h3 h4 hwd g0 g1)) (.cons _ _ _ _ (.refl _) (.cons _ _ _ _ (.refl _) (.cons _ _ _ _ (.refl _) .nil))) (.refl _)
end Go.Proofs.YtcaecfofgdogbaaDoor
namespace Go.Proofs.YtcaecfofgdogbaaDoor.weekRyser
open Go.ChangeShapes Go.WideShapes Go.ChangeAt Go.RowKit Go.V
theorem own : ownKnob Tryd.prog.godebug = none := by kernel_rfl
theorem laid : laidOutB Tryd.prog = true := by kernel_rfl
set_option maxRecDepth 100000 in
theorem lifted (os : Os) (started : os.Started) (H : Type) (enc : TypeId × Value → H) :
  ReturnsInHanded {} Tryd.checked os 14 .any (fun w args => (Rows.weekRyserSpec.pre enc Tryd.prog Tryd.f14 [] false w args ∧ laidMetH Tryd.prog [("math/bits.deBruijn32tab", Rows.laid_math_bits_deBruijn32tab), ("math/bits.deBruijn64tab", Rows.laid_math_bits_deBruijn64tab)] w) ∧ sizedMet enc Tryd.prog Tryd.f14 (OpenSpec.ofChange Rows.weekRyserSpec) false w args)
   (Rows.weekRyserSpec.post enc Tryd.prog Tryd.f14 false true false false) := by
 refine returnsInHanded_of_change_and (C := Tryd.checked) (X := fun w _ => laidMetH Tryd.prog [("math/bits.deBruijn32tab", Rows.laid_math_bits_deBruijn32tab), ("math/bits.deBruijn64tab", Rows.laid_math_bits_deBruijn64tab)] w) (fun _ _ _ hh h => h.of_heap hh) own started (by kernel_rfl) Tryd.func14
  (ChangeSpec.witness_shaped (enc := enc) (C := Tryd.checked) (os := os) (X := fun w _ => laidMetH Tryd.prog [("math/bits.deBruijn32tab", Rows.laid_math_bits_deBruijn32tab), ("math/bits.deBruijn64tab", Rows.laid_math_bits_deBruijn64tab)] w) false (World.laidAll Tryd.prog os [("math/bits.deBruijn32tab", Rows.laid_math_bits_deBruijn32tab), ("math/bits.deBruijn64tab", Rows.laid_math_bits_deBruijn64tab)]) #[.agg #[.int .u8 0, .int .u8 0, .int .u8 0, .int .u8 0, .int .u8 0, .int .u8 0, .int .u8 0], .int .u8 0, .agg #[.int .u8 0, .int .u8 0]] 8 (World.laidAll_os _ _ _)
   (World.shaped_of_ZipB (by kernel_rfl) (by kernel_rfl)) (by kernel_rfl) (by kernel_rfl) (by kernel_rfl)
   (by rw [MakeChecks.laidMetH_plain _ _ _ (by kernel_rfl)]; exact laidMet_laidAll _ (by kernel_rfl) (by kernel_rfl))) ?_
 intro W base args ds gs before hval0 hW _ _ hL _
 have hW' := hW
 obtain ⟨p, q, hA0, hV, rfl, hfz, hnd⟩ := hW
 have hA : DataW.TrodAll enc Tryd.prog W 0 (fun _ => true) true Tryd.f14.params.toList args.toList ds p := hA0
 rw [Tryd.params14] at hA
 obtain ⟨v0, vs0, d0, ds0, p0, q0, e0, rfl, rfl, h0, hr0⟩ := trodAll_cons hA
 obtain ⟨v1, vs1, d1, ds1, p1, q1, e1, rfl, rfl, h1, hr1⟩ := trodAll_cons hr0
 obtain ⟨v2, vs2, d2, ds2, p2, q2, e2, rfl, rfl, h2, hr2⟩ := trodAll_cons hr1
 obtain ⟨rfl, rfl, rfl⟩ := trodAll_nil hr2
 subst e2
 subst e1
 obtain rfl : args = #[v0, v1, v2] := by cases args; simp_all
 obtain ⟨x0, k0, t0⟩ := arg_agg (n := 8) tab_ok (hval0 0 40 v0 rfl rfl) h0 (by kernel_rfl) (by kernel_rfl)
 obtain ⟨x1, k1, t1⟩ := arg_one (n := 8) tab_ok (hval0 1 5 v1 rfl rfl) h1 (by kernel_rfl) (by kernel_rfl)
 obtain ⟨x2, k2, t2⟩ := arg_agg (n := 8) tab_ok (hval0 2 55 v2 rfl rfl) h2 (by kernel_rfl) (by kernel_rfl)
 obtain ⟨rfl, rfl⟩ := trodVars_none hV
 clear hA0 hval0
 simp only [List.append_nil] at hW'
 refine (FnP.calls (W := W) (vals := #[v0, v1, v2]) (con14 x0 t0 x1 t1 x2 t2) (.cons _ _ _ _ k0 (.cons _ _ _ _ k1 (.cons _ _ _ _ k2 .nil))) (laidG hL)).mono fun e W' ⟨he, hg⟩ => ?_
 subst he
 exact ⟨_, rfl, post_of_kept (pv := []) hW' (fun _ _ _ => trodAll_cons_mk (shut_bool Tryd.underlying4 _) trodAll_mk0) (fun sp hsp => trodAll_cons_mk (Kept.trod hg laid (by kernel_rfl) (of_decide_eq_true (by kernel_rfl)) h0 (fun y hy => hsp y (by simp [hy]))) (trodAll_cons_mk (Kept.trod hg laid (by kernel_rfl) (of_decide_eq_true (by kernel_rfl)) h1 (fun y hy => hsp y (by simp [hy]))) (trodAll_cons_mk (Kept.trod hg laid (by kernel_rfl) (of_decide_eq_true (by kernel_rfl)) h2 (fun y hy => hsp y (by simp [hy]))) (trodAll_mk0)))) (fun _ _ => rfl) (by simp)
  hg (ok_one (by kernel_rfl) rfl (okWide_bool_mk Tryd.underlying4 _))⟩
theorem over : Rows.weekRyserRow.holds Tryd.pinned (OpenSpec.ofChange Rows.weekRyserSpec) :=
 OpenClaim.holds_of_wide 14 Tryd.f14 rfl rfl rfl rfl rfl rfl rfl ⟨rfl, rfl, rfl, rfl, rfl⟩ rfl rfl rfl rfl rfl (by kernel_rfl) Tryd.func14 (by kernel_rfl)
  (of_decide_eq_true (by kernel_rfl)) (by unfold Func.isWrapper; first | (rw [if_pos (by decide +kernel)]; kernel_rfl) | (rw [if_neg (by decide +kernel)]; exact ⟨rfl, rfl⟩))
  (fun os started H enc _ => lifted os started H enc)
theorem card : Rows.WeekRyserCardSaid :=
 Claim7.holds_tied_plain_at .later [] [.data, .data] true (true, "b10945a5c0c6bbe518806a5b2982a3effa3ad2c65afd0553d66b8bf8a483c2f3") true (over) (fun _ h => by cases h) (by kernel_rfl) (fun _ h => by cases h) weekRyser_row_tie rfl ⟨rfl, rfl⟩ (by kernel_rfl) rfl
  (fun f fn hf hfn => by
   obtain rfl : f = 14 := Option.some.inj ((show Tryd.prog.funcNamed "breeze/breezelaw03.WeekRyser" = some 14 by kernel_rfl).symm.trans hf) |>.symm
   obtain rfl : fn = Tryd.f14 := (Option.some.inj (Tryd.func14.symm.trans hfn)).symm
   exact ⟨by kernel_rfl, fun j t ht => by
    rw [Tryd.params14] at ht
    rcases j with _ | _ | _ | j
    ·obtain rfl : t = 40 := by simpa using ht.symm
     exact (show Tryd.prog.wantsStandIn 40 = false by kernel_rfl)
    ·obtain rfl : t = 5 := by simpa using ht.symm
     exact (show Tryd.prog.wantsStandIn 5 = false by kernel_rfl)
    ·obtain rfl : t = 55 := by simpa using ht.symm
     exact (show Tryd.prog.wantsStandIn 55 = false by kernel_rfl)
    ·simp at ht⟩)
  (by kernel_rfl)
end Go.Proofs.YtcaecfofgdogbaaDoor.weekRyser
namespace Go.Proofs.YtcaecfofgdogbaaDoor
theorem weekRyser_holds : Rows.WeekRyserCardSaid := weekRyser.card
#print axioms weekRyser_holds
end Go.Proofs.YtcaecfofgdogbaaDoor
