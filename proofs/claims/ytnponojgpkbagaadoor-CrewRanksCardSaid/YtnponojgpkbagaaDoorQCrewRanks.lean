/-
  Who is joined with whom: ranks of lists of pairs.
  Crews as the functions of the chapter see them: pairs joined one after the other; ranks; checks.
  Crews are checked; lists of kinds; Rank.
  Crews that are made of numbers.
  CrewRanks: what the functions compute answers as the law says.
  CrewRanks: at every argument of its types.
  CrewRanks: the law returns true.
-/
import Derived.Test.YtnponojgpkbagaaDoorQRankB
import Derived.Test.YtnponojgpkbagaaDoorV32
import Derived.Test.YtnponojgpkbagaaDoorRows
import Derived.Test.YtnponojgpkbagaaDoorCards
import Derived.Test.YtnponojgpkbagaaDoorTie
import Derived.Test.YtnponojgpkbagaaDoorB
import Derived.Test.YtnponojgpkbagaaDoorG
import Derived.Test.YtnponojgpkbagaaDoorK
import Derived.Test.YtnponojgpkbagaaDoorV31
import Derived.WalkKit
import Derived.ProofKit
import Derived.OpenShut
import Derived.Lay
import Derived.SevenTiedAt
import Derived.MakeChecks
namespace Go.Crew

def ja (j : List Nat) (s : Nat) : Nat := j.getD s 0
def jnd (j : List Nat) (p : Nat × Nat) : Bool := ja j p.1 == ja j p.2
def lo (j : List Nat) (p : Nat × Nat) : Nat := min (ja j p.1) (ja j p.2)
def hi (j : List Nat) (p : Nat × Nat) : Nat := max (ja j p.1) (ja j p.2)
def wth (j : List Nat) (p : Nat × Nat) : List Nat := j.map fun x => if x = hi j p then lo j p else x
/-- pairs are joined one after the other -/
def runJ : List Nat → List (Nat × Nat) → List Nat
  | j, [] => j
  | j, p :: l => if jnd j p then runJ j l else runJ (wth j p) l
def cntJ : List Nat → List (Nat × Nat) → Nat
  | _, [] => 0
  | j, p :: l => if jnd j p then cntJ j l else cntJ (wth j p) l + 1
def apt : List Nat := List.range 5
def rk (L : List (Nat × Nat)) : Nat := cntJ apt L

theorem cntJ_app : ∀ (L M : List (Nat × Nat)) (j : List Nat), cntJ j (L ++ M) = cntJ j L + cntJ (runJ j L) M
  | [], M, j => by simp [cntJ, runJ]
  | p :: L, M, j => by
    simp only [List.cons_append, cntJ, runJ]
    split
    · exact cntJ_app L M j
    · rw [cntJ_app L M]; omega
theorem cntJ_le : ∀ (L : List (Nat × Nat)) (j : List Nat), cntJ j L ≤ L.length
  | [], _ => by simp [cntJ]
  | p :: L, j => by
    simp only [cntJ, List.length_cons]
    split
    · have := cntJ_le L j; omega
    · have := cntJ_le L (wth j p); omega

structure Can (j : List Nat) : Prop where
  len : j.length = 5
  le : ∀ s, s < 5 → ja j s ≤ s
  id : ∀ s, s < 5 → ja j (ja j s) = ja j s
theorem wth_at {j : List Nat} (h : j.length = 5) (p : Nat × Nat) {s : Nat} (hs : s < 5) : ja (wth j p) s = if ja j s = hi j p then lo j p else ja j s := by
  simp [ja, wth, List.getD, h, hs]
theorem can_apt : Can apt := ⟨by decide, by decide, by decide⟩
def Ok (L : List (Nat × Nat)) : Prop := ∀ p ∈ L, p.1 < 5 ∧ p.2 < 5
theorem lo_le {j : List Nat} {p : Nat × Nat} : lo j p ≤ hi j p := by unfold lo hi; omega
theorem lo_or {j : List Nat} {p : Nat × Nat} : lo j p = ja j p.1 ∨ lo j p = ja j p.2 := by unfold lo; omega
theorem hi_or {j : List Nat} {p : Nat × Nat} : hi j p = ja j p.1 ∨ hi j p = ja j p.2 := by unfold hi; omega
theorem can_wth {j : List Nat} (h : Can j) {p : Nat × Nat} (hp : p.1 < 5 ∧ p.2 < 5) : Can (wth j p) := by
  have hlo : lo j p < 5 ∧ ja j (lo j p) = lo j p := by
    rcases lo_or (j := j) (p := p) with e | e <;> rw [e]
    · exact ⟨by have := h.le _ hp.1; omega, h.id _ hp.1⟩
    · exact ⟨by have := h.le _ hp.2; omega, h.id _ hp.2⟩
  refine ⟨by simp [wth, h.len], fun s hs => ?_, fun s hs => ?_⟩
  · rw [wth_at h.len p hs]
    have := h.le s hs
    have := lo_le (j := j) (p := p)
    split <;> omega
  · rw [wth_at h.len p hs]
    have h1 := h.le s hs
    have h2 := h.id s hs
    split
    · rw [wth_at h.len p hlo.1, hlo.2]
      split <;> rfl
    · rename_i hn
      rw [wth_at h.len p (by omega), h2, if_neg hn]
theorem can_run : ∀ {L : List (Nat × Nat)} {j : List Nat}, Can j → Ok L → Can (runJ j L)
  | [], _, h, _ => h
  | p :: L, j, h, hL => by
    simp only [runJ]
    split
    · exact can_run h fun q hq => hL q (.tail _ hq)
    · exact can_run (can_wth h (hL p (.head _))) fun q hq => hL q (.tail _ hq)
/-- finer -/
def Fin' (j j' : List Nat) : Prop := ∀ s t, s < 5 → t < 5 → ja j s = ja j t → ja j' s = ja j' t
theorem fin_refl (j : List Nat) : Fin' j j := fun _ _ _ _ h => h
theorem fin_wth {j : List Nat} (h : Can j) {p : Nat × Nat} : Fin' j (wth j p) := fun s t hs ht e => by
  rw [wth_at h.len p hs, wth_at h.len p ht, e]
theorem wth_jnd {j : List Nat} (h : Can j) {p : Nat × Nat} (hp : p.1 < 5 ∧ p.2 < 5) : ja (wth j p) p.1 = ja (wth j p) p.2 := by
  rw [wth_at h.len p hp.1, wth_at h.len p hp.2]
  unfold lo hi
  split <;> split <;> omega
/-- joining is the least that joins a pair -/
theorem wth_least {j j' : List Nat} (h : Can j) {p : Nat × Nat} (hp : p.1 < 5 ∧ p.2 < 5) (hf : Fin' j j') (hj : ja j' p.1 = ja j' p.2) : Fin' (wth j p) j' := by
  intro s t hs ht e
  rw [wth_at h.len p hs, wth_at h.len p ht] at e
  have key : ∀ s, s < 5 → (ja j s = ja j p.1 ∨ ja j s = ja j p.2) → ja j' s = ja j' p.1 := fun s hs h => by
    rcases h with h | h
    · exact hf _ _ hs hp.1 h
    · rw [hj]; exact hf _ _ hs hp.2 h
  have k1 : ja j s = hi j p → ja j' s = ja j' p.1 := fun h => key s hs (by rcases hi_or (j := j) (p := p) with e | e <;> simp [h, e])
  have k2 : ja j t = hi j p → ja j' t = ja j' p.1 := fun h => key t ht (by rcases hi_or (j := j) (p := p) with e | e <;> simp [h, e])
  have k3 : ja j s = lo j p → ja j' s = ja j' p.1 := fun h => key s hs (by rcases lo_or (j := j) (p := p) with e | e <;> simp [h, e])
  have k4 : ja j t = lo j p → ja j' t = ja j' p.1 := fun h => key t ht (by rcases lo_or (j := j) (p := p) with e | e <;> simp [h, e])
  split at e
  · rename_i a
    split at e
    · rename_i b; rw [k1 a, k2 b]
    · rw [k1 a, k4 e.symm]
  · split at e
    · rename_i b; rw [k3 e, k2 b]
    · exact hf _ _ hs ht e
theorem jnd_iff {j : List Nat} {p : Nat × Nat} : jnd j p = true ↔ ja j p.1 = ja j p.2 := by unfold jnd; simp
theorem run_fin : ∀ {L : List (Nat × Nat)} {j : List Nat}, Can j → Ok L → Fin' j (runJ j L)
  | [], j, _, _ => fin_refl j
  | p :: L, j, h, hL => by
    have hp := hL p (.head _)
    have hL' : Ok L := fun q hq => hL q (.tail _ hq)
    simp only [runJ]
    split
    · exact run_fin h hL'
    · exact fun s t hs ht e => run_fin (can_wth h hp) hL' s t hs ht (fin_wth h s t hs ht e)
theorem run_jnd : ∀ {L : List (Nat × Nat)} {j : List Nat}, Can j → Ok L → ∀ p ∈ L, ja (runJ j L) p.1 = ja (runJ j L) p.2
  | p :: L, j, h, hL, q, hq => by
    have hp := hL p (.head _)
    have hL' : Ok L := fun q hq => hL q (.tail _ hq)
    simp only [runJ]
    rcases List.mem_cons.1 hq with rfl | hq
    · split
      · rename_i e; exact run_fin h hL' _ _ hp.1 hp.2 (jnd_iff.1 e)
      · exact run_fin (can_wth h hp) hL' _ _ hp.1 hp.2 (wth_jnd h hp)
    · split
      · exact run_jnd h hL' q hq
      · exact run_jnd (can_wth h hp) hL' q hq
theorem run_least : ∀ {L : List (Nat × Nat)} {j j' : List Nat}, Can j → Ok L → Fin' j j' → (∀ p ∈ L, ja j' p.1 = ja j' p.2) → Fin' (runJ j L) j'
  | [], _, _, _, _, hf, _ => hf
  | p :: L, j, j', h, hL, hf, hj => by
    have hp := hL p (.head _)
    have hL' : Ok L := fun q hq => hL q (.tail _ hq)
    simp only [runJ]
    split
    · exact run_least h hL' hf fun q hq => hj q (.tail _ hq)
    · exact run_least (can_wth h hp) hL' (wth_least h hp hf (hj p (.head _))) fun q hq => hj q (.tail _ hq)
theorem can_eq {j j' : List Nat} (h : Can j) (h' : Can j') (a : Fin' j j') (b : Fin' j' j) : j = j' := by
  have e : ∀ s, s < 5 → ja j s = ja j' s := fun s hs => by
    have h1 := h.le s hs
    have h2 := h'.le s hs
    have h3 := a s (ja j s) hs (by omega) (h.id s hs).symm
    have h4 := b s (ja j' s) hs (by omega) (h'.id s hs).symm
    have h5 := h'.le (ja j s) (by omega)
    have h6 := h.le (ja j' s) (by omega)
    omega
  apply List.ext_getElem (by rw [h.len, h'.len])
  intro i h1 h2
  have := e i (by rw [← h.len]; exact h1)
  simpa [ja, List.getD, h1, h2] using this
theorem apt_fin (j : List Nat) : Fin' apt j := fun s t hs ht e => by
  have : ∀ s, s < 5 → ja apt s = s := by decide
  rw [this s hs, this t ht] at e
  rw [e]
/-- only which pairs there are counts -/
theorem run_set {L M : List (Nat × Nat)} (hL : Ok L) (hM : Ok M) (h : ∀ p, p ∈ L ↔ p ∈ M) : runJ apt L = runJ apt M :=
  can_eq (can_run can_apt hL) (can_run can_apt hM) (run_least can_apt hL (apt_fin _) fun p hp => run_jnd can_apt hM p ((h p).1 hp))
    (run_least can_apt hM (apt_fin _) fun p hp => run_jnd can_apt hL p ((h p).2 hp))
/-- how many are the smallest of theirs -/
def rts (j : List Nat) : Nat := ((List.range 5).filter fun s => ja j s == s).length
theorem filter_one {p q : Nat → Bool} {h : Nat} : ∀ (l : List Nat), l.Nodup → h ∈ l → p h = true → q h = false → (∀ s ∈ l, s ≠ h → p s = q s) → (l.filter p).length = (l.filter q).length + 1
  | [], _, hm, _, _, _ => by cases hm
  | x :: l, hn, hm, hp, hq, he => by
    obtain ⟨n1, n2⟩ := List.nodup_cons.1 hn
    by_cases hx : x = h
    · subst hx
      have : l.filter p = l.filter q := List.filter_congr fun s hs => he s (.tail _ hs) (fun e => n1 (e ▸ hs))
      simp [List.filter_cons, hp, hq, this]
    · have hm' : h ∈ l := by
        rcases List.mem_cons.1 hm with e | e
        · exact absurd e.symm hx
        · exact e
      have ih := filter_one l n2 hm' hp hq fun s hs hne => he s (.tail _ hs) hne
      have := he x (.head _) hx
      simp only [List.filter_cons, this]
      split
      · simp only [List.length_cons]; omega
      · exact ih
theorem rts_wth {j : List Nat} (h : Can j) {p : Nat × Nat} (hp : p.1 < 5 ∧ p.2 < 5) (hn : ja j p.1 ≠ ja j p.2) : rts j = rts (wth j p) + 1 := by
  have hh : hi j p < 5 ∧ ja j (hi j p) = hi j p := by
    rcases hi_or (j := j) (p := p) with e | e <;> rw [e]
    · exact ⟨by have := h.le _ hp.1; omega, h.id _ hp.1⟩
    · exact ⟨by have := h.le _ hp.2; omega, h.id _ hp.2⟩
  have hlt : lo j p < hi j p := by unfold lo hi; omega
  refine filter_one (h := hi j p) _ List.nodup_range (by simpa using hh.1) (by simpa using hh.2) ?_ fun s hs hne => ?_
  · rw [wth_at h.len p hh.1, if_pos hh.2]
    simp; omega
  · have hs' : s < 5 := by simpa using hs
    rw [wth_at h.len p hs']
    have := h.le s hs'
    split
    · rename_i e
      rw [e, Bool.eq_iff_iff]
      simp only [beq_iff_eq]
      omega
    · rfl
theorem cnt_rts : ∀ {L : List (Nat × Nat)} {j : List Nat}, Can j → Ok L → cntJ j L + rts (runJ j L) = rts j
  | [], j, _, _ => by simp [cntJ, runJ]
  | p :: L, j, h, hL => by
    have hp := hL p (.head _)
    have hL' : Ok L := fun q hq => hL q (.tail _ hq)
    simp only [cntJ, runJ]
    split
    · exact cnt_rts h hL'
    · rename_i e
      have := cnt_rts (can_wth h hp) hL'
      rw [rts_wth h hp (fun x => e (jnd_iff.2 x))]
      omega
theorem rk_set {L M : List (Nat × Nat)} (hL : Ok L) (hM : Ok M) (h : ∀ p, p ∈ L ↔ p ∈ M) : rk L = rk M := by
  have a := cnt_rts can_apt hL
  have b := cnt_rts can_apt hM
  rw [run_set hL hM h] at a
  unfold rk; omega
/-- who is joined more gains less -/
theorem cnt_mono : ∀ {M : List (Nat × Nat)} {j j' : List Nat}, Can j → Can j' → Ok M → Fin' j j' → cntJ j' M ≤ cntJ j M
  | [], _, _, _, _, _, _ => by simp [cntJ]
  | p :: M, j, j', h, h', hM, hf => by
    have hp := hM p (.head _)
    have hM' : Ok M := fun q hq => hM q (.tail _ hq)
    simp only [cntJ]
    split
    · rename_i e'
      split
      · exact cnt_mono h h' hM' hf
      · have := cnt_mono (can_wth h hp) h' hM' (wth_least h hp hf (jnd_iff.1 e'))
        omega
    · rename_i e'
      split
      · rename_i e
        exact absurd (jnd_iff.2 (hf _ _ hp.1 hp.2 (jnd_iff.1 e))) e'
      · have : Fin' (wth j p) (wth j' p) := wth_least h hp (fun s t hs ht e => fin_wth h' s t hs ht (hf s t hs ht e)) (wth_jnd h' hp)
        have := cnt_mono (can_wth h hp) (can_wth h' hp) hM' this
        omega
theorem run_mono {L M : List (Nat × Nat)} (hL : Ok L) (hM : Ok M) (h : ∀ p ∈ L, p ∈ M) : Fin' (runJ apt L) (runJ apt M) :=
  run_least can_apt hL (apt_fin _) fun p hp => run_jnd can_apt hM p (h p hp)
theorem ok_app {L M : List (Nat × Nat)} (hL : Ok L) (hM : Ok M) : Ok (L ++ M) := fun p hp => by
  rcases List.mem_append.1 hp with h | h
  · exact hL p h
  · exact hM p h
theorem rk_app (L M : List (Nat × Nat)) : rk (L ++ M) = rk L + cntJ (runJ apt L) M := cntJ_app L M apt
theorem rk_mono {L M : List (Nat × Nat)} (hL : Ok L) (hM : Ok M) (h : ∀ p ∈ L, p ∈ M) : rk L ≤ rk M := by
  have : rk (L ++ M) = rk M := rk_set (ok_app hL hM) hM fun p => ⟨fun hp => by rcases List.mem_append.1 hp with hp | hp; exact h p hp; exact hp, fun hp => List.mem_append.2 (.inr hp)⟩
  rw [← this, rk_app]; omega
/-- two lists together, and what both have -/
theorem rk_sub {A B I U D : List (Nat × Nat)} (hA : Ok A) (hB : Ok B) (hI : Ok I) (hU : Ok U) (hD : Ok D)
    (hu : ∀ p, p ∈ U ↔ p ∈ A ∨ p ∈ D) (hb : ∀ p, p ∈ B ↔ p ∈ I ∨ p ∈ D) (hi : ∀ p ∈ I, p ∈ A) : rk U + rk I ≤ rk A + rk B := by
  have e1 : rk U = rk (A ++ D) := rk_set hU (ok_app hA hD) fun p => by rw [hu, List.mem_append]
  have e2 : rk B = rk (I ++ D) := rk_set hB (ok_app hI hD) fun p => by rw [hb, List.mem_append]
  rw [e1, e2, rk_app, rk_app]
  have := cnt_mono (can_run can_apt hI) (can_run can_apt hA) hD (run_mono hI hA hi)
  omega
/-- fewer than the sifters are -/
theorem run_out : ∀ {L : List (Nat × Nat)} {j : List Nat} {n : Nat}, Can j → n ≤ 5 → (∀ p ∈ L, p.1 < n ∧ p.2 < n) → (∀ s, n ≤ s → s < 5 → ja j s = s) → (∀ s, s < n → ja j s < n) → ∀ s, n ≤ s → s < 5 → ja (runJ j L) s = s
  | [], _, _, _, _, _, h, _ => h
  | p :: L, j, n, hc, hn, hL, h, h2 => by
    have hp := hL p (.head _)
    have hp5 : p.1 < 5 ∧ p.2 < 5 := ⟨by omega, by omega⟩
    have hL' : ∀ q ∈ L, q.1 < n ∧ q.2 < n := fun q hq => hL q (.tail _ hq)
    have a1 := h2 _ hp.1
    have a2 := h2 _ hp.2
    have hl : lo j p < n := by unfold lo; omega
    have hh : hi j p < n := by unfold hi; omega
    simp only [runJ]
    split
    · exact run_out hc hn hL' h h2
    · refine run_out (can_wth hc hp5) hn hL' (fun s h1 hs => ?_) fun s hs => ?_
      · rw [wth_at hc.len p hs, h s h1 hs, if_neg (by omega)]
      · rw [wth_at hc.len p (by omega)]
        have := h2 s hs
        split <;> omega
theorem filter_ge {p : Nat → Bool} {n : Nat} (hn : n ≤ 5) (h0 : p 0 = true) (h : ∀ s, n ≤ s → s < 5 → p s = true) (h1 : 1 ≤ n) : 5 - n + 1 ≤ ((List.range 5).filter p).length := by
  have e : List.range 5 = [0, 1, 2, 3, 4] := by decide
  have : n = 1 ∨ n = 2 ∨ n = 3 ∨ n = 4 ∨ n = 5 := by omega
  rcases this with rfl | rfl | rfl | rfl | rfl
  · simp [e, List.filter_cons, h0, h 1 (by omega) (by omega), h 2 (by omega) (by omega), h 3 (by omega) (by omega), h 4 (by omega) (by omega)]
  · cases e1 : p 1 <;> simp [e, List.filter_cons, h0, e1, h 2 (by omega) (by omega), h 3 (by omega) (by omega), h 4 (by omega) (by omega)]
  · cases e1 : p 1 <;> cases e2 : p 2 <;> simp [e, List.filter_cons, h0, e1, e2, h 3 (by omega) (by omega), h 4 (by omega) (by omega)]
  · cases e1 : p 1 <;> cases e2 : p 2 <;> cases e3 : p 3 <;> simp [e, List.filter_cons, h0, e1, e2, e3, h 4 (by omega) (by omega)]
  · simp [e, List.filter_cons, h0]
theorem rk_lt {L : List (Nat × Nat)} {n : Nat} (h1 : 1 ≤ n) (hn : n ≤ 5) (hL : ∀ p ∈ L, p.1 < n ∧ p.2 < n) : rk L < n := by
  have hL5 : Ok L := fun p hp => ⟨by have := hL p hp; omega, by have := hL p hp; omega⟩
  have hc := can_run can_apt hL5
  have a := cnt_rts can_apt hL5
  have ap : ∀ s, s < 5 → ja apt s = s := by decide
  have b := run_out can_apt hn hL (fun s _ hs => ap s hs) (fun s hs => by rw [ap s (by omega)]; exact hs)
  have c : 5 - n + 1 ≤ rts (runJ apt L) := filter_ge hn (by have := hc.le 0 (by omega); simp; omega) (fun s h hs => by simpa using b s h hs) h1
  have d : rts apt = 5 := by decide
  unfold rk; omega
end Go.Crew

namespace Go.Proofs.YtnponojgpkbagaaDoor
open Go.V Go.Crew
set_option linter.unusedSectionVars false
set_option linter.unnecessarySimpa false

theorem brn_t {α : Type} {b : Bool} {x y : Option α} (h : b = true) : brn b x y = x := by subst h; rfl
theorem brn_f {α : Type} {b : Bool} {x y : Option α} (h : b = false) : brn b x y = y := by subst h; rfl
theorem grd_t {α : Type} {p : Prop} [Decidable p] {k : Option α} (h : p) : grd p k = k := by simp [grd, h]
theorem wrapN {n : Nat} (h : n ≤ 100000) : IntKind.i64.wrap ((n : Int) + 1) = ((n + 1 : Nat) : Int) := by
  rw [wrap64 (by omega) (by omega)]; omega
theorem toNatN (n : Nat) : Int.toNat (n : Int) = n := by omega

def prI (p : Int × Int) : List PV := [.int .i64 p.1, .int .i64 p.2]
def prsI (l : List (Int × Int)) : List PV := l.flatMap prI
theorem prsI_len : ∀ (l : List (Int × Int)), (prsI l).length = l.length * 2
  | [] => rfl
  | p :: l => by
    have := prsI_len l
    simp only [prsI, List.flatMap_cons, List.length_append, prI, List.length_cons, List.length_nil] at *
    omega
def pI (l : List (Int × Int)) (i : Nat) : Int × Int := l.getD i (0, 0)
theorem prsI_drop : ∀ (l : List (Int × Int)) (i : Nat), (prsI l).drop (i * 2) = prsI (l.drop i)
  | l, 0 => by simp
  | [], i + 1 => by simp [prsI]
  | p :: l, i + 1 => by
    have := prsI_drop l i
    rw [show (i + 1) * 2 = i * 2 + 2 by omega]
    simpa [prsI, prI] using this
theorem prsI_take : ∀ (l : List (Int × Int)) (i : Nat), (prsI l).take (i * 2) = prsI (l.take i)
  | l, 0 => by simp [prsI]
  | [], i + 1 => by simp [prsI]
  | p :: l, i + 1 => by
    have := prsI_take l i
    rw [show (i + 1) * 2 = i * 2 + 2 by omega]
    simpa [prsI, prI] using this
theorem drop_pI {l : List (Int × Int)} {i : Nat} (h : i < l.length) : l.drop i = pI l i :: l.drop (i + 1) := by
  rw [List.drop_eq_getElem_cons h]; simp [pI, List.getD, h]
theorem take_pI {l : List (Int × Int)} {i : Nat} (h : i < l.length) : l.take (i + 1) = l.take i ++ [pI l i] := by
  rw [List.take_add_one]; simp [pI, List.getD, h]
theorem prsI_two {l : List (Int × Int)} {i : Nat} (h : i < l.length) : List.take 2 (List.drop (i * 2) (prsI l)) = [.int .i64 (pI l i).1, .int .i64 (pI l i).2] := by
  rw [prsI_drop, drop_pI h]; simp [prsI, prI]
theorem prsI_two' {l : List (Int × Int)} {i : Nat} (h : i < l.length) : 2 ≤ List.length (List.drop (i * 2) (prsI l)) := by
  rw [prsI_drop, prsI_len, List.length_drop]; omega
theorem prsI_app (l m : List (Int × Int)) : prsI l ++ prsI m = prsI (l ++ m) := by simp [prsI]
def knI (l : List (Int × Int)) : PV := .lst false l.length (prsI l)
def knsI (K : List (List (Int × Int))) : List PV := K.map knI
theorem knsI_len (K : List (List (Int × Int))) : (knsI K).length = K.length := by simp [knsI]
def kI (K : List (List (Int × Int))) (i : Nat) : List (Int × Int) := K.getD i []
theorem knsI_gp {K : List (List (Int × Int))} {i : Nat} (h : i < K.length) : gp (knsI K) i = .lst false (kI K i).length (prsI (kI K i)) := by
  simp [knsI, gp, kI, knI, List.getD, h]
theorem kI_mem {K : List (List (Int × Int))} {i : Nat} (h : i < K.length) : kI K i ∈ K := by simp [kI, List.getD, h]
theorem drop_kI {K : List (List (Int × Int))} {i : Nat} (h : i < K.length) : K.drop i = kI K i :: K.drop (i + 1) := by
  rw [List.drop_eq_getElem_cons h]; simp [kI, List.getD, h]

def jP (j : List Nat) : List PV := [.int .i64 (ja j 0 : Int), .int .i64 (ja j 1 : Int), .int .i64 (ja j 2 : Int), .int .i64 (ja j 3 : Int), .int .i64 (ja j 4 : Int)]
theorem jP_gp {j : List Nat} {s : Nat} (h : s < 5) : gp (jP j) s = .int .i64 (ja j s : Int) := by
  have : s = 0 ∨ s = 1 ∨ s = 2 ∨ s = 3 ∨ s = 4 := by omega
  rcases this with rfl | rfl | rfl | rfl | rfl <;> rfl
def cI (p : Nat × Nat) : Int × Int := ((p.1 : Int), (p.2 : Int))
theorem getA5_jP {α : Type} (j : List Nat) (k : PV → PV → PV → PV → PV → Option α) : getA5 (.agg (jP j)) k = k (.int .i64 (ja j 0 : Int)) (.int .i64 (ja j 1 : Int)) (.int .i64 (ja j 2 : Int)) (.int .i64 (ja j 3 : Int)) (.int .i64 (ja j 4 : Int)) := rfl
theorem joined_ok (N : Nat) (j : List Nat) (p : Nat × Nat) (hp : p.1 < 5 ∧ p.2 < 5) : m71 N (.agg (jP j)) (.agg (prI (cI p))) = some (.bool (jnd j p)) := by
  simp only [m71, prI, cI, getA2, getI, if_true, toNatN]
  have e1 := jP_gp (j := j) hp.1
  have e2 := jP_gp (j := j) hp.2
  unfold jP at e1 e2
  rw [getA5_jP, grd_t ⟨by omega, by omega⟩, grd_t hp.1, e1]
  simp only [if_true]
  rw [grd_t ⟨by omega, by omega⟩, grd_t hp.2, e2]
  simp only [if_true, jnd]
  congr 2
  rw [Bool.eq_iff_iff]; simp; omega
theorem maxI_hi (j : List Nat) (p : Nat × Nat) : maxI (ja j p.1 : Int) (ja j p.2 : Int) = (hi j p : Int) := by
  unfold maxI hi; split <;> omega
theorem minI_lo (j : List Nat) (p : Nat × Nat) : minI (ja j p.1 : Int) (ja j p.2 : Int) = (lo j p : Int) := by
  unfold minI lo; split <;> omega
/-- half way -/
def hw (j : List Nat) (p : Nat × Nat) (s t : Nat) : PV := .int .i64 ((if t < s then ja (wth j p) t else ja j t : Nat) : Int)
def mid (j : List Nat) (p : Nat × Nat) (s : Nat) : List PV := [hw j p s 0, hw j p s 1, hw j p s 2, hw j p s 3, hw j p s 4]
theorem mid_set {j : List Nat} {p : Nat × Nat} {s : Nat} (hj : j.length = 5) (h : s < 5) (e : ja j s = hi j p) : (mid j p s).set s (.int .i64 (lo j p : Int)) = mid j p (s + 1) := by
  have w := wth_at hj p h
  rw [if_pos e] at w
  have : s = 0 ∨ s = 1 ∨ s = 2 ∨ s = 3 ∨ s = 4 := by omega
  rcases this with rfl | rfl | rfl | rfl | rfl <;> simp [mid, hw, w]
theorem mid_not {j : List Nat} {p : Nat × Nat} {s : Nat} (hj : j.length = 5) (h : s < 5) (e : ja j s ≠ hi j p) : mid j p s = mid j p (s + 1) := by
  have w := wth_at hj p h
  rw [if_neg e] at w
  have : s = 0 ∨ s = 1 ∨ s = 2 ∨ s = 3 ∨ s = 4 := by omega
  rcases this with rfl | rfl | rfl | rfl | rfl <;> simp [mid, hw, w]
theorem with_L (N : Nat) (j : List Nat) (p : Nat × Nat) (hj : j.length = 5) : ∀ (r s fuel : Nat), 5 - s = r → s ≤ 5 → r < fuel →
    m98_L0 N (.int .i64 (ja j 0 : Int)) (.int .i64 (ja j 1 : Int)) (.int .i64 (ja j 2 : Int)) (.int .i64 (ja j 3 : Int)) (.int .i64 (ja j 4 : Int)) (ja j p.1 : Int) (ja j p.2 : Int) fuel (s : Int) (mid j p s) = some (mid j p 5)
  | r, s, 0, _, _, h => by omega
  | r, s, f + 1, hr, hs, hf => by
    rw [m98_L0]
    by_cases h : s < 5
    · have ih := with_L N j p hj (r - 1) (s + 1) f (by omega) (by omega) (by omega)
      have e1 := jP_gp (j := j) h
      unfold jP at e1
      rw [brn_t (by simp; omega), toNatN, grd_t ⟨by omega, by omega⟩, e1, maxI_hi, minI_lo, wrapN (by omega)]
      simp only [getI, if_true]
      by_cases e : ja j s = hi j p
      · rw [brn_t (by simp; omega), grd_t (by simp [mid]; omega), mid_set hj h e]; exact ih
      · rw [brn_f (by simp; omega), mid_not hj h e]; exact ih
    · rw [brn_f (by simp; omega), show s = 5 by omega]
theorem mid_zero (j : List Nat) (p : Nat × Nat) : mid j p 0 = jP j := by simp [mid, hw, jP]
theorem mid_five (j : List Nat) (p : Nat × Nat) : mid j p 5 = jP (wth j p) := by simp [mid, hw, jP]
theorem with_ok (N : Nat) (hN : 2000 ≤ N) (j : List Nat) (hj : j.length = 5) (p : Nat × Nat) (hp : p.1 < 5 ∧ p.2 < 5) : m98 N (.agg (jP j)) (.agg (prI (cI p))) = some (.agg (jP (wth j p))) := by
  simp only [m98, prI, cI, getA2, getI, if_true, toNatN]
  have e1 := jP_gp (j := j) hp.1
  have e2 := jP_gp (j := j) hp.2
  unfold jP at e1 e2
  rw [getA5_jP, grd_t ⟨by omega, by omega⟩, grd_t hp.1, e1]
  simp only [if_true]
  rw [grd_t ⟨by omega, by omega⟩, grd_t hp.2, e2]
  simp only [if_true]
  have := with_L N j p hj 5 0 N (by omega) (by omega) (by omega)
  rw [mid_zero, mid_five] at this
  rw [show m98_L0 N (.int .i64 (ja j 0 : Int)) (.int .i64 (ja j 1 : Int)) (.int .i64 (ja j 2 : Int)) (.int .i64 (ja j 3 : Int)) (.int .i64 (ja j 4 : Int)) (ja j p.1 : Int) (ja j p.2 : Int) N 0 [.int .i64 (ja j 0 : Int), .int .i64 (ja j 1 : Int), .int .i64 (ja j 2 : Int), .int .i64 (ja j 3 : Int), .int .i64 (ja j 4 : Int)] = _ from this]
  rfl
theorem apart_ok : m97 2000 = some (.agg (jP apt)) := by kernel_rfl
theorem wth_len {j : List Nat} {p : Nat × Nat} (h : j.length = 5) : (wth j p).length = 5 := by simp [wth, h]
def cL (L : List (Nat × Nat)) : List (Int × Int) := L.map cI
theorem cL_len (L : List (Nat × Nat)) : (cL L).length = L.length := by simp [cL]
def pN (L : List (Nat × Nat)) (i : Nat) : Nat × Nat := L.getD i (0, 0)
theorem cL_pI {L : List (Nat × Nat)} {i : Nat} (h : i < L.length) : pI (cL L) i = cI (pN L i) := by simp [pI, cL, pN, List.getD, h]
theorem pN_mem {L : List (Nat × Nat)} {i : Nat} (h : i < L.length) : pN L i ∈ L := by simp [pN, List.getD, h]
theorem drop_pN {L : List (Nat × Nat)} {i : Nat} (h : i < L.length) : L.drop i = pN L i :: L.drop (i + 1) := by
  rw [List.drop_eq_getElem_cons h]; simp [pN, List.getD, h]
theorem count_L (N : Nat) (hN : 2000 ≤ N) (L : List (Nat × Nat)) (hL : Ok L) (hl : L.length ≤ 1000) : ∀ (r i fuel a : Nat) (j : List Nat), L.length - i = r → j.length = 5 → a ≤ i → r < fuel →
    m70_L0 N L.length (prsI (cL L)) fuel (a : Int) (i : Int) (.int .i64 (ja j 0 : Int)) (.int .i64 (ja j 1 : Int)) (.int .i64 (ja j 2 : Int)) (.int .i64 (ja j 3 : Int)) (.int .i64 (ja j 4 : Int)) = some ((a + cntJ j (L.drop i) : Nat) : Int)
  | r, i, 0, a, j, _, _, _, h => by omega
  | r, i, f + 1, a, j, hr, hj, ha, hf => by
    rw [m70_L0]
    by_cases h : i < L.length
    · have h' : i < (cL L).length := by rw [cL_len]; exact h
      have hp := hL _ (pN_mem h)
      rw [brn_t (by simp; omega), toNatN, grd_t ⟨by omega, by omega⟩, grd_t (prsI_two' h'), prsI_two h', cL_pI h, drop_pN h]
      have e1 := joined_ok N j (pN L i) hp
      have e2 := with_ok N hN j hj (pN L i) hp
      unfold jP prI at e1
      unfold jP prI at e2
      simp only [getA2, e1, bnd', getB, cntJ]
      cases e : jnd j (pN L i) with
      | true =>
        rw [brn_t rfl, wrapN (by omega), count_L N hN L hL hl (r - 1) (i + 1) f a j (by omega) hj (by omega) (by omega)]
        simp
      | false =>
        rw [brn_f rfl]
        simp only [e2, getA5]
        rw [wrapN (by omega), wrapN (by omega), count_L N hN L hL hl (r - 1) (i + 1) f (a + 1) (wth j (pN L i)) (by omega) (wth_len hj) (by omega) (by omega)]
        simp; omega
    · rw [brn_f (by simp; omega), List.drop_eq_nil_of_le (by omega)]; simp [cntJ]
theorem count_ok (L : List (Nat × Nat)) (hL : Ok L) (hl : L.length ≤ 1000) : m70 2000 (.lst false L.length (prsI (cL L))) = some (.int .i64 (rk L : Int)) := by
  simp only [m70, getL, apart_ok, bnd']
  rw [getA5_jP]
  have := count_L 2000 (by omega) L hL hl L.length 0 2000 0 apt (by omega) rfl (by omega) (by omega)
  rw [show m70_L0 2000 L.length (prsI (cL L)) 2000 0 0 _ _ _ _ _ = _ from this]
  simp [rk]

def cK (K : List (List (Nat × Nat))) : List (List (Int × Int)) := K.map cL
theorem cK_len (K : List (List (Nat × Nat))) : (cK K).length = K.length := by simp [cK]
def kN (K : List (List (Nat × Nat))) (i : Nat) : List (Nat × Nat) := K.getD i []
theorem cK_kI {K : List (List (Nat × Nat))} {i : Nat} (h : i < K.length) : kI (cK K) i = cL (kN K i) := by simp [kI, cK, kN, List.getD, h]
theorem kN_mem {K : List (List (Nat × Nat))} {i : Nat} (h : i < K.length) : kN K i ∈ K := by simp [kN, List.getD, h]
def crw (n : Nat) (K : List (List (Nat × Nat))) : PV := .agg [.int .i64 (n : Int), .lst false K.length (knsI (cK K))]
def nL (X : List Nat) : List PV := X.map fun (k : Nat) => PV.int .i64 (k : Int)
theorem nL_len (X : List Nat) : (nL X).length = X.length := by simp [nL]
def nn (X : List Nat) (i : Nat) : Nat := X.getD i 0
theorem nL_gp {X : List Nat} {i : Nat} (h : i < X.length) : gp (nL X) i = .int .i64 (nn X i : Int) := by
  simp [nL, gp, nn, List.getD, h]
theorem nn_mem {X : List Nat} {i : Nat} (h : i < X.length) : nn X i ∈ X := by
  simp [nn, List.getD, h]
/-- all pairs of some kinds -/
def pairsOf (K : List (List (Nat × Nat))) (ks : List Nat) : List (Nat × Nat) := ks.flatMap (kN K)
/-- a crew as it should be, but for what its pairs are -/
structure Fit (n : Nat) (K : List (List (Nat × Nat))) : Prop where
  n1 : 1 ≤ n
  n5 : n ≤ 5
  many : K.length ≤ 5
  len : ∀ l ∈ K, l.length ≤ 6
  lt : ∀ l ∈ K, ∀ p ∈ l, p.1 < p.2 ∧ p.2 < n
  one : ∀ l ∈ K, l.Nodup
theorem kN_lt {n : Nat} {K : List (List (Nat × Nat))} (h : Fit n K) {k : Nat} : ∀ p ∈ kN K k, p.1 < n ∧ p.2 < n := fun p hp => by
  by_cases hk : k < K.length
  · have := h.lt _ (kN_mem hk) p hp; omega
  · simp [kN, List.getD, hk] at hp
theorem kN_len {n : Nat} {K : List (List (Nat × Nat))} (h : Fit n K) {k : Nat} : (kN K k).length ≤ 6 := by
  by_cases hk : k < K.length
  · exact h.len _ (kN_mem hk)
  · simp [kN, List.getD, hk]
theorem pairsOf_lt {n : Nat} {K : List (List (Nat × Nat))} (h : Fit n K) {ks : List Nat} : ∀ p ∈ pairsOf K ks, p.1 < n ∧ p.2 < n := fun p hp => by
  obtain ⟨k, _, hp⟩ := List.mem_flatMap.1 hp
  exact kN_lt h p hp
theorem pairsOf_ok {n : Nat} {K : List (List (Nat × Nat))} (h : Fit n K) {ks : List Nat} : Ok (pairsOf K ks) := fun p hp => by
  have := pairsOf_lt h p hp
  have := h.n5
  omega
theorem pairsOf_len {n : Nat} {K : List (List (Nat × Nat))} (h : Fit n K) : ∀ (ks : List Nat), (pairsOf K ks).length ≤ ks.length * 6
  | [] => by simp [pairsOf]
  | k :: ks => by
    have := pairsOf_len h ks
    have := kN_len h (k := k)
    simp only [pairsOf, List.flatMap_cons, List.length_append, List.length_cons] at *
    omega
theorem cL_app (L M : List (Nat × Nat)) : cL L ++ cL M = cL (L ++ M) := by simp [cL]
theorem rank_L (N : Nat) (n : Nat) (K : List (List (Nat × Nat))) (hK : Fit n K) (p : PV) (ks : List Nat) (hk : ∀ k ∈ ks, k < K.length) (hl : ks.length ≤ 100) : ∀ (r i fuel : Nat), ks.length - i = r → i ≤ ks.length → r < fuel →
    m64_L0 N p ks.length (nL ks) fuel (pairsOf K (ks.take i)).length (i : Int) (.lst false K.length (knsI (cK K))) (prsI (cL (pairsOf K (ks.take i)))) = some ((pairsOf K ks).length, prsI (cL (pairsOf K ks)))
  | r, i, 0, _, _, h => by omega
  | r, i, f + 1, hr, hi, hf => by
    have hnl := nL_len ks
    have hkl : (knsI (cK K)).length = K.length := by rw [knsI_len, cK_len]
    rw [m64_L0]
    by_cases h : i < ks.length
    · have ih := rank_L N n K hK p ks hk hl (r - 1) (i + 1) f (by omega) (by omega) (by omega)
      have hx := hk _ (nn_mem h)
      have h6 := kN_len hK (k := nn ks i)
      have h7 := pairsOf_len hK (ks.take i)
      rw [List.length_take] at h7
      rw [brn_t (by simp; omega), toNatN, grd_t ⟨by omega, by omega⟩, grd_t (by simp only [List.length_drop]; omega), nL_gp h]
      simp only [getI, if_true, getL, toNatN]
      rw [grd_t ⟨by omega, by omega⟩, grd_t (by simp only [List.length_drop]; omega), knsI_gp (by rw [cK_len]; exact hx), cK_kI hx]
      simp only [cL_len]
      rw [grd_t (by rw [prsI_len, cL_len]), grd_t (by omega), grd_t (by rw [prsI_len, cL_len]), wrapN (by omega), prsI_app, cL_app]
      have e : pairsOf K (ks.take i) ++ kN K (nn ks i) = pairsOf K (ks.take (i + 1)) := by
        rw [List.take_add_one]
        have : ks[i]? = some (nn ks i) := by simp [nn, List.getD, h]
        rw [this]
        simp [pairsOf]
      rw [e, show (pairsOf K (ks.take i)).length + (kN K (nn ks i)).length = (pairsOf K (ks.take (i + 1))).length by rw [← e, List.length_append]]
      exact ih
    · rw [brn_f (by simp; omega), List.take_of_length_le (by omega)]
theorem rank_ok (n : Nat) (K : List (List (Nat × Nat))) (hK : Fit n K) (ks : List Nat) (hk : ∀ k ∈ ks, k < K.length) (hl : ks.length ≤ 100) : m64 2000 (crw n K) (.lst false ks.length (nL ks)) = some (.int .i64 (rk (pairsOf K ks) : Int)) := by
  have h := rank_L 2000 n K hK (.int .i64 (n : Int)) ks hk hl ks.length 0 2000 (by omega) (by omega) (by omega)
  have hp := pairsOf_len hK ks
  simp only [m64, crw, getA2, getL]
  rw [show m64_L0 2000 (.int .i64 (n : Int)) ks.length (nL ks) 2000 0 0 (.lst false K.length (knsI (cK K))) [] = _ from h]
  simp only [bnd']
  rw [grd_t (by rw [prsI_len, cL_len])]
  simp only [count_ok (pairsOf K ks) (pairsOf_ok hK) (by omega), getI, if_true]
end Go.Proofs.YtnponojgpkbagaaDoor

namespace Go.Proofs.YtnponojgpkbagaaDoor
open Go.V Go.Crew
set_option linter.unusedSectionVars false
set_option linter.unnecessarySimpa false

theorem idx_L (N : Nat) (p : Int × Int) (l : List (Int × Int)) (hl : l.length ≤ 1000) : ∀ (r i fuel : Nat), l.length - i = r → r < fuel →
    ∃ o, m93_L0 N l.length (prsI l) fuel (i : Int) (.int .i64 p.1) (.int .i64 p.2) = some o ∧ ((l.drop i).contains p = true → ∃ k : Nat, o = .inl (.int .i64 (k : Int))) ∧ ((l.drop i).contains p = false → o = .inr ())
  | r, i, 0, _, h => by omega
  | r, i, f + 1, hr, hf => by
    rw [m93_L0]
    by_cases h : i < l.length
    · obtain ⟨o, o1, o2, o3⟩ := idx_L N p l hl (r - 1) (i + 1) f (by omega) (by omega)
      rw [brn_t (by simp; omega), toNatN, grd_t ⟨by omega, by omega⟩, grd_t (prsI_two' h), prsI_two h, drop_pI h]
      simp only [getA2, getI, if_true, List.contains_cons]
      by_cases e : p = pI l i
      · have e1 : (p == pI l i) = true := by simpa using e
        rw [brn_t (by rw [← e]; simp), e1]
        exact ⟨_, rfl, fun _ => ⟨i, rfl⟩, fun h => by simp at h⟩
      · have e1 : (p == pI l i) = false := by simpa using e
        rw [brn_f (by
          rw [Bool.and_eq_false_iff]
          by_cases a : p.1 = (pI l i).1
          · right; have : p.2 ≠ (pI l i).2 := fun b => e (Prod.ext a b)
            simpa using this
          · left; simpa using a), wrapN (by omega), e1]
        exact ⟨o, o1, fun h => o2 (by simpa using h), fun h => o3 (by simpa using h)⟩
    · rw [brn_f (by simp; omega), List.drop_eq_nil_of_le (by omega)]
      exact ⟨_, rfl, fun h => by simp at h, fun _ => rfl⟩
theorem has_ok (N : Nat) (hN : 2000 ≤ N) (p : Int × Int) (l : List (Int × Int)) (hl : l.length ≤ 1000) : m51 N (.lst false l.length (prsI l)) (.agg [.int .i64 p.1, .int .i64 p.2]) = some (.bool (l.contains p)) := by
  obtain ⟨o, o1, o2, o3⟩ := idx_L N p l hl l.length 0 N (by omega) (by omega)
  rw [List.drop_zero] at o2 o3
  simp only [m51, getL, getA2, m93]
  rw [show m93_L0 N l.length (prsI l) N 0 (.int .i64 p.1) (.int .i64 p.2) = some o from o1]
  cases h : l.contains p with
  | true =>
    obtain ⟨k, rfl⟩ := o2 h
    simp [bnd', getI]
  | false => rw [o3 h]; simp [bnd', getI]

def chkL (n : Int) : List (Int × Int) → List (Int × Int) → Int
  | _, [] => 0
  | d, p :: r => if minI p.1 p.2 < 0 then 2 else if maxI p.1 p.2 ≥ n then 2 else if p.1 ≥ p.2 then 7 else if d.contains p then 6 else chkL n (d ++ [p]) r
def chkK (n : Int) : List (List (Int × Int)) → Int
  | [] => 0
  | l :: ls => if 6 < l.length then 3 else if chkL n [] l ≠ 0 then chkL n [] l else chkK n ls
def chk (n : Int) (K : List (List (Int × Int))) : Int := if n < 1 then 1 else if n > 5 then 1 else if 5 < K.length then 3 else chkK n K
def outE (e : Int) : PV ⊕ Unit := if e = 0 then .inr () else .inl (.int .i64 e)
theorem chk_L1 (N : Nat) (hN : 2000 ≤ N) (n : Int) (m : Nat) (c : List PV) (x : Int) (l : List (Int × Int)) (hl : l.length ≤ 1000) : ∀ (r i fuel : Nat), l.length - i = r → r < fuel →
    m22_L1 N n m c x l.length (prsI l) fuel (i : Int) = some (outE (chkL n (l.take i) (l.drop i)))
  | r, i, 0, _, h => by omega
  | r, i, f + 1, hr, hf => by
    rw [m22_L1]
    by_cases h : i < l.length
    · have ih := chk_L1 N hN n m c x l hl (r - 1) (i + 1) f (by omega) (by omega)
      rw [brn_t (by simp; omega), toNatN, grd_t ⟨by omega, by omega⟩, grd_t (prsI_two' h), prsI_two h, drop_pI h]
      simp only [getA2, getI, if_true, chkL]
      by_cases h1 : minI (pI l i).1 (pI l i).2 < 0
      · rw [brn_t (by simpa using h1), if_pos h1]; rfl
      · rw [brn_f (by simpa using h1), if_neg h1]
        by_cases h2 : maxI (pI l i).1 (pI l i).2 ≥ n
        · rw [brn_t (by simpa using h2), if_pos h2]; rfl
        · rw [brn_f (by simpa using h2), if_neg h2]
          by_cases h3 : (pI l i).1 ≥ (pI l i).2
          · rw [brn_t (by simpa using h3), if_pos h3]; rfl
          · have e := has_ok N hN (pI l i) (l.take i) (by rw [List.length_take]; omega)
            rw [show (l.take i).length = i by rw [List.length_take]; omega] at e
            rw [brn_f (by simpa using h3), if_neg h3, grd_t (by omega), grd_t (prsI_len l), prsI_take, e]
            simp only [bnd', getB]
            cases hc : (l.take i).contains (pI l i) with
            | true => rw [brn_t rfl, if_pos rfl]; rfl
            | false => rw [brn_f rfl, if_neg (by simp), wrapN (by omega), ih, take_pI h]
    · rw [brn_f (by simp; omega), List.drop_eq_nil_of_le (by omega)]; rfl
theorem chk_L0 (N : Nat) (hN : 2000 ≤ N) (n : Int) (K : List (List (Int × Int))) (hK : K.length ≤ 1000) (hl : ∀ l ∈ K, l.length ≤ 1000) : ∀ (r i fuel : Nat), K.length - i = r → r < fuel →
    m22_L0 N n K.length (knsI K) fuel (i : Int) = some (outE (chkK n (K.drop i)))
  | r, i, 0, _, h => by omega
  | r, i, f + 1, hr, hf => by
    have hk := knsI_len K
    rw [m22_L0]
    by_cases h : i < K.length
    · have ih := chk_L0 N hN n K hK hl (r - 1) (i + 1) f (by omega) (by omega)
      have h1 := hl _ (kI_mem h)
      rw [brn_t (by simp; omega), toNatN, grd_t ⟨by omega, by omega⟩, grd_t (by simp only [List.length_drop]; omega), knsI_gp h, drop_kI h]
      simp only [getL, chkK]
      by_cases h2 : 6 < (kI K i).length
      · rw [brn_t (by simp; omega), if_pos h2]; rfl
      · have e := chk_L1 N hN n K.length (knsI K) (i : Int) (kI K i) h1 (kI K i).length 0 N (by omega) (by omega)
        rw [List.take_zero, List.drop_zero] at e
        rw [brn_f (by simp; omega), if_neg h2, show m22_L1 N n K.length (knsI K) (i : Int) (kI K i).length (prsI (kI K i)) N 0 = _ from e]
        by_cases h3 : chkL n [] (kI K i) = 0
        · rw [if_neg (by simpa using h3), outE, if_pos h3]
          simp only [bnd']
          rw [wrapN (by omega)]; exact ih
        · rw [if_pos h3, outE, if_neg h3]; simp [bnd', outE, h3]
    · rw [brn_f (by simp; omega), List.drop_eq_nil_of_le (by omega)]; rfl
theorem outE_end {x : Int} : (match outE x with | .inl p => some p | .inr () => some (PV.int .i64 0)) = some (.int .i64 x) := by
  unfold outE
  by_cases h : x = 0
  · rw [if_pos h, h]
  · rw [if_neg h]
theorem check_ok (N : Nat) (hN : 2000 ≤ N) (n : Int) (K : List (List (Int × Int))) (hK : K.length ≤ 1000) (hl : ∀ l ∈ K, l.length ≤ 1000) : m22 N (.agg [.int .i64 n, .lst false K.length (knsI K)]) = some (.int .i64 (chk n K)) := by
  simp only [m22, getA2, getI, if_true, getL]
  unfold chk
  by_cases h1 : n < 1
  · rw [brn_t (by simpa using h1), if_pos h1]
  · rw [brn_f (by simpa using h1), if_neg h1]
    by_cases h2 : n > 5
    · rw [brn_t (by simpa using h2), if_pos h2]
    · rw [brn_f (by simpa using h2), if_neg h2]
      by_cases h3 : 5 < K.length
      · rw [brn_t (by simp; omega), if_pos h3]
      · have e := chk_L0 N hN n K hK hl K.length 0 N (by omega) (by omega)
        rw [List.drop_zero] at e
        rw [brn_f (by simp; omega), if_neg h3, show m22_L0 N n K.length (knsI K) N 0 = _ from e]
        exact outE_end
theorem minI_min (a b : Int) : minI a b = min a b := by unfold minI; split <;> omega
theorem maxI_max (a b : Int) : maxI a b = max a b := by unfold maxI; split <;> omega
theorem chkL_fit {n : Nat} : ∀ (l d : List (Nat × Nat)), (∀ p ∈ l, p.1 < p.2 ∧ p.2 < n) → (d ++ l).Nodup → chkL (n : Int) (cL d) (cL l) = 0
  | [], _, _, _ => rfl
  | p :: l, d, h, hn => by
    have hp := h p (.head _)
    have e := chkL_fit l (d ++ [p]) (fun q hq => h q (.tail _ hq)) (by simpa using hn)
    have hc : (cL d).contains (cI p) = false := by
      rw [Bool.eq_false_iff]
      intro hc
      have hm : cI p ∈ cL d := by simpa using hc
      obtain ⟨q, hq, e⟩ := List.mem_map.1 hm
      have : q = p := by
        have e1 := congrArg Prod.fst e
        have e2 := congrArg Prod.snd e
        simp only [cI] at e1 e2
        exact Prod.ext (by omega) (by omega)
      subst this
      have := List.nodup_append.1 hn
      exact this.2.2 _ hq _ (.head _) rfl
    show chkL (n : Int) (cL d) (cI p :: cL l) = 0
    have m1 : ¬ minI (cI p).1 (cI p).2 < 0 := by rw [minI_min]; simp only [cI]; omega
    have m2 : ¬ maxI (cI p).1 (cI p).2 ≥ (n : Int) := by rw [maxI_max]; simp only [cI]; omega
    have m3 : ¬ (cI p).1 ≥ (cI p).2 := by simp only [cI]; omega
    rw [chkL, if_neg m1, if_neg m2, if_neg m3, hc, if_neg (by simp)]
    have e2 : cL d ++ [cI p] = cL (d ++ [p]) := by simp [cL]
    rw [e2]; exact e
theorem chkK_fit {n : Nat} : ∀ (K : List (List (Nat × Nat))), (∀ l ∈ K, l.length ≤ 6) → (∀ l ∈ K, ∀ p ∈ l, p.1 < p.2 ∧ p.2 < n) → (∀ l ∈ K, l.Nodup) → chkK (n : Int) (cK K) = 0
  | [], _, _, _ => rfl
  | l :: K, h1, h2, h3 => by
    have e := chkL_fit (n := n) l [] (h2 l (.head _)) (by simpa using h3 l (.head _))
    have := h1 l (.head _)
    show chkK (n : Int) (cL l :: cK K) = 0
    rw [chkK, if_neg (by rw [cL_len]; omega), if_neg (by simpa [cL] using e)]
    exact chkK_fit K (fun x hx => h1 x (.tail _ hx)) (fun x hx => h2 x (.tail _ hx)) (fun x hx => h3 x (.tail _ hx))
theorem chk_fit {n : Nat} {K : List (List (Nat × Nat))} (h : Fit n K) : chk (n : Int) (cK K) = 0 := by
  have := h.n1
  have := h.n5
  have := h.many
  unfold chk
  rw [if_neg (by omega), if_neg (by omega), if_neg (by rw [cK_len]; omega)]
  exact chkK_fit K h.len h.lt h.one

def lsE (m : Nat) : Int → List Int → Int
  | _, [] => 0
  | last, k :: r => if k < 0 then 2 else if k ≥ (m : Int) then 2 else if k ≤ last then 7 else lsE m k r
def iL (X : List Int) : List PV := X.map (PV.int .i64)
theorem iL_len (X : List Int) : (iL X).length = X.length := by simp [iL]
def en (X : List Int) (i : Nat) : Int := X.getD i 0
theorem iL_gp {X : List Int} {i : Nat} (h : i < X.length) : gp (iL X) i = .int .i64 (en X i) := by
  simp [iL, gp, en, List.getD, h]
theorem drop_en {L : List Int} {i : Nat} (h : i < L.length) : L.drop i = en L i :: L.drop (i + 1) := by
  rw [List.drop_eq_getElem_cons h]; simp [en, List.getD, h]
theorem listed_L (N : Nat) (p : PV) (m : Nat) (c : List PV) (ks : List Int) (hk : ks.length ≤ 1000) : ∀ (r i fuel : Nat) (last : Int), ks.length - i = r → r < fuel →
    m63_L0 N p ks.length (iL ks) fuel last (i : Int) (.lst false m c) = some (outE (lsE m last (ks.drop i)))
  | r, i, 0, _, _, h => by omega
  | r, i, f + 1, last, hr, hf => by
    have hl := iL_len ks
    rw [m63_L0]
    by_cases h : i < ks.length
    · have ih := listed_L N p m c ks hk (r - 1) (i + 1) f (en ks i) (by omega) (by omega)
      rw [brn_t (by simp; omega), toNatN, grd_t ⟨by omega, by omega⟩, grd_t (by simp only [List.length_drop]; omega), iL_gp h, drop_en h]
      simp only [getI, if_true, getL, lsE]
      by_cases h1 : en ks i < 0
      · rw [brn_t (by simpa using h1), if_pos h1]; rfl
      · rw [brn_f (by simpa using h1), if_neg h1]
        by_cases h2 : en ks i ≥ (m : Int)
        · rw [brn_t (by simpa using h2), if_pos h2]; rfl
        · rw [brn_f (by simpa using h2), if_neg h2]
          by_cases h3 : en ks i ≤ last
          · rw [brn_t (by simpa using h3), if_pos h3]; rfl
          · rw [brn_f (by simpa using h3), if_neg h3, wrapN (by omega)]; exact ih
    · rw [brn_f (by simp; omega), List.drop_eq_nil_of_le (by omega)]; rfl
def lstE (n : Int) (K : List (List (Int × Int))) (ks : List Int) : Int := if chk n K ≠ 0 then chk n K else lsE K.length (-1) ks
theorem listed_ok (N : Nat) (hN : 2000 ≤ N) (n : Int) (K : List (List (Int × Int))) (hK : K.length ≤ 1000) (hl : ∀ l ∈ K, l.length ≤ 1000) (ks : List Int) (hk : ks.length ≤ 1000) :
    m63 N (.agg [.int .i64 n, .lst false K.length (knsI K)]) (.lst false ks.length (iL ks)) = some (.int .i64 (lstE n K ks)) := by
  have e := listed_L N (.int .i64 n) K.length (knsI K) ks hk ks.length 0 N (-1) (by omega) (by omega)
  rw [List.drop_zero] at e
  simp only [m63, getA2, getL, check_ok N hN n K hK hl, bnd', getI, if_true]
  unfold lstE
  by_cases h : chk n K = 0
  · rw [brn_f (by simpa using h), if_neg (by simpa using h), show m63_L0 N (.int .i64 n) ks.length (iL ks) N (-1) 0 (.lst false K.length (knsI K)) = _ from e]
    exact outE_end
  · rw [brn_t (by simpa using h), if_pos h]
def cS (X : List Nat) : List Int := X.map fun (k : Nat) => (k : Int)
theorem cS_len (X : List Nat) : (cS X).length = X.length := by simp [cS]
theorem nL_iL (X : List Nat) : nL X = iL (cS X) := by simp [nL, iL, cS]
theorem lsE_fit {m : Nat} : ∀ (X : List Nat) (last : Int), (∀ k ∈ X, k < m) → (∀ k ∈ X, last < (k : Int)) → X.Pairwise (· < ·) → lsE m last (cS X) = 0
  | [], _, _, _, _ => rfl
  | x :: X, last, h1, h2, h3 => by
    have a1 := h1 x (.head _)
    have a2 := h2 x (.head _)
    obtain ⟨a3, a4⟩ := List.pairwise_cons.1 h3
    show lsE m last ((x : Int) :: cS X) = 0
    rw [lsE, if_neg (by omega), if_neg (by omega), if_neg (by omega)]
    exact lsE_fit X x (fun k hk => h1 k (.tail _ hk)) (fun k hk => by have := a3 k hk; omega) a4
/-- Rank of a crew as it should be -/
theorem Rank_ok (n : Nat) (K : List (List (Nat × Nat))) (hK : Fit n K) (ks : List Nat) (hk : ∀ k ∈ ks, k < K.length) (hs : ks.Pairwise (· < ·)) (hl : ks.length ≤ 100) :
    m17 2000 (crw n K) (.lst false ks.length (nL ks)) = some (.tup [.int .i64 (rk (pairsOf K ks) : Int), .int .i64 0]) := by
  have a1 := hK.many
  have e := listed_ok 2000 (by omega) (n : Int) (cK K) (by rw [cK_len]; omega) (fun l hl => by
    obtain ⟨l', h1, rfl⟩ := List.mem_map.1 hl
    have := hK.len _ h1
    rw [cL_len]; omega) (cS ks) (by rw [cS_len]; omega)
  rw [cS_len, ← nL_iL, cK_len] at e
  have r := rank_ok n K hK ks hk hl
  have z : lstE (n : Int) (cK K) (cS ks) = 0 := by
    unfold lstE
    rw [if_neg (by simpa using chk_fit hK), cK_len]
    exact lsE_fit ks (-1) hk (fun k _ => by omega) hs
  rw [z] at e
  simp only [m17, crw, getA2, getL, e, bnd', getI, if_true]
  rw [brn_f (b := ((0 : Int) != 0)) rfl, show m64 2000 (.agg [.int .i64 (n : Int), .lst false K.length (knsI (cK K))]) (.lst false ks.length (nL ks)) = _ from r]
  simp
end Go.Proofs.YtnponojgpkbagaaDoor

namespace Go.Proofs.YtnponojgpkbagaaDoor
open Go.V Go.Crew
set_option linter.unusedSectionVars false
set_option linter.unnecessarySimpa false

/-- pairs in order, below a bound -/
structure Sd (n c : Nat) (l : List (Nat × Nat)) : Prop where
  lt : ∀ p ∈ l, p.1 < p.2 ∧ p.2 < n ∧ p.1 * 5 + p.2 < c
  inc : l.Pairwise fun p q => p.1 * 5 + p.2 < q.1 * 5 + q.2
theorem Sd.mono {n c c' : Nat} {l : List (Nat × Nat)} (h : Sd n c l) (hc : c ≤ c') : Sd n c' l := ⟨fun p hp => by have := h.lt p hp; omega, h.inc⟩
theorem Sd.snoc {n c : Nat} {l : List (Nat × Nat)} (h : Sd n c l) {a b : Nat} (h1 : a < b) (h2 : b < n) (hc : c ≤ a * 5 + b) : Sd n (a * 5 + b + 1) (l ++ [(a, b)]) := by
  refine ⟨fun p hp => ?_, List.pairwise_append.2 ⟨h.inc, List.pairwise_singleton _ _, fun p hp q hq => ?_⟩⟩
  · rcases List.mem_append.1 hp with hp | hp
    · have := h.lt p hp; omega
    · simp only [List.mem_singleton] at hp; subst hp; simp only []; omega
  · simp only [List.mem_singleton] at hq; subst hq
    have := h.lt p hp
    simp only []; omega
theorem prsI_snoc (l : List (Nat × Nat)) (a b : Nat) : prsI (cL l) ++ [.int .i64 (a : Int), .int .i64 (b : Int)] = prsI (cL (l ++ [(a, b)])) := by simp [prsI, cL, cI, prI]
section
variable (N : Nat) (hN : 2000 ≤ N) (S Km M : Nat) (hM : M ≤ 6) (x y : Int) (X0 X1 X2 X3 X4 : Int) (n : Nat) (hn : n ≤ 5) (hB : IntKind.i64.wrap (1 + (Int.tmod (IntKind.i64.wrap x) (S : Int))) = (n : Int))
include hN hM hn hB
theorem made_L2 (p0 p1 p2 p3 p4 : PV) (z : Int) (nk : Nat) (ck : List PV) (set : Int) (a : Nat) : ∀ (r b fuel k : Nat) (l : List (Nat × Nat)), n - b = r → a < b → b ≤ n → l.length ≤ M → k + r ≤ 100 → r < fuel → Sd n (a * 5 + b) l →
    ∃ (l' : List (Nat × Nat)) (k' : Nat), m40_L2 N (S : Int) (Km : Int) (M : Int) p0 p1 p2 p3 p4 x y z nk ck set (a : Int) fuel l.length (k : Int) (b : Int) (prsI (cL l)) = some (l'.length, (k' : Int), prsI (cL l')) ∧ l'.length ≤ M ∧ k' = k + (n - b) ∧ Sd n (a * 5 + n) l'
  | r, b, 0, _, _, _, _, _, _, _, h, _ => by omega
  | r, b, f + 1, k, l, hr, hab, hb, hl, hk, hf, hs => by
    rw [m40_L2, hB]
    by_cases h : b < n
    · rw [brn_t (by simp; omega), grd_t (by omega)]
      have skip : ∃ (l' : List (Nat × Nat)) (k' : Nat), m40_L2 N (S : Int) (Km : Int) (M : Int) p0 p1 p2 p3 p4 x y z nk ck set (a : Int) f l.length (IntKind.i64.wrap ((k : Int) + 1)) (IntKind.i64.wrap ((b : Int) + 1)) (prsI (cL l)) = some (l'.length, (k' : Int), prsI (cL l')) ∧ l'.length ≤ M ∧ k' = k + (n - b) ∧ Sd n (a * 5 + n) l' := by
        obtain ⟨l', k', e1, e2, e3, e4⟩ := made_L2 p0 p1 p2 p3 p4 z nk ck set a (r - 1) (b + 1) f (k + 1) l (by omega) (by omega) (by omega) hl (by omega) (by omega) (hs.mono (by omega))
        rw [wrapN (by omega), wrapN (by omega)]
        exact ⟨l', k', e1, e2, by omega, e4⟩
      generalize hc : (bitsI .and .u16 (Int.fdiv set (2 ^ (min (Int.toNat (k : Int)) 16))) 1 == 1) = c
      cases c with
      | false => rw [brn_f rfl]; exact skip
      | true =>
        rw [brn_t rfl]
        by_cases hm : l.length < M
        · obtain ⟨l', k', e1, e2, e3, e4⟩ := made_L2 p0 p1 p2 p3 p4 z nk ck set a (r - 1) (b + 1) f (k + 1) (l ++ [(a, b)]) (by omega) (by omega) (by omega) (by simp; omega) (by omega) (by omega) (hs.snoc hab h (by omega))
          rw [brn_t (by simp; omega), grd_t (by omega), grd_t (by rw [prsI_len, cL_len]), wrapN (by omega), wrapN (by omega), prsI_snoc]
          rw [List.length_append] at e1
          exact ⟨l', k', e1, e2, by omega, e4⟩
        · rw [brn_f (by simp; omega)]; exact skip
    · rw [brn_f (by simp; omega)]
      exact ⟨l, k, rfl, hl, by omega, hs.mono (by omega)⟩
theorem made_L1 (p0 p1 p2 p3 p4 : PV) (z : Int) (nk : Nat) (ck : List PV) (set : Int) : ∀ (r a fuel k : Nat) (l : List (Nat × Nat)), n - a = r → a ≤ n → l.length ≤ M → k ≤ a * 5 → r < fuel → Sd n (a * 5) l → 
    ∃ l', m40_L1 N (S : Int) (Km : Int) (M : Int) p0 p1 p2 p3 p4 x y z nk ck set fuel l.length (k : Int) (a : Int) (prsI (cL l)) = some (l'.length, prsI (cL l')) ∧ l'.length ≤ M ∧ Sd n 25 l'
  | r, a, 0, _, _, _, _, _, _, h, _ => by omega
  | r, a, f + 1, k, l, hr, ha, hl, hk, hf, hs => by
    rw [m40_L1, hB]
    by_cases h : a < n
    · obtain ⟨l', k', e1, e2, e3, e4⟩ := made_L2 N hN S Km M hM x y n hn hB p0 p1 p2 p3 p4 z nk ck set a (n - (a + 1)) (a + 1) N k l rfl (by omega) (by omega) hl (by omega) (by omega) (hs.mono (by omega))
      obtain ⟨l2, f1, f2, f3⟩ := made_L1 p0 p1 p2 p3 p4 z nk ck set (r - 1) (a + 1) f k' l' (by omega) (by omega) e2 (by omega) (by omega) (e4.mono (by omega))
      rw [brn_t (by simp; omega), wrapN (by omega), e1]
      simp only [bnd']
      exact ⟨l2, f1, f2, f3⟩
    · rw [brn_f (by simp; omega)]
      exact ⟨l, rfl, hl, hs.mono (by omega)⟩
theorem made_L0 (m : Nat) (hm : (((Int.toNat (Int.tmod (IntKind.i64.wrap y) (IntKind.i64.wrap ((Km : Int) + 1)))) : Nat) : Int) = (m : Int)) (hm5 : m ≤ 5) : ∀ (r i fuel : Nat) (K : List (List (Nat × Nat))), m - i = r → i ≤ m → K.length = i → r < fuel → (∀ l ∈ K, l.length ≤ M ∧ Sd n 25 l) →
    ∃ K', m40_L0 N (S : Int) (Km : Int) (M : Int) (.int .u16 X0) (.int .u16 X1) (.int .u16 X2) (.int .u16 X3) (.int .u16 X4) x y fuel (i : Int) K.length (knsI (cK K)) = some (K'.length, knsI (cK K')) ∧ K'.length = m ∧ ∀ l ∈ K', l.length ≤ M ∧ Sd n 25 l
  | r, i, 0, _, _, _, _, h, _ => by omega
  | r, i, f + 1, K, hr, hi, hK, hf, hs => by
    have hkl : (knsI (cK K)).length = K.length := by rw [knsI_len, cK_len]
    rw [m40_L0, hm]
    by_cases h : i < m
    · rw [brn_t (by simp; omega), toNatN, grd_t ⟨by omega, by omega⟩, grd_t (by omega)]
      have go : ∀ set : Int, ∃ K', (bnd' (m40_L1 N (S : Int) (Km : Int) (M : Int) (.int .u16 X0) (.int .u16 X1) (.int .u16 X2) (.int .u16 X3) (.int .u16 X4) x y (i : Int) K.length (knsI (cK K)) set N 0 0 0 []) fun o =>
          match o with
          | (n693, c694) =>
            grd ((K.length + 1) ≤ 1099511627776) <|
            grd (List.length (knsI (cK K)) = K.length) <|
            grd (List.length c694 = (n693 * 2)) <|
            m40_L0 N (S : Int) (Km : Int) (M : Int) (.int .u16 X0) (.int .u16 X1) (.int .u16 X2) (.int .u16 X3) (.int .u16 X4) x y f (IntKind.i64.wrap ((i : Int) + 1)) (K.length + 1) (knsI (cK K) ++ [(.lst false n693 c694)])) = some (K'.length, knsI (cK K')) ∧ K'.length = m ∧ ∀ l ∈ K', l.length ≤ M ∧ Sd n 25 l := by
        intro set
        obtain ⟨l, e1, e2, e3⟩ := made_L1 N hN S Km M hM x y n hn hB (.int .u16 X0) (.int .u16 X1) (.int .u16 X2) (.int .u16 X3) (.int .u16 X4) (i : Int) K.length (knsI (cK K)) set n 0 N 0 [] (by omega) (by omega) (by simp) (by omega) (by omega) ⟨fun p hp => by simp at hp, .nil⟩
        obtain ⟨K', f1, f2, f3⟩ := made_L0 m hm hm5 (r - 1) (i + 1) f (K ++ [l]) (by omega) (by omega) (by simp; omega) (by omega) (fun q hq => by
          rcases List.mem_append.1 hq with hq | hq
          · exact hs q hq
          · simp only [List.mem_singleton] at hq; subst hq; exact ⟨e2, e3⟩)
        rw [show m40_L1 N (S : Int) (Km : Int) (M : Int) (.int .u16 X0) (.int .u16 X1) (.int .u16 X2) (.int .u16 X3) (.int .u16 X4) x y (i : Int) K.length (knsI (cK K)) set N 0 0 0 [] = _ from e1]
        simp only [bnd']
        rw [grd_t (by omega), grd_t hkl, grd_t (by rw [prsI_len, cL_len]), wrapN (by omega)]
        have e : knsI (cK K) ++ [PV.lst false l.length (prsI (cL l))] = knsI (cK (K ++ [l])) := by simp [knsI, cK, knI, cL_len]
        rw [e]
        rw [List.length_append] at f1
        exact ⟨K', f1, f2, f3⟩
      have : i = 0 ∨ i = 1 ∨ i = 2 ∨ i = 3 ∨ i = 4 := by omega
      rcases this with rfl | rfl | rfl | rfl | rfl
      · exact go X0
      · exact go X1
      · exact go X2
      · exact go X3
      · exact go X4
    · rw [brn_f (by simp; omega)]
      exact ⟨K, rfl, by omega, hs⟩
end
theorem Sd_fit {n : Nat} {K : List (List (Nat × Nat))} {M : Nat} (h1 : 1 ≤ n) (h5 : n ≤ 5) (hM : M ≤ 6) (hK : K.length ≤ 5) (h : ∀ l ∈ K, l.length ≤ M ∧ Sd n 25 l) : Fit n K :=
  ⟨h1, h5, hK, fun l hl => by have := (h l hl).1; omega, fun l hl p hp => by have := (h l hl).2.lt p hp; omega, fun l hl => (h l hl).2.inc.imp fun {p q} hpq e => by subst e; omega⟩
theorem made_ok (x y : Nat) (hx : x ≤ 255) (hy : y ≤ 255) (X0 X1 X2 X3 X4 : Int) (S Km M : Nat) (hS : 1 ≤ S) (hS5 : S ≤ 5) (hK : Km ≤ 5) (hM : M ≤ 6) :
    ∃ n K, m40 2000 (.agg [.int .u8 (x : Int), .int .u8 (y : Int), .int .u16 X0, .int .u16 X1, .int .u16 X2, .int .u16 X3, .int .u16 X4]) (S : Int) (Km : Int) (M : Int) = some (crw n K) ∧ Fit n K ∧ n ≤ S ∧ K.length ≤ Km ∧ ∀ l ∈ K, l.length ≤ M := by
  have w1 : IntKind.i64.wrap (x : Int) = (x : Int) := wrap64 (by omega) (by omega)
  have w2 : IntKind.i64.wrap (y : Int) = (y : Int) := wrap64 (by omega) (by omega)
  have w3 : IntKind.i64.wrap ((Km : Int) + 1) = ((Km + 1 : Nat) : Int) := wrapN (by omega)
  have t1 : Int.tmod (x : Int) (S : Int) = ((x % S : Nat) : Int) := by rw [Int.tmod_eq_emod_of_nonneg (by omega)]; omega
  have t2 : Int.tmod (y : Int) ((Km + 1 : Nat) : Int) = ((y % (Km + 1) : Nat) : Int) := by rw [Int.tmod_eq_emod_of_nonneg (by omega)]; omega
  have m1 : x % S < S := Nat.mod_lt _ (by omega)
  have m2 : y % (Km + 1) < Km + 1 := Nat.mod_lt _ (by omega)
  have hB : IntKind.i64.wrap (1 + (Int.tmod (IntKind.i64.wrap (x : Int)) (S : Int))) = ((1 + x % S : Nat) : Int) := by
    rw [w1, t1, wrap64 (by omega) (by omega)]; omega
  have hm : (((Int.toNat (Int.tmod (IntKind.i64.wrap (y : Int)) (IntKind.i64.wrap ((Km : Int) + 1)))) : Nat) : Int) = ((y % (Km + 1) : Nat) : Int) := by
    rw [w2, w3, t2, toNatN]
  obtain ⟨K, k1, k2, k3⟩ := made_L0 2000 (by omega) S Km M hM (x : Int) (y : Int) X0 X1 X2 X3 X4 (1 + x % S) (by omega) hB (y % (Km + 1)) hm (by omega) (y % (Km + 1)) 0 2000 [] (by omega) (by omega) rfl (by omega) (fun l hl => by cases hl)
  have hkl : (knsI (cK K)).length = K.length := by rw [knsI_len, cK_len]
  refine ⟨1 + x % S, K, ?_, Sd_fit (by omega) (by omega) hM (by omega) k3, by omega, by omega, fun l hl => (k3 l hl).1⟩
  simp only [m40, getA7, getI, if_true]
  rw [grd_t (by omega), grd_t (by rw [w3]; omega), grd_t (by rw [w2, w3, t2]; omega), show m40_L0 2000 (S : Int) (Km : Int) (M : Int) (.int .u16 X0) (.int .u16 X1) (.int .u16 X2) (.int .u16 X3) (.int .u16 X4) (x : Int) (y : Int) 2000 0 0 [] = _ from k1]
  simp only [bnd']
  rw [grd_t hkl, hB]
  rfl
end Go.Proofs.YtnponojgpkbagaaDoor

namespace Go.Proofs.YtnponojgpkbagaaDoor
open Go.V Go.Crew
set_option linter.unusedSectionVars false
set_option linter.unnecessarySimpa false

def mem (s : Nat) : List Nat := (List.range 5).filter fun k => s.testBit k
theorem members_ok : ∀ (s : Nat), s < 32 → m45 2000 (s : Int) = some (.lst false (mem s).length (nL (mem s)))
  | 0, _ => by kernel_rfl
  | 1, _ => by kernel_rfl
  | 2, _ => by kernel_rfl
  | 3, _ => by kernel_rfl
  | 4, _ => by kernel_rfl
  | 5, _ => by kernel_rfl
  | 6, _ => by kernel_rfl
  | 7, _ => by kernel_rfl
  | 8, _ => by kernel_rfl
  | 9, _ => by kernel_rfl
  | 10, _ => by kernel_rfl
  | 11, _ => by kernel_rfl
  | 12, _ => by kernel_rfl
  | 13, _ => by kernel_rfl
  | 14, _ => by kernel_rfl
  | 15, _ => by kernel_rfl
  | 16, _ => by kernel_rfl
  | 17, _ => by kernel_rfl
  | 18, _ => by kernel_rfl
  | 19, _ => by kernel_rfl
  | 20, _ => by kernel_rfl
  | 21, _ => by kernel_rfl
  | 22, _ => by kernel_rfl
  | 23, _ => by kernel_rfl
  | 24, _ => by kernel_rfl
  | 25, _ => by kernel_rfl
  | 26, _ => by kernel_rfl
  | 27, _ => by kernel_rfl
  | 28, _ => by kernel_rfl
  | 29, _ => by kernel_rfl
  | 30, _ => by kernel_rfl
  | 31, _ => by kernel_rfl
  | n + 32, h => by omega
theorem full_ok (N m : Nat) (p : PV) (c : List PV) (h : m ≤ 5) : m42 N (.agg [p, .lst false m c]) = some (.int .u64 ((2 ^ m - 1 : Nat) : Int)) := by
  have : m = 0 ∨ m = 1 ∨ m = 2 ∨ m = 3 ∨ m = 4 ∨ m = 5 := by omega
  rcases this with rfl | rfl | rfl | rfl | rfl | rfl <;> rfl
theorem all_range {p : Nat → Bool} {n : Nat} (h : (List.range n).all p = true) {k : Nat} (hk : k < n) : p k = true := List.all_eq_true.1 h k (List.mem_range.2 hk)
theorem and8_all : ((List.range 256).all fun x => (List.range 6).all fun m => bitsI .and .u64 (IntKind.u64.wrap (x : Int)) ((2 ^ m - 1 : Nat) : Int) == ((x % 2 ^ m : Nat) : Int)) = true := by kernel_rfl
theorem and8 {x m : Nat} (hx : x ≤ 255) (hm : m ≤ 5) : bitsI .and .u64 (IntKind.u64.wrap (x : Int)) ((2 ^ m - 1 : Nat) : Int) = ((x % 2 ^ m : Nat) : Int) := by
  simpa using all_range (all_range and8_all (k := x) (by omega)) (k := m) (by omega)
def dif (a b : Nat) : Nat := a - (a &&& b)
theorem ops_all : ((List.range 32).all fun a => (List.range 32).all fun b => bitsI .or .u64 (a : Int) (b : Int) == ((a ||| b : Nat) : Int) && (bitsI .and .u64 (a : Int) (b : Int) == ((a &&& b : Nat) : Int)) && (bitsI .andNot .u64 (a : Int) (b : Int) == ((dif a b : Nat) : Int))
    && decide ((a ||| b) < 32) && decide ((a &&& b) < 32) && decide (dif a b < 32)) = true := by kernel_rfl
theorem ops {a b : Nat} (ha : a < 32) (hb : b < 32) : bitsI .or .u64 (a : Int) (b : Int) = ((a ||| b : Nat) : Int) ∧ bitsI .and .u64 (a : Int) (b : Int) = ((a &&& b : Nat) : Int) ∧ bitsI .andNot .u64 (a : Int) (b : Int) = ((dif a b : Nat) : Int) ∧ (a ||| b) < 32 ∧ (a &&& b) < 32 ∧ dif a b < 32 := by
  have := all_range (all_range ops_all (k := a) ha) (k := b) hb
  simp only [Bool.and_eq_true, beq_iff_eq, decide_eq_true_eq] at this
  obtain ⟨⟨⟨⟨⟨h1, h2⟩, h3⟩, h4⟩, h5⟩, h6⟩ := this
  exact ⟨h1, h2, h3, h4, h5, h6⟩
theorem mem_all : ((List.range 32).all fun a => (List.range 32).all fun b => (List.range 5).all fun k => ((mem (a ||| b)).contains k == ((mem a).contains k || (mem b).contains k)) && ((mem (a &&& b)).contains k == ((mem a).contains k && (mem b).contains k)) && ((mem (dif a b)).contains k == ((mem a).contains k && !(mem b).contains k))) = true := by kernel_rfl
theorem mem_five {s k : Nat} (h : k ∈ mem s) : k < 5 := by
  have := (List.mem_filter.1 h).1
  simpa using this
theorem mem_ops {a b : Nat} (ha : a < 32) (hb : b < 32) (k : Nat) : (k ∈ mem (a ||| b) ↔ k ∈ mem a ∨ k ∈ mem b) ∧ (k ∈ mem (a &&& b) ↔ k ∈ mem a ∧ k ∈ mem b) ∧ (k ∈ mem (dif a b) ↔ k ∈ mem a ∧ k ∉ mem b) := by
  by_cases hk : k < 5
  · have := all_range (all_range (all_range mem_all (k := a) ha) (k := b) hb) (k := k) hk
    simp only [Bool.and_eq_true, beq_iff_eq] at this
    obtain ⟨⟨h1, h2⟩, h3⟩ := this
    refine ⟨?_, ?_, ?_⟩
    · rw [← List.contains_iff_mem, h1]; simp
    · rw [← List.contains_iff_mem, h2]; simp
    · rw [← List.contains_iff_mem, h3]; simp
  · have : ∀ s, k ∉ mem s := fun s h => hk (mem_five h)
    simp [this]
theorem mem_lt_all : ((List.range 6).all fun m => (List.range (2 ^ m)).all fun s => (mem s).all fun k => decide (k < m)) = true := by kernel_rfl
theorem mem_lt {s m : Nat} (hm : m ≤ 5) (hs : s < 2 ^ m) : ∀ k ∈ mem s, k < m := fun k hk => by
  have := List.all_eq_true.1 (all_range (all_range mem_lt_all (k := m) (by omega)) (k := s) hs) k hk
  simpa using this
theorem mem_inc (s : Nat) : (mem s).Pairwise (· < ·) := List.Pairwise.filter _ List.pairwise_lt_range
theorem mem_len (s : Nat) : (mem s).length ≤ 5 := by
  have := List.length_filter_le (fun k => s.testBit k) (List.range 5)
  simpa [mem] using this
theorem mem_pairs {K : List (List (Nat × Nat))} {ks : List Nat} {p : Nat × Nat} : p ∈ pairsOf K ks ↔ ∃ k ∈ ks, p ∈ kN K k := List.mem_flatMap

theorem sum_L (N : Nat) (n : Nat) (K : List (List (Nat × Nat))) (hK : Fit n K) (a1 a2 a3 a4 a5 : Int) (ks : List Nat) (hk : ∀ k ∈ ks, k < K.length) (hl : ks.length ≤ 100) (a : Nat) (ha : a ≤ 1000) : ∀ (r i fuel : Nat), ks.length - i = r → i ≤ ks.length → r < fuel →
    m10_L0 N a1 a2 a3 a4 a5 ks.length (nL ks) fuel ((a + (pairsOf K (ks.take i)).length : Nat) : Int) (i : Int) (.lst false K.length (knsI (cK K))) = some (((a + (pairsOf K ks).length : Nat) : Int), .lst false K.length (knsI (cK K)))
  | r, i, 0, _, _, h => by omega
  | r, i, f + 1, hr, hi, hf => by
    have hnl := nL_len ks
    have hkl : (knsI (cK K)).length = K.length := by rw [knsI_len, cK_len]
    rw [m10_L0]
    by_cases h : i < ks.length
    · have ih := sum_L N n K hK a1 a2 a3 a4 a5 ks hk hl a ha (r - 1) (i + 1) f (by omega) (by omega) (by omega)
      have hx := hk _ (nn_mem h)
      have h6 := kN_len hK (k := nn ks i)
      have h7 := pairsOf_len hK (ks.take i)
      rw [List.length_take] at h7
      rw [brn_t (by simp; omega), toNatN, grd_t ⟨by omega, by omega⟩, grd_t (by simp only [List.length_drop]; omega), nL_gp h]
      simp only [getI, if_true, getL, toNatN]
      rw [grd_t ⟨by omega, by omega⟩, grd_t (by simp only [List.length_drop]; omega), knsI_gp (by rw [cK_len]; exact hx), cK_kI hx]
      simp only [cL_len]
      rw [wrapN (by omega), wrap64 (by omega) (by omega)]
      have e : pairsOf K (ks.take i) ++ kN K (nn ks i) = pairsOf K (ks.take (i + 1)) := by
        rw [List.take_add_one]
        have : ks[i]? = some (nn ks i) := by simp [nn, List.getD, h]
        rw [this]
        simp [pairsOf]
      rw [show (((a + (pairsOf K (ks.take i)).length : Nat) : Int) + ((kN K (nn ks i)).length : Int)) = ((a + (pairsOf K (ks.take (i + 1))).length : Nat) : Int) by rw [← e, List.length_append]; omega]
      exact ih
    · rw [brn_f (by simp; omega), List.take_of_length_le (by omega)]
theorem bnd_t {α β : Type} {x : α} {f : α → Option β} : bnd' (some x) f = f x := rfl
theorem getI_t {α : Type} {k : IntKind} {x : Int} {f : Int → Option α} : getI k (.int k x) f = f x := by simp [getI]
theorem getL_t {α : Type} {n : Nat} {c : List PV} {f : Nat → List PV → Option α} : getL (.lst false n c) f = f n c := rfl
theorem getT2_t {α : Type} {a b : PV} {f : PV → PV → Option α} : getT2 (.tup [a, b]) f = f a b := rfl
theorem getA2_t {α : Type} {a b : PV} {f : PV → PV → Option α} : getA2 (.agg [a, b]) f = f a b := rfl
theorem getA7_t {α : Type} {a b c d e g h : PV} {f : PV → PV → PV → PV → PV → PV → PV → Option α} : getA7 (.agg [a, b, c, d, e, g, h]) f = f a b c d e g h := rfl
theorem run10 (N : Nat) (g0 g1 g2 g3 g4 g5 g6 : PV) (u v n fl s t o a d x1 x2 x3 x4 y : Int) (m k1 k2 k3 k4 k5 : Nat) (c c1 c2 c3 c4 c5 : List PV) (q : PV)
    (h0 : m40 N (.agg [g0, g1, g2, g3, g4, g5, g6]) 5 5 6 = some (.agg [.int .i64 n, .lst false m c])) (h1 : m42 N (.agg [.int .i64 n, .lst false m c]) = some (.int .u64 fl))
    (hs : bitsI .and .u64 (IntKind.u64.wrap u) fl = s) (ht : bitsI .and .u64 (IntKind.u64.wrap v) fl = t) (ho : bitsI .or .u64 s t = o) (ha : bitsI .and .u64 s t = a) (hd : bitsI .andNot .u64 t s = d)
    (e1 : m45 N s = some (.lst false k1 c1)) (e2 : m45 N t = some (.lst false k2 c2)) (e3 : m45 N o = some (.lst false k3 c3)) (e4 : m45 N a = some (.lst false k4 c4)) (e5 : m45 N d = some (.lst false k5 c5))
    (r1 : m17 N (.agg [.int .i64 n, .lst false m c]) (.lst false k1 c1) = some (.tup [.int .i64 x1, .int .i64 0])) (r2 : m17 N (.agg [.int .i64 n, .lst false m c]) (.lst false k2 c2) = some (.tup [.int .i64 x2, .int .i64 0]))
    (r3 : m17 N (.agg [.int .i64 n, .lst false m c]) (.lst false k3 c3) = some (.tup [.int .i64 x3, .int .i64 0])) (r4 : m17 N (.agg [.int .i64 n, .lst false m c]) (.lst false k4 c4) = some (.tup [.int .i64 x4, .int .i64 0]))
    (sl : m10_L0 N n x1 x2 x3 x4 k5 c5 N x1 0 (.lst false m c) = some (y, q))
    (q1 : IntKind.i64.wrap (x3 + x4) ≤ IntKind.i64.wrap (x1 + x2)) (q2 : x3 ≥ maxI x1 x2) (q3 : x4 ≤ minI x1 x2) (q4 : x3 ≤ y) (q5 : x3 < n) (q6 : x4 ≥ 0) :
    m10 N (.agg [g0, g1, g2, g3, g4, g5, g6]) u v = some (.bool true) := by
  rw [m10, getA7_t, h0, bnd_t, getA2_t, getI_t, h1, bnd_t, getI_t, bnd_t, getI_t, hs, ht, ho, ha, hd, e1, bnd_t, getL_t, r1, bnd_t, getT2_t, getI_t, getI_t, e2, bnd_t, getL_t, r2, bnd_t, getT2_t, getI_t, getI_t, e3, bnd_t, getL_t, r3, bnd_t, getT2_t, getI_t, getI_t, e4, bnd_t, getL_t, r4, bnd_t, getT2_t, getI_t, getI_t]
  rw [brn_f (b := ((0 : Int) != 0)) rfl, brn_f (b := ((0 : Int) != 0)) rfl, brn_f (b := ((0 : Int) != 0)) rfl, brn_f (b := ((0 : Int) != 0)) rfl, e5, bnd_t, getL_t, sl, bnd_t]
  show brn _ _ _ = _
  rw [brn_t (decide_eq_true q1), brn_t (decide_eq_true q2), brn_t (decide_eq_true q3), brn_t (decide_eq_true q4), brn_t (decide_eq_true q5), brn_t (decide_eq_true q6)]
  rfl
theorem law10 (x y u v : Nat) (hx : x ≤ 255) (hy : y ≤ 255) (hu : u ≤ 255) (hv : v ≤ 255) (X0 X1 X2 X3 X4 : Int) :
    m10 2000 (.agg [.int .u8 (x : Int), .int .u8 (y : Int), .int .u16 X0, .int .u16 X1, .int .u16 X2, .int .u16 X3, .int .u16 X4]) (u : Int) (v : Int) = some (.bool true) := by
  obtain ⟨n, K, e, hK, _, _, _⟩ := made_ok x y hx hy X0 X1 X2 X3 X4 5 5 6 (by omega) (by omega) (by omega) (by omega)
  have hm := hK.many
  have hp : 2 ^ K.length ≤ 32 := Nat.pow_le_pow_right (n := 2) (by omega) hm
  have p1 : u % 2 ^ K.length < 2 ^ K.length := Nat.mod_lt _ (Nat.pow_pos (by omega))
  have p2 : v % 2 ^ K.length < 2 ^ K.length := Nat.mod_lt _ (Nat.pow_pos (by omega))
  generalize hs : u % 2 ^ K.length = s at p1
  generalize ht : v % 2 ^ K.length = t at p2
  have b1 := and8 hu hm
  have b2 := and8 hv hm
  rw [hs] at b1
  rw [ht] at b2
  obtain ⟨o1, o2, _, q1, q2, _⟩ := ops (a := s) (b := t) (by omega) (by omega)
  obtain ⟨_, _, o3, _, _, q3⟩ := ops (a := t) (b := s) (by omega) (by omega)
  have mo := fun k => mem_ops (a := s) (b := t) (by omega) (by omega) k
  have md := fun k => (mem_ops (a := t) (b := s) (by omega) (by omega) k).2.2
  have l1 := mem_lt hm p1
  have l2 := mem_lt hm p2
  have l3 : ∀ k ∈ mem (s ||| t), k < K.length := fun k hk => by
    rcases (mo k).1.1 hk with h | h
    · exact l1 k h
    · exact l2 k h
  have l4 : ∀ k ∈ mem (s &&& t), k < K.length := fun k hk => l1 k ((mo k).2.1.1 hk).1
  have l5 : ∀ k ∈ mem (dif t s), k < K.length := fun k hk => l2 k ((md k).1 hk).1
  have ln := mem_len
  have R := fun (ks : List Nat) hk hi hl => Rank_ok n K hK ks hk hi hl
  have r1 := R (mem s) l1 (mem_inc s) (by have := ln s; omega)
  have r2 := R (mem t) l2 (mem_inc t) (by have := ln t; omega)
  have r3 := R (mem (s ||| t)) l3 (mem_inc _) (by have := ln (s ||| t); omega)
  have r4 := R (mem (s &&& t)) l4 (mem_inc _) (by have := ln (s &&& t); omega)
  have e1 := members_ok s (by omega)
  have e2 := members_ok t (by omega)
  have e3 := members_ok (s ||| t) q1
  have e4 := members_ok (s &&& t) q2
  have e5 := members_ok (dif t s) q3
  have A := fun ks => pairsOf_ok hK (ks := ks)
  -- the laws of ranks
  have c1 : rk (pairsOf K (mem (s ||| t))) + rk (pairsOf K (mem (s &&& t))) ≤ rk (pairsOf K (mem s)) + rk (pairsOf K (mem t)) := by
    refine rk_sub (A _) (A _) (A _) (A _) (A (mem (dif t s))) (fun p => ?_) (fun p => ?_) (fun p hp => ?_)
    · simp only [mem_pairs]
      constructor
      · rintro ⟨k, hk, hp⟩
        rcases (mo k).1.1 hk with h | h
        · exact .inl ⟨k, h, hp⟩
        · by_cases h' : k ∈ mem s
          · exact .inl ⟨k, h', hp⟩
          · exact .inr ⟨k, (md k).2 ⟨h, h'⟩, hp⟩
      · rintro (⟨k, hk, hp⟩ | ⟨k, hk, hp⟩)
        · exact ⟨k, (mo k).1.2 (.inl hk), hp⟩
        · exact ⟨k, (mo k).1.2 (.inr ((md k).1 hk).1), hp⟩
    · simp only [mem_pairs]
      constructor
      · rintro ⟨k, hk, hp⟩
        by_cases h' : k ∈ mem s
        · exact .inl ⟨k, (mo k).2.1.2 ⟨h', hk⟩, hp⟩
        · exact .inr ⟨k, (md k).2 ⟨hk, h'⟩, hp⟩
      · rintro (⟨k, hk, hp⟩ | ⟨k, hk, hp⟩)
        · exact ⟨k, ((mo k).2.1.1 hk).2, hp⟩
        · exact ⟨k, ((md k).1 hk).1, hp⟩
    · obtain ⟨k, hk, hp⟩ := mem_pairs.1 hp
      exact mem_pairs.2 ⟨k, ((mo k).2.1.1 hk).1, hp⟩
  have c2 : rk (pairsOf K (mem s)) ≤ rk (pairsOf K (mem (s ||| t))) := rk_mono (A _) (A _) fun p hp => by
    obtain ⟨k, hk, hp⟩ := mem_pairs.1 hp
    exact mem_pairs.2 ⟨k, (mo k).1.2 (.inl hk), hp⟩
  have c3 : rk (pairsOf K (mem t)) ≤ rk (pairsOf K (mem (s ||| t))) := rk_mono (A _) (A _) fun p hp => by
    obtain ⟨k, hk, hp⟩ := mem_pairs.1 hp
    exact mem_pairs.2 ⟨k, (mo k).1.2 (.inr hk), hp⟩
  have c4 : rk (pairsOf K (mem (s &&& t))) ≤ rk (pairsOf K (mem s)) := rk_mono (A _) (A _) fun p hp => by
    obtain ⟨k, hk, hp⟩ := mem_pairs.1 hp
    exact mem_pairs.2 ⟨k, ((mo k).2.1.1 hk).1, hp⟩
  have c5 : rk (pairsOf K (mem (s &&& t))) ≤ rk (pairsOf K (mem t)) := rk_mono (A _) (A _) fun p hp => by
    obtain ⟨k, hk, hp⟩ := mem_pairs.1 hp
    exact mem_pairs.2 ⟨k, ((mo k).2.1.1 hk).2, hp⟩
  have c6 : rk (pairsOf K (mem (s ||| t))) ≤ rk (pairsOf K (mem s)) + (pairsOf K (mem (dif t s))).length := by
    have e : rk (pairsOf K (mem (s ||| t))) = rk (pairsOf K (mem s) ++ pairsOf K (mem (dif t s))) := rk_set (A _) (ok_app (A _) (A _)) fun p => by
      rw [List.mem_append]
      simp only [mem_pairs]
      constructor
      · rintro ⟨k, hk, hp⟩
        rcases (mo k).1.1 hk with h | h
        · exact .inl ⟨k, h, hp⟩
        · by_cases h' : k ∈ mem s
          · exact .inl ⟨k, h', hp⟩
          · exact .inr ⟨k, (md k).2 ⟨h, h'⟩, hp⟩
      · rintro (⟨k, hk, hp⟩ | ⟨k, hk, hp⟩)
        · exact ⟨k, (mo k).1.2 (.inl hk), hp⟩
        · exact ⟨k, (mo k).1.2 (.inr ((md k).1 hk).1), hp⟩
    rw [e, rk_app]
    have := cntJ_le (pairsOf K (mem (dif t s))) (runJ apt (pairsOf K (mem s)))
    omega
  have c7 : rk (pairsOf K (mem (s ||| t))) < n := rk_lt hK.n1 hK.n5 (pairsOf_lt hK)
  have d1 := rk_lt hK.n1 hK.n5 (pairsOf_lt hK (ks := mem s))
  have d2 := rk_lt hK.n1 hK.n5 (pairsOf_lt hK (ks := mem t))
  have h5 := hK.n5
  have sl := sum_L 2000 n K hK (n : Int) (rk (pairsOf K (mem s)) : Int) (rk (pairsOf K (mem t)) : Int) (rk (pairsOf K (mem (s ||| t))) : Int) (rk (pairsOf K (mem (s &&& t))) : Int) (mem (dif t s)) l5 (by have := ln (dif t s); omega) (rk (pairsOf K (mem s))) (by omega) (mem (dif t s)).length 0 2000 (by omega) (by omega) (by have := ln (dif t s); omega)
  generalize rk (pairsOf K (mem (s ||| t))) = aor at *
  generalize rk (pairsOf K (mem (s &&& t))) = aand at *
  generalize rk (pairsOf K (mem s)) = ra at *
  generalize rk (pairsOf K (mem t)) = rb at *
  have f1 := full_ok 2000 K.length (.int .i64 (n : Int)) (knsI (cK K)) hm
  unfold crw at r1 r2 r3 r4 e
  simp only [List.take_zero, show pairsOf K ([] : List Nat) = [] from rfl, List.length_nil, Nat.add_zero] at sl
  refine run10 2000 _ _ _ _ _ _ _ _ _ _ _ _ _ _ _ _ _ _ _ _ _ _ _ _ _ _ _ _ _ _ _ _ _ _ e f1 b1 b2 o1 o2 o3 e1 e2 e3 e4 e5 r1 r2 r3 r4 sl ?_ ?_ ?_ ?_ ?_ ?_
  · rw [wrap64 (by omega) (by omega), wrap64 (by omega) (by omega)]; omega
  · rw [maxI_max]; omega
  · rw [minI_min]; omega
  · omega
  · omega
  · omega
end Go.Proofs.YtnponojgpkbagaaDoor

namespace Go.Proofs.YtnponojgpkbagaaDoor
open Go.V

theorem u8_of {x : PV} (h : PT tab 5 [x]) : ∃ n : Nat, x = .int .u8 (n : Int) ∧ n ≤ 255 := by
  obtain ⟨a, e, b1, b2⟩ := h.int' tl5 rfl
  cases e
  simp [IntKind.min, IntKind.max, IntKind.signed, IntKind.bits] at b1 b2
  exact ⟨a.toNat, by congr 1; omega, by omega⟩
theorem u16_of {x : List PV} (h : PT tab 52 x) : ∃ n : Int, x = [.int .u16 n] := by
  obtain ⟨a, e, _⟩ := h.int' tl52 rfl
  exact ⟨a, e⟩
theorem gang_of {qs : List PV} (h : PT tab 55 qs) : ∃ (x y : Nat) (X0 X1 X2 X3 X4 : Int), qs = [.int .u8 (x : Int), .int .u8 (y : Int), .int .u16 X0, .int .u16 X1, .int .u16 X2, .int .u16 X3, .int .u16 X4] ∧ x ≤ 255 ∧ y ≤ 255 := by
  obtain ⟨a, rs, rfl, ha, h⟩ := (h.structs tl55 rfl).cons'
  obtain ⟨b, rs, rfl, hb, h⟩ := h.cons'
  obtain ⟨c, rs, rfl, hc, h⟩ := h.cons'
  obtain rfl := h.nil'
  obtain ⟨a', ea, _⟩ := ha.int' tl5 rfl
  obtain ⟨b', eb, _⟩ := hb.int' tl5 rfl
  subst ea; subst eb
  obtain ⟨x, ex, hx⟩ := u8_of ha
  obtain ⟨y, ey, hy⟩ := u8_of hb
  obtain ⟨xs, rfl, hl, hxs⟩ := hc.arr' tl53 rfl
  match xs, hl with
  | [x0, x1, x2, x3, x4], _ =>
    obtain ⟨X0, rfl⟩ := u16_of (hxs x0 (by simp))
    obtain ⟨X1, rfl⟩ := u16_of (hxs x1 (by simp))
    obtain ⟨X2, rfl⟩ := u16_of (hxs x2 (by simp))
    obtain ⟨X3, rfl⟩ := u16_of (hxs x3 (by simp))
    obtain ⟨X4, rfl⟩ := u16_of (hxs x4 (by simp))
    refine ⟨x, y, X0, X1, X2, X3, X4, ?_, hx, hy⟩
    rw [ex, ey]; rfl
theorem con10 (x0 : List PV) (h0 : PT tab 55 x0) (x1 : PV) (h1 : PT tab 5 [x1]) (x2 : PV) (h2 : PT tab 5 [x2]) : FnP Tryd.prog 10 [.agg x0, x1, x2] (.bool true) := by
  obtain ⟨x, y, X0, X1, X2, X3, X4, rfl, hx, hy⟩ := gang_of h0
  obtain ⟨u, rfl, hu⟩ := u8_of h1
  obtain ⟨v, rfl, hv⟩ := u8_of h2
  exact c10 2000 _ _ _ _ (law10 x y u v hx hy hu hv X0 X1 X2 X3 X4)
end Go.Proofs.YtnponojgpkbagaaDoor

namespace Go.Proofs.YtnponojgpkbagaaDoor.crewRanks
open Go.ChangeShapes Go.WideShapes Go.ChangeAt Go.RowKit Go.V

theorem own : ownKnob Tryd.prog.godebug = none := by kernel_rfl
theorem laid : laidOutB Tryd.prog = true := by kernel_rfl
set_option maxRecDepth 100000 in
theorem lifted (os : Os) (started : os.Started) (H : Type) (enc : TypeId × Value → H) :
    ReturnsInHanded {} Tryd.checked os 10 .any (fun w args => (Rows.crewRanksSpec.pre enc Tryd.prog Tryd.f10 [] false w args ∧ laidMetH Tryd.prog [("math/bits.deBruijn32tab", Rows.laid_math_bits_deBruijn32tab), ("math/bits.deBruijn64tab", Rows.laid_math_bits_deBruijn64tab)] w) ∧ sizedMet enc Tryd.prog Tryd.f10 (OpenSpec.ofChange Rows.crewRanksSpec) false w args)
      (Rows.crewRanksSpec.post enc Tryd.prog Tryd.f10 false true false false) := by
  refine returnsInHanded_of_change_and (C := Tryd.checked) (X := fun w _ => laidMetH Tryd.prog [("math/bits.deBruijn32tab", Rows.laid_math_bits_deBruijn32tab), ("math/bits.deBruijn64tab", Rows.laid_math_bits_deBruijn64tab)] w) (fun _ _ _ hh h => h.of_heap hh) own started (by kernel_rfl) Tryd.func10
    (ChangeSpec.witness_shaped (enc := enc) (C := Tryd.checked) (os := os) (X := fun w _ => laidMetH Tryd.prog [("math/bits.deBruijn32tab", Rows.laid_math_bits_deBruijn32tab), ("math/bits.deBruijn64tab", Rows.laid_math_bits_deBruijn64tab)] w) false (World.laidAll Tryd.prog os [("math/bits.deBruijn32tab", Rows.laid_math_bits_deBruijn32tab), ("math/bits.deBruijn64tab", Rows.laid_math_bits_deBruijn64tab)]) #[.agg #[.int .u8 0, .int .u8 0, .int .u16 0, .int .u16 0, .int .u16 0, .int .u16 0, .int .u16 0], .int .u8 0, .int .u8 0] 8 (World.laidAll_os _ _ _)
      (World.shaped_of_ZipB (by kernel_rfl) (by kernel_rfl)) (by kernel_rfl) (by kernel_rfl) (by kernel_rfl)
      (by rw [MakeChecks.laidMetH_plain _ _ _ (by kernel_rfl)]; exact laidMet_laidAll _ (by kernel_rfl) (by kernel_rfl))) ?_
  intro W base args ds gs before hval0 hW _ _ hL _
  have hW' := hW
  obtain ⟨p, q, hA0, hV, rfl, hfz, hnd⟩ := hW
  have hA : DataW.TrodAll enc Tryd.prog W 0 (fun _ => true) true Tryd.f10.params.toList args.toList ds p := hA0
  rw [Tryd.params10] at hA
  obtain ⟨v0, vs0, d0, ds0, p0, q0, e0, rfl, rfl, h0, hr0⟩ := trodAll_cons hA
  obtain ⟨v1, vs1, d1, ds1, p1, q1, e1, rfl, rfl, h1, hr1⟩ := trodAll_cons hr0
  obtain ⟨v2, vs2, d2, ds2, p2, q2, e2, rfl, rfl, h2, hr2⟩ := trodAll_cons hr1
  obtain ⟨rfl, rfl, rfl⟩ := trodAll_nil hr2
  subst e2
  subst e1
  obtain rfl : args = #[v0, v1, v2] := by cases args; simp_all
  obtain ⟨x0, k0, t0⟩ := arg_agg (n := 8) tab_ok (hval0 0 55 v0 rfl rfl) h0 (by kernel_rfl) (by kernel_rfl)
  obtain ⟨x1, k1, t1⟩ := arg_one (n := 8) tab_ok (hval0 1 5 v1 rfl rfl) h1 (by kernel_rfl) (by kernel_rfl)
  obtain ⟨x2, k2, t2⟩ := arg_one (n := 8) tab_ok (hval0 2 5 v2 rfl rfl) h2 (by kernel_rfl) (by kernel_rfl)
  obtain ⟨rfl, rfl⟩ := trodVars_none hV
  clear hA0 hval0
  simp only [List.append_nil] at hW'
  refine (FnP.calls (W := W) (vals := #[v0, v1, v2]) (con10 x0 t0 x1 t1 x2 t2) (.cons _ _ _ _ k0 (.cons _ _ _ _ k1 (.cons _ _ _ _ k2 .nil))) (laidG hL)).mono fun e W' ⟨he, hg⟩ => ?_
  subst he
  exact ⟨_, rfl, post_of_kept (pv := []) hW' (fun _ _ _ => trodAll_cons_mk (shut_bool Tryd.underlying4 _) trodAll_mk0) (fun sp hsp => trodAll_cons_mk (Kept.trod hg laid (by kernel_rfl) (of_decide_eq_true (by kernel_rfl)) h0 (fun y hy => hsp y (by simp [hy]))) (trodAll_cons_mk (Kept.trod hg laid (by kernel_rfl) (of_decide_eq_true (by kernel_rfl)) h1 (fun y hy => hsp y (by simp [hy]))) (trodAll_cons_mk (Kept.trod hg laid (by kernel_rfl) (of_decide_eq_true (by kernel_rfl)) h2 (fun y hy => hsp y (by simp [hy]))) (trodAll_mk0)))) (fun _ _ => rfl) (by simp)
    hg (ok_one (by kernel_rfl) rfl (okWide_bool_mk Tryd.underlying4 _))⟩

theorem over : Rows.crewRanksRow.holds Tryd.pinned (OpenSpec.ofChange Rows.crewRanksSpec) :=
  OpenClaim.holds_of_wide 10 Tryd.f10 rfl rfl rfl rfl rfl rfl rfl ⟨rfl, rfl, rfl, rfl, rfl⟩ rfl rfl rfl rfl rfl (by kernel_rfl) Tryd.func10 (by kernel_rfl)
    (of_decide_eq_true (by kernel_rfl)) (by unfold Func.isWrapper; first | (rw [if_pos (by decide +kernel)]; kernel_rfl) | (rw [if_neg (by decide +kernel)]; exact ⟨rfl, rfl⟩))
    (fun os started H enc _ => lifted os started H enc)

theorem card : Rows.CrewRanksCardSaid :=
  Claim7.holds_tied_plain_at .later [] [.data, .data] true (true, "36f3adb999a13030bb38168af2e88bed1a560d200de820ff25b5e377fa9c04d7") true (over) (fun _ h => by cases h) (by kernel_rfl) (fun _ h => by cases h) crewRanks_row_tie rfl ⟨rfl, rfl⟩ (by kernel_rfl) rfl
    (fun f fn hf hfn => by
      obtain rfl : f = 10 := Option.some.inj ((show Tryd.prog.funcNamed "breeze/breezelaw10.CrewRanks" = some 10 by kernel_rfl).symm.trans hf) |>.symm
      obtain rfl : fn = Tryd.f10 := (Option.some.inj (Tryd.func10.symm.trans hfn)).symm
      exact ⟨by kernel_rfl, fun j t ht => by
        rw [Tryd.params10] at ht
        rcases j with _ | _ | _ | j
        · obtain rfl : t = 55 := by simpa using ht.symm
          exact (show Tryd.prog.wantsStandIn 55 = false by kernel_rfl)
        · obtain rfl : t = 5 := by simpa using ht.symm
          exact (show Tryd.prog.wantsStandIn 5 = false by kernel_rfl)
        · obtain rfl : t = 5 := by simpa using ht.symm
          exact (show Tryd.prog.wantsStandIn 5 = false by kernel_rfl)
        · simp at ht⟩)
    (by kernel_rfl)

end Go.Proofs.YtnponojgpkbagaaDoor.crewRanks
namespace Go.Proofs.YtnponojgpkbagaaDoor
/-- the statement -/
theorem crewRanks_holds : Rows.CrewRanksCardSaid := crewRanks.card
#print axioms crewRanks_holds
end Go.Proofs.YtnponojgpkbagaaDoor
