/-
  Who is joined with whom: ranks of lists of pairs.
  Rado's theorem for pairs of at most five sifters.
  Choices: all lists of a pair for each kind without a ring, in order; there is one just if no kinds block.
  Groups by breadth search are the groups by joining.
  The least list that has a property: looked for among all of them in any order, or in order.
  Crews as the functions of the chapter see them: pairs joined one after the other; ranks; checks.
  Crews are checked; lists of kinds; Rank.
  Groups, as the reference counts them.
  The reference: Check, listed, Rank.
  A crew that is checked fits; Rank is as stated.
  The pairs of a choice.
  The pairs of a choice, in the reference; Valid.
  Valid: the chapter's and the reference's.
  The first of the shortest, or of the longest, lists that have a property.
  The first of the shortest lists that have a property: best, as Ring calls it.
  Ring: the chapter's and the reference's.
  Ring in the reference.
  Ring: both answer the same.
  CrewChecks: what the functions compute answers as the law says.
  CrewWhys: what the functions compute answers as the law says.
  First and Count: the choices are gone through in order.
  CrewFinds: what the functions compute answers as the law says.
  CrewChecks: at every argument of its types.
  CrewFinds: at every argument of its types.
  CrewFinds: the law returns true.
-/
import Derived.Test.YtnponojgpkbagaaDoorFChkB
import Derived.Test.YtnponojgpkbagaaDoorFWhyA
import Derived.Test.YtnponojgpkbagaaDoorFFndA
import Derived.Test.YtnponojgpkbagaaDoorV32
import Derived.Test.YtnponojgpkbagaaDoorRows
import Derived.Test.YtnponojgpkbagaaDoorCards
import Derived.Test.YtnponojgpkbagaaDoorTie
import Derived.Test.YtnponojgpkbagaaDoorB
import Derived.Test.YtnponojgpkbagaaDoorG
import Derived.Test.YtnponojgpkbagaaDoorK
import Derived.Test.YtnponojgpkbagaaDoorV31
import Derived.WalkKit
import Derived.ProofKit
import Derived.OpenShut
import Derived.Lay
import Derived.SevenTiedAt
import Derived.MakeChecks
namespace Go.Crew

def ja (j : List Nat) (s : Nat) : Nat := j.getD s 0
def jnd (j : List Nat) (p : Nat × Nat) : Bool := ja j p.1 == ja j p.2
def lo (j : List Nat) (p : Nat × Nat) : Nat := min (ja j p.1) (ja j p.2)
def hi (j : List Nat) (p : Nat × Nat) : Nat := max (ja j p.1) (ja j p.2)
def wth (j : List Nat) (p : Nat × Nat) : List Nat := j.map fun x => if x = hi j p then lo j p else x
/-- pairs are joined one after the other -/
def runJ : List Nat → List (Nat × Nat) → List Nat
  | j, [] => j
  | j, p :: l => if jnd j p then runJ j l else runJ (wth j p) l
def cntJ : List Nat → List (Nat × Nat) → Nat
  | _, [] => 0
  | j, p :: l => if jnd j p then cntJ j l else cntJ (wth j p) l + 1
def apt : List Nat := List.range 5
def rk (L : List (Nat × Nat)) : Nat := cntJ apt L

theorem runJ_app : ∀ (L M : List (Nat × Nat)) (j : List Nat), runJ j (L ++ M) = runJ (runJ j L) M
  | [], _, _ => rfl
  | p :: L, M, j => by
    simp only [List.cons_append, runJ]
    split
    · exact runJ_app L M j
    · exact runJ_app L M _
theorem cntJ_app : ∀ (L M : List (Nat × Nat)) (j : List Nat), cntJ j (L ++ M) = cntJ j L + cntJ (runJ j L) M
  | [], M, j => by simp [cntJ, runJ]
  | p :: L, M, j => by
    simp only [List.cons_append, cntJ, runJ]
    split
    · exact cntJ_app L M j
    · rw [cntJ_app L M]; omega
theorem cntJ_le : ∀ (L : List (Nat × Nat)) (j : List Nat), cntJ j L ≤ L.length
  | [], _ => by simp [cntJ]
  | p :: L, j => by
    simp only [cntJ, List.length_cons]
    split
    · have := cntJ_le L j; omega
    · have := cntJ_le L (wth j p); omega

structure Can (j : List Nat) : Prop where
  len : j.length = 5
  le : ∀ s, s < 5 → ja j s ≤ s
  id : ∀ s, s < 5 → ja j (ja j s) = ja j s
theorem wth_at {j : List Nat} (h : j.length = 5) (p : Nat × Nat) {s : Nat} (hs : s < 5) : ja (wth j p) s = if ja j s = hi j p then lo j p else ja j s := by
  simp [ja, wth, List.getD, h, hs]
theorem can_apt : Can apt := ⟨by decide, by decide, by decide⟩
def Ok (L : List (Nat × Nat)) : Prop := ∀ p ∈ L, p.1 < 5 ∧ p.2 < 5
theorem lo_le {j : List Nat} {p : Nat × Nat} : lo j p ≤ hi j p := by unfold lo hi; omega
theorem lo_or {j : List Nat} {p : Nat × Nat} : lo j p = ja j p.1 ∨ lo j p = ja j p.2 := by unfold lo; omega
theorem hi_or {j : List Nat} {p : Nat × Nat} : hi j p = ja j p.1 ∨ hi j p = ja j p.2 := by unfold hi; omega
theorem can_wth {j : List Nat} (h : Can j) {p : Nat × Nat} (hp : p.1 < 5 ∧ p.2 < 5) : Can (wth j p) := by
  have hlo : lo j p < 5 ∧ ja j (lo j p) = lo j p := by
    rcases lo_or (j := j) (p := p) with e | e <;> rw [e]
    · exact ⟨by have := h.le _ hp.1; omega, h.id _ hp.1⟩
    · exact ⟨by have := h.le _ hp.2; omega, h.id _ hp.2⟩
  refine ⟨by simp [wth, h.len], fun s hs => ?_, fun s hs => ?_⟩
  · rw [wth_at h.len p hs]
    have := h.le s hs
    have := lo_le (j := j) (p := p)
    split <;> omega
  · rw [wth_at h.len p hs]
    have h1 := h.le s hs
    have h2 := h.id s hs
    split
    · rw [wth_at h.len p hlo.1, hlo.2]
      split <;> rfl
    · rename_i hn
      rw [wth_at h.len p (by omega), h2, if_neg hn]
theorem can_run : ∀ {L : List (Nat × Nat)} {j : List Nat}, Can j → Ok L → Can (runJ j L)
  | [], _, h, _ => h
  | p :: L, j, h, hL => by
    simp only [runJ]
    split
    · exact can_run h fun q hq => hL q (.tail _ hq)
    · exact can_run (can_wth h (hL p (.head _))) fun q hq => hL q (.tail _ hq)
/-- finer -/
def Fin' (j j' : List Nat) : Prop := ∀ s t, s < 5 → t < 5 → ja j s = ja j t → ja j' s = ja j' t
theorem fin_refl (j : List Nat) : Fin' j j := fun _ _ _ _ h => h
theorem fin_wth {j : List Nat} (h : Can j) {p : Nat × Nat} : Fin' j (wth j p) := fun s t hs ht e => by
  rw [wth_at h.len p hs, wth_at h.len p ht, e]
theorem wth_jnd {j : List Nat} (h : Can j) {p : Nat × Nat} (hp : p.1 < 5 ∧ p.2 < 5) : ja (wth j p) p.1 = ja (wth j p) p.2 := by
  rw [wth_at h.len p hp.1, wth_at h.len p hp.2]
  unfold lo hi
  split <;> split <;> omega
/-- joining is the least that joins a pair -/
theorem wth_least {j j' : List Nat} (h : Can j) {p : Nat × Nat} (hp : p.1 < 5 ∧ p.2 < 5) (hf : Fin' j j') (hj : ja j' p.1 = ja j' p.2) : Fin' (wth j p) j' := by
  intro s t hs ht e
  rw [wth_at h.len p hs, wth_at h.len p ht] at e
  have key : ∀ s, s < 5 → (ja j s = ja j p.1 ∨ ja j s = ja j p.2) → ja j' s = ja j' p.1 := fun s hs h => by
    rcases h with h | h
    · exact hf _ _ hs hp.1 h
    · rw [hj]; exact hf _ _ hs hp.2 h
  have k1 : ja j s = hi j p → ja j' s = ja j' p.1 := fun h => key s hs (by rcases hi_or (j := j) (p := p) with e | e <;> simp [h, e])
  have k2 : ja j t = hi j p → ja j' t = ja j' p.1 := fun h => key t ht (by rcases hi_or (j := j) (p := p) with e | e <;> simp [h, e])
  have k3 : ja j s = lo j p → ja j' s = ja j' p.1 := fun h => key s hs (by rcases lo_or (j := j) (p := p) with e | e <;> simp [h, e])
  have k4 : ja j t = lo j p → ja j' t = ja j' p.1 := fun h => key t ht (by rcases lo_or (j := j) (p := p) with e | e <;> simp [h, e])
  split at e
  · rename_i a
    split at e
    · rename_i b; rw [k1 a, k2 b]
    · rw [k1 a, k4 e.symm]
  · split at e
    · rename_i b; rw [k3 e, k2 b]
    · exact hf _ _ hs ht e
theorem jnd_iff {j : List Nat} {p : Nat × Nat} : jnd j p = true ↔ ja j p.1 = ja j p.2 := by unfold jnd; simp
theorem run_fin : ∀ {L : List (Nat × Nat)} {j : List Nat}, Can j → Ok L → Fin' j (runJ j L)
  | [], j, _, _ => fin_refl j
  | p :: L, j, h, hL => by
    have hp := hL p (.head _)
    have hL' : Ok L := fun q hq => hL q (.tail _ hq)
    simp only [runJ]
    split
    · exact run_fin h hL'
    · exact fun s t hs ht e => run_fin (can_wth h hp) hL' s t hs ht (fin_wth h s t hs ht e)
theorem run_jnd : ∀ {L : List (Nat × Nat)} {j : List Nat}, Can j → Ok L → ∀ p ∈ L, ja (runJ j L) p.1 = ja (runJ j L) p.2
  | p :: L, j, h, hL, q, hq => by
    have hp := hL p (.head _)
    have hL' : Ok L := fun q hq => hL q (.tail _ hq)
    simp only [runJ]
    rcases List.mem_cons.1 hq with rfl | hq
    · split
      · rename_i e; exact run_fin h hL' _ _ hp.1 hp.2 (jnd_iff.1 e)
      · exact run_fin (can_wth h hp) hL' _ _ hp.1 hp.2 (wth_jnd h hp)
    · split
      · exact run_jnd h hL' q hq
      · exact run_jnd (can_wth h hp) hL' q hq
theorem run_least : ∀ {L : List (Nat × Nat)} {j j' : List Nat}, Can j → Ok L → Fin' j j' → (∀ p ∈ L, ja j' p.1 = ja j' p.2) → Fin' (runJ j L) j'
  | [], _, _, _, _, hf, _ => hf
  | p :: L, j, j', h, hL, hf, hj => by
    have hp := hL p (.head _)
    have hL' : Ok L := fun q hq => hL q (.tail _ hq)
    simp only [runJ]
    split
    · exact run_least h hL' hf fun q hq => hj q (.tail _ hq)
    · exact run_least (can_wth h hp) hL' (wth_least h hp hf (hj p (.head _))) fun q hq => hj q (.tail _ hq)
theorem apt_fin (j : List Nat) : Fin' apt j := fun s t hs ht e => by
  have : ∀ s, s < 5 → ja apt s = s := by decide
  rw [this s hs, this t ht] at e
  rw [e]
/-- how many are the smallest of theirs -/
def rts (j : List Nat) : Nat := ((List.range 5).filter fun s => ja j s == s).length
theorem filter_one {p q : Nat → Bool} {h : Nat} : ∀ (l : List Nat), l.Nodup → h ∈ l → p h = true → q h = false → (∀ s ∈ l, s ≠ h → p s = q s) → (l.filter p).length = (l.filter q).length + 1
  | [], _, hm, _, _, _ => by cases hm
  | x :: l, hn, hm, hp, hq, he => by
    obtain ⟨n1, n2⟩ := List.nodup_cons.1 hn
    by_cases hx : x = h
    · subst hx
      have : l.filter p = l.filter q := List.filter_congr fun s hs => he s (.tail _ hs) (fun e => n1 (e ▸ hs))
      simp [List.filter_cons, hp, hq, this]
    · have hm' : h ∈ l := by
        rcases List.mem_cons.1 hm with e | e
        · exact absurd e.symm hx
        · exact e
      have ih := filter_one l n2 hm' hp hq fun s hs hne => he s (.tail _ hs) hne
      have := he x (.head _) hx
      simp only [List.filter_cons, this]
      split
      · simp only [List.length_cons]; omega
      · exact ih
theorem rts_wth {j : List Nat} (h : Can j) {p : Nat × Nat} (hp : p.1 < 5 ∧ p.2 < 5) (hn : ja j p.1 ≠ ja j p.2) : rts j = rts (wth j p) + 1 := by
  have hh : hi j p < 5 ∧ ja j (hi j p) = hi j p := by
    rcases hi_or (j := j) (p := p) with e | e <;> rw [e]
    · exact ⟨by have := h.le _ hp.1; omega, h.id _ hp.1⟩
    · exact ⟨by have := h.le _ hp.2; omega, h.id _ hp.2⟩
  have hlt : lo j p < hi j p := by unfold lo hi; omega
  refine filter_one (h := hi j p) _ List.nodup_range (by simpa using hh.1) (by simpa using hh.2) ?_ fun s hs hne => ?_
  · rw [wth_at h.len p hh.1, if_pos hh.2]
    simp; omega
  · have hs' : s < 5 := by simpa using hs
    rw [wth_at h.len p hs']
    have := h.le s hs'
    split
    · rename_i e
      rw [e, Bool.eq_iff_iff]
      simp only [beq_iff_eq]
      omega
    · rfl
theorem cnt_rts : ∀ {L : List (Nat × Nat)} {j : List Nat}, Can j → Ok L → cntJ j L + rts (runJ j L) = rts j
  | [], j, _, _ => by simp [cntJ, runJ]
  | p :: L, j, h, hL => by
    have hp := hL p (.head _)
    have hL' : Ok L := fun q hq => hL q (.tail _ hq)
    simp only [cntJ, runJ]
    split
    · exact cnt_rts h hL'
    · rename_i e
      have := cnt_rts (can_wth h hp) hL'
      rw [rts_wth h hp (fun x => e (jnd_iff.2 x))]
      omega
theorem rk_app (L M : List (Nat × Nat)) : rk (L ++ M) = rk L + cntJ (runJ apt L) M := cntJ_app L M apt
theorem rk_le (L : List (Nat × Nat)) : rk L ≤ L.length := cntJ_le L apt
/-- fewer than the sifters are -/
theorem run_out : ∀ {L : List (Nat × Nat)} {j : List Nat} {n : Nat}, Can j → n ≤ 5 → (∀ p ∈ L, p.1 < n ∧ p.2 < n) → (∀ s, n ≤ s → s < 5 → ja j s = s) → (∀ s, s < n → ja j s < n) → ∀ s, n ≤ s → s < 5 → ja (runJ j L) s = s
  | [], _, _, _, _, _, h, _ => h
  | p :: L, j, n, hc, hn, hL, h, h2 => by
    have hp := hL p (.head _)
    have hp5 : p.1 < 5 ∧ p.2 < 5 := ⟨by omega, by omega⟩
    have hL' : ∀ q ∈ L, q.1 < n ∧ q.2 < n := fun q hq => hL q (.tail _ hq)
    have a1 := h2 _ hp.1
    have a2 := h2 _ hp.2
    have hl : lo j p < n := by unfold lo; omega
    have hh : hi j p < n := by unfold hi; omega
    simp only [runJ]
    split
    · exact run_out hc hn hL' h h2
    · refine run_out (can_wth hc hp5) hn hL' (fun s h1 hs => ?_) fun s hs => ?_
      · rw [wth_at hc.len p hs, h s h1 hs, if_neg (by omega)]
      · rw [wth_at hc.len p (by omega)]
        have := h2 s hs
        split <;> omega
theorem filter_ge {p : Nat → Bool} {n : Nat} (hn : n ≤ 5) (h0 : p 0 = true) (h : ∀ s, n ≤ s → s < 5 → p s = true) (h1 : 1 ≤ n) : 5 - n + 1 ≤ ((List.range 5).filter p).length := by
  have e : List.range 5 = [0, 1, 2, 3, 4] := by decide
  have : n = 1 ∨ n = 2 ∨ n = 3 ∨ n = 4 ∨ n = 5 := by omega
  rcases this with rfl | rfl | rfl | rfl | rfl
  · simp [e, List.filter_cons, h0, h 1 (by omega) (by omega), h 2 (by omega) (by omega), h 3 (by omega) (by omega), h 4 (by omega) (by omega)]
  · cases e1 : p 1 <;> simp [e, List.filter_cons, h0, e1, h 2 (by omega) (by omega), h 3 (by omega) (by omega), h 4 (by omega) (by omega)]
  · cases e1 : p 1 <;> cases e2 : p 2 <;> simp [e, List.filter_cons, h0, e1, e2, h 3 (by omega) (by omega), h 4 (by omega) (by omega)]
  · cases e1 : p 1 <;> cases e2 : p 2 <;> cases e3 : p 3 <;> simp [e, List.filter_cons, h0, e1, e2, e3, h 4 (by omega) (by omega)]
  · simp [e, List.filter_cons, h0]
theorem rk_lt {L : List (Nat × Nat)} {n : Nat} (h1 : 1 ≤ n) (hn : n ≤ 5) (hL : ∀ p ∈ L, p.1 < n ∧ p.2 < n) : rk L < n := by
  have hL5 : Ok L := fun p hp => ⟨by have := hL p hp; omega, by have := hL p hp; omega⟩
  have hc := can_run can_apt hL5
  have a := cnt_rts can_apt hL5
  have ap : ∀ s, s < 5 → ja apt s = s := by decide
  have b := run_out can_apt hn hL (fun s _ hs => ap s hs) (fun s hs => by rw [ap s (by omega)]; exact hs)
  have c : 5 - n + 1 ≤ rts (runJ apt L) := filter_ge hn (by have := hc.le 0 (by omega); simp; omega) (fun s h hs => by simpa using b s h hs) h1
  have d : rts apt = 5 := by decide
  unfold rk; omega
end Go.Crew

namespace Go.Crew

end Go.Crew

namespace Go.Crew
def pk (l : List (Nat × Nat)) (i : Nat) : Nat × Nat := l.getD i (0, 0)
def chs : List (List (Nat × Nat)) → List Nat → List (List Nat)
  | [], _ => [[]]
  | l :: S, j => (List.range' 0 l.length).flatMap fun i => if jnd j (pk l i) then [] else (chs S (wth j (pk l i))).map (i :: ·)
/-- those that begin with pair i or a later one -/
def chsF (l : List (Nat × Nat)) (S : List (List (Nat × Nat))) (j : List Nat) (i : Nat) : List (List Nat) :=
  (List.range' i (l.length - i)).flatMap fun i => if jnd j (pk l i) then [] else (chs S (wth j (pk l i))).map (i :: ·)
theorem chs_cons (l : List (Nat × Nat)) (S : List (List (Nat × Nat))) (j : List Nat) : chs (l :: S) j = chsF l S j 0 := rfl
theorem chsF_end {l : List (Nat × Nat)} {S : List (List (Nat × Nat))} {j : List Nat} {i : Nat} (h : l.length ≤ i) : chsF l S j i = [] := by
  unfold chsF; rw [Nat.sub_eq_zero_of_le h]; rfl
theorem chsF_step {l : List (Nat × Nat)} {S : List (List (Nat × Nat))} {j : List Nat} {i : Nat} (h : i < l.length) :
    chsF l S j i = (if jnd j (pk l i) then [] else (chs S (wth j (pk l i))).map (i :: ·)) ++ chsF l S j (i + 1) := by
  unfold chsF; rw [show l.length - i = (l.length - (i + 1)) + 1 by omega, List.range'_succ, List.flatMap_cons]
theorem flat_len {α β : Type} {f : α → List β} {c : Nat} : ∀ {l : List α}, (∀ a ∈ l, (f a).length ≤ c) → (l.flatMap f).length ≤ l.length * c
  | [], _ => by simp
  | a :: l, h => by
    have := flat_len (l := l) fun b hb => h b (.tail _ hb)
    have := h a (.head _)
    rw [List.flatMap_cons, List.length_append, List.length_cons, Nat.succ_mul]; omega
theorem chs_len : ∀ (S : List (List (Nat × Nat))) (j : List Nat), (∀ l ∈ S, l.length ≤ 6) → (chs S j).length ≤ 6 ^ S.length
  | [], _, _ => by simp [chs]
  | l :: S, j, h => by
    have hl := h l (.head _)
    have := flat_len (c := 6 ^ S.length) (f := fun i => if jnd j (pk l i) then [] else (chs S (wth j (pk l i))).map (i :: ·)) (l := List.range' 0 l.length) fun i _ => by
      split
      · simp
      · rw [List.length_map]; exact chs_len S _ fun l hl => h l (.tail _ hl)
    rw [List.length_range'] at this
    rw [chs, List.length_cons, Nat.pow_succ, Nat.mul_comm]
    exact Nat.le_trans this (Nat.mul_le_mul_right _ hl)
/-- the pairs of a choice -/
def picks : List (List (Nat × Nat)) → List Nat → List (Nat × Nat)
  | l :: S, i :: c => pk l i :: picks S c
  | _, _ => []
/-- one pair for each kind -/
def Fits : List (List (Nat × Nat)) → List Nat → Prop
  | [], [] => True
  | l :: S, i :: c => i < l.length ∧ Fits S c
  | _, _ => False
theorem fits_len : ∀ {S : List (List (Nat × Nat))} {c : List Nat}, Fits S c → c.length = S.length ∧ (picks S c).length = S.length
  | [], [], _ => ⟨rfl, rfl⟩
  | l :: S, i :: c, h => by have := fits_len h.2; simp [picks, this.1, this.2]
theorem mem_chs : ∀ {S : List (List (Nat × Nat))} {j : List Nat} {c : List Nat}, c ∈ chs S j ↔ Fits S c ∧ cntJ j (picks S c) = S.length
  | [], j, c => by
    cases c with
    | nil => simp [chs, Fits, picks, cntJ]
    | cons a c => simp [chs, Fits]
  | l :: S, j, [] => by
    simp only [chs, List.mem_flatMap, Fits, false_and, iff_false, not_exists, not_and]
    intro i _
    split <;> simp
  | l :: S, j, i :: c => by
    simp only [chs, List.mem_flatMap, Fits, picks, cntJ, List.length_cons]
    constructor
    · rintro ⟨k, hk, h⟩
      have hk' : k < l.length := by simpa using hk
      split at h
      · simp at h
      · rename_i hj
        simp only [List.mem_map, List.cons.injEq] at h
        obtain ⟨c', h1, rfl, rfl⟩ := h
        have := mem_chs.1 h1
        rw [if_neg hj]
        exact ⟨⟨hk', this.1⟩, by rw [this.2]⟩
    · rintro ⟨⟨h1, h2⟩, h3⟩
      refine ⟨i, by simpa using h1, ?_⟩
      have hp := (fits_len h2).2
      split at h3
      · have := cntJ_le (picks S c) j; omega
      · rename_i hj
        rw [if_neg hj]
        exact List.mem_map.2 ⟨c, mem_chs.2 ⟨h2, by omega⟩, rfl⟩
end Go.Crew

namespace Go.Crew

/-- one pair, seen from v -/
def upd (v : Nat) (M : List Nat) (p : Nat × Nat) : List Nat := if p.1 = v ∧ p.2 ∉ M then M ++ [p.2] else if p.2 = v ∧ p.1 ∉ M then M ++ [p.1] else M
def scan (L : List (Nat × Nat)) (v : Nat) (M : List Nat) : List Nat := L.foldl (upd v) M
theorem upd_sub {v : Nat} {M : List Nat} {p : Nat × Nat} : ∃ R, upd v M p = M ++ R := by
  unfold upd
  split
  · exact ⟨_, rfl⟩
  · split
    · exact ⟨_, rfl⟩
    · exact ⟨[], by simp⟩
theorem scan_sub : ∀ (L : List (Nat × Nat)) (v : Nat) (M : List Nat), ∃ R, scan L v M = M ++ R
  | [], _, M => ⟨[], by simp [scan]⟩
  | p :: L, v, M => by
    obtain ⟨R, h⟩ := upd_sub (v := v) (M := M) (p := p)
    obtain ⟨R2, h2⟩ := scan_sub L v (upd v M p)
    exact ⟨R ++ R2, by rw [show scan (p :: L) v M = scan L v (upd v M p) from rfl, h2, h, List.append_assoc]⟩
theorem scan_mem {L : List (Nat × Nat)} {v : Nat} {M : List Nat} {x : Nat} (h : x ∈ M) : x ∈ scan L v M := by
  obtain ⟨R, e⟩ := scan_sub L v M
  rw [e]; exact List.mem_append_left _ h
theorem upd_next {v : Nat} {M : List Nat} {p : Nat × Nat} : (p.1 = v → p.2 ∈ upd v M p) ∧ (p.2 = v → p.1 ∈ upd v M p ∨ p.1 = v) := by
  unfold upd
  constructor
  · intro h
    by_cases h2 : p.2 ∈ M
    · rw [if_neg (by simp [h2])]
      split
      · exact List.mem_append_left _ h2
      · exact h2
    · rw [if_pos ⟨h, h2⟩]; simp
  · intro h
    by_cases h1 : p.1 = v
    · exact .inr h1
    · left
      rw [if_neg (by simp [h1])]
      by_cases h2 : p.1 ∈ M
      · rw [if_neg (by simp [h2])]; exact h2
      · rw [if_pos ⟨h, h2⟩]; simp
theorem scan_next : ∀ {L : List (Nat × Nat)} {v : Nat} {M : List Nat} (p : Nat × Nat), p ∈ L → v ∈ M → (p.1 = v → p.2 ∈ scan L v M) ∧ (p.2 = v → p.1 ∈ scan L v M)
  | q :: L, v, M, p, hp, hv => by
    show (p.1 = v → p.2 ∈ scan L v (upd v M q)) ∧ (p.2 = v → p.1 ∈ scan L v (upd v M q))
    have hv' : v ∈ upd v M q := by
      obtain ⟨R, e⟩ := upd_sub (v := v) (M := M) (p := q)
      rw [e]; exact List.mem_append_left _ hv
    rcases List.mem_cons.1 hp with rfl | hp
    · obtain ⟨a, b⟩ := upd_next (v := v) (M := M) (p := p)
      refine ⟨fun h => scan_mem (a h), fun h => ?_⟩
      rcases b h with h2 | h2
      · exact scan_mem h2
      · rw [h2]; exact scan_mem hv'
    · exact scan_next p hp hv'
/-- what holds of all that is met -/
theorem upd_all {P : Nat → Prop} {v : Nat} {M : List Nat} {p : Nat × Nat} (h : ∀ x ∈ M, P x) (hp : p.1 = v → P p.2) (hq : p.2 = v → P p.1) : ∀ x ∈ upd v M p, P x := by
  intro x hx
  unfold upd at hx
  split at hx
  · rename_i c
    rcases List.mem_append.1 hx with hx | hx
    · exact h x hx
    · simp only [List.mem_singleton] at hx; subst hx; exact hp c.1
  · split at hx
    · rename_i c
      rcases List.mem_append.1 hx with hx | hx
      · exact h x hx
      · simp only [List.mem_singleton] at hx; subst hx; exact hq c.1
    · exact h x hx
theorem scan_all {P : Nat → Prop} : ∀ {L : List (Nat × Nat)} {v : Nat} {M : List Nat}, (∀ x ∈ M, P x) → (∀ p ∈ L, (p.1 = v → P p.2) ∧ (p.2 = v → P p.1)) → ∀ x ∈ scan L v M, P x
  | [], _, _, h, _ => h
  | p :: L, v, M, h, hL => scan_all (L := L) (upd_all h (hL p (.head _)).1 (hL p (.head _)).2) fun q hq => hL q (.tail _ hq)
theorem upd_nodup {v : Nat} {M : List Nat} {p : Nat × Nat} (h : M.Nodup) : (upd v M p).Nodup := by
  have snoc : ∀ x, x ∉ M → (M ++ [x]).Nodup := fun x hx => List.nodup_append.2 ⟨h, by simp, fun a ha b hb => by simp only [List.mem_singleton] at hb; subst hb; exact fun e => hx (e ▸ ha)⟩
  unfold upd
  split
  · rename_i c; exact snoc _ c.2
  · split
    · rename_i c; exact snoc _ c.2
    · exact h
theorem scan_nodup : ∀ {L : List (Nat × Nat)} {v : Nat} {M : List Nat}, M.Nodup → (scan L v M).Nodup
  | [], _, _, h => h
  | _ :: L, _, _, h => scan_nodup (L := L) (upd_nodup h)
theorem nodup_five {M : List Nat} (h : M.Nodup) (h5 : ∀ x ∈ M, x < 5) : M.length ≤ 5 := by
  have := List.Nodup.length_le_of_subset h (l₂ := List.range 5) fun x hx => by simpa using h5 x hx
  simpa using this
/-- the search, from the i-th on -/
def bfs (L : List (Nat × Nat)) : Nat → Nat → List Nat → List Nat
  | 0, _, M => M
  | f + 1, i, M => if i < M.length then bfs L f (i + 1) (scan L (M.getD i 0) M) else M
/-- all neighbours of the first i are met -/
def Dn (L : List (Nat × Nat)) (i : Nat) (M : List Nat) : Prop := ∀ k, k < i → ∀ p ∈ L, (p.1 = M.getD k 0 → p.2 ∈ M) ∧ (p.2 = M.getD k 0 → p.1 ∈ M)
structure Bok (L : List (Nat × Nat)) (s i : Nat) (M : List Nat) : Prop where
  nd : M.Nodup
  cl : ∀ x ∈ M, x < 5 ∧ ja (runJ apt L) x = ja (runJ apt L) s
  st : s ∈ M
  dn : Dn L i M
  le : i ≤ M.length
theorem getD_app {M R : List Nat} {k : Nat} (h : k < M.length) : (M ++ R).getD k 0 = M.getD k 0 := by
  simp [List.getD, List.getElem?_append_left h]
theorem getD_mem {M : List Nat} {k : Nat} (h : k < M.length) : M.getD k 0 ∈ M := by
  simp [List.getD, h]
theorem bok_scan {L : List (Nat × Nat)} (hL : Ok L) {s i : Nat} {M : List Nat} (h : Bok L s i M) (hi : i < M.length) : Bok L s (i + 1) (scan L (M.getD i 0) M) := by
  have hv := getD_mem hi
  obtain ⟨R, e⟩ := scan_sub L (M.getD i 0) M
  have hj := run_jnd can_apt hL
  refine ⟨scan_nodup h.nd, scan_all h.cl fun p hp => ⟨fun hp1 => ?_, fun hp2 => ?_⟩, scan_mem h.st, fun k hk p hp => ?_, ?_⟩
  · exact ⟨(hL p hp).2, by rw [← hj p hp, hp1]; exact (h.cl _ hv).2⟩
  · exact ⟨(hL p hp).1, by rw [hj p hp, hp2]; exact (h.cl _ hv).2⟩
  · have hk' : k < M.length := by omega
    rw [e, getD_app hk', ← e]
    by_cases hki : k = i
    · subst hki; exact scan_next p hp hv
    · obtain ⟨a, b⟩ := h.dn k (by omega) p hp
      exact ⟨fun q => scan_mem (a q), fun q => scan_mem (b q)⟩
  · rw [e, List.length_append]; omega
theorem bfs_ok {L : List (Nat × Nat)} (hL : Ok L) : ∀ (f i s : Nat) (M : List Nat), 5 < f + i → Bok L s i M → Bok L s (bfs L f i M).length (bfs L f i M)
  | 0, i, s, M, hf, h => by
    have := nodup_five h.nd fun x hx => (h.cl x hx).1
    have := h.le
    omega
  | f + 1, i, s, M, hf, h => by
    rw [bfs]
    split
    · rename_i hi
      exact bfs_ok hL f (i + 1) s _ (by omega) (bok_scan hL h hi)
    · rename_i hi
      have : i = M.length := by have := h.le; omega
      subst this; exact h
/-- what is met is the group -/
theorem bok_all {L : List (Nat × Nat)} (hL : Ok L) {s : Nat} (hs : s < 5) {M : List Nat} (h : Bok L s M.length M) {t : Nat} (ht : t < 5) (e : ja (runJ apt L) t = ja (runJ apt L) s) : t ∈ M := by
  let j' : List Nat := (List.range 5).map fun t => if t ∈ M then 0 else 1
  have hj' : ∀ t, t < 5 → ja j' t = if t ∈ M then 0 else 1 := fun t ht => by simp [ja, j', List.getD, ht]
  have hf : Fin' (runJ apt L) j' := run_least can_apt hL (apt_fin _) fun p hp => by
    obtain ⟨a, b⟩ := hL p hp
    rw [hj' _ a, hj' _ b]
    have nx : ∀ x ∈ M, (p.1 = x → p.2 ∈ M) ∧ (p.2 = x → p.1 ∈ M) := fun x hx => by
      obtain ⟨k, hk, rfl⟩ := List.getElem_of_mem hx
      have := h.dn k hk p hp
      simpa [List.getD, hk] using this
    by_cases m1 : p.1 ∈ M
    · rw [if_pos m1, if_pos ((nx _ m1).1 rfl)]
    · rw [if_neg m1, if_neg fun m2 => m1 ((nx _ m2).2 rfl)]
  have := hf t s ht hs e
  rw [hj' _ ht, hj' _ hs, if_pos h.st] at this
  by_cases m : t ∈ M
  · exact m
  · rw [if_neg m] at this; cases this
theorem bok_init (L : List (Nat × Nat)) {s : Nat} (hs : s < 5) : Bok L s 0 [s] := ⟨by simp, fun x hx => by simp only [List.mem_singleton] at hx; subst hx; exact ⟨hs, rfl⟩, by simp, fun k hk => by omega, by simp⟩
theorem bfs_sub (L : List (Nat × Nat)) : ∀ (f i : Nat) (M : List Nat), ∃ R, bfs L f i M = M ++ R
  | 0, _, M => ⟨[], by simp [bfs]⟩
  | f + 1, i, M => by
    rw [bfs]
    split
    · obtain ⟨R1, e1⟩ := scan_sub L (M.getD i 0) M
      obtain ⟨R2, e2⟩ := bfs_sub L f (i + 1) (scan L (M.getD i 0) M)
      exact ⟨R1 ++ R2, by rw [e2, e1, List.append_assoc]⟩
    · exact ⟨[], by simp⟩
theorem grp_first {L : List (Nat × Nat)} (hL : Ok L) {s : Nat} (hs : s < 5) {f : Nat} (hf : 5 < f) : (bfs L f 0 [s]).all (fun x => decide (s ≤ x)) = (ja (runJ apt L) s == s) := by
  have h := bfs_ok hL f 0 s [s] (by omega) (bok_init L hs)
  have hc := can_run can_apt hL
  rw [Bool.eq_iff_iff, List.all_eq_true]
  simp only [decide_eq_true_eq, beq_iff_eq]
  constructor
  · intro ha
    have h1 := hc.le s hs
    have h2 := ha _ (bok_all hL hs h (t := ja (runJ apt L) s) (by omega) (hc.id s hs))
    omega
  · intro e x hx
    obtain ⟨x5, xe⟩ := h.cl x hx
    have := hc.le x x5
    omega
/-- how many groups -/
def grps (n : Nat) (L : List (Nat × Nat)) : Nat := ((List.range n).filter fun s => ja (runJ apt L) s == s).length
theorem grps_rk {n : Nat} (hn : n ≤ 5) {L : List (Nat × Nat)} (hL : ∀ p ∈ L, p.1 < n ∧ p.2 < n) : grps n L + rk L = n := by
  have hL5 : Ok L := fun p hp => ⟨by have := hL p hp; omega, by have := hL p hp; omega⟩
  have a := cnt_rts can_apt hL5
  have ap : ∀ s, s < 5 → ja apt s = s := by decide
  have b := run_out can_apt hn hL (fun s _ hs => ap s hs) (fun s hs => by rw [ap s (by omega)]; exact hs)
  have d : rts apt = 5 := by decide
  have e : List.range 5 = List.range n ++ List.range' n (5 - n) := by
    have : n = 0 ∨ n = 1 ∨ n = 2 ∨ n = 3 ∨ n = 4 ∨ n = 5 := by omega
    rcases this with rfl | rfl | rfl | rfl | rfl | rfl <;> rfl
  have c : rts (runJ apt L) = grps n L + (5 - n) := by
    unfold rts grps
    rw [e, List.filter_append, List.length_append]
    congr 1
    rw [List.filter_eq_self.2, List.length_range']
    intro s hs
    obtain ⟨h1, h2⟩ := List.mem_range'_1.1 hs
    simpa using b s h1 (by omega)
  unfold rk
  omega
end Go.Crew

namespace Go.Crew
section
end

/-- lists of so many numbers below n, from one on, in order -/
def ls (n : Nat) : Nat → Nat → List (List Nat)
  | 0, _ => [[]]
  | m + 1, k => (List.range' k (n - k)).flatMap fun x => (ls n m (x + 1)).map (x :: ·)
def memb (s : Nat) : List Nat := (List.range 5).filter fun k => s.testBit k
end Go.Crew

namespace Go.Proofs.YtnponojgpkbagaaDoor
open Go.V Go.Crew
set_option linter.unusedSectionVars false
set_option linter.unnecessarySimpa false

theorem brn_t {α : Type} {b : Bool} {x y : Option α} (h : b = true) : brn b x y = x := by subst h; rfl
theorem brn_f {α : Type} {b : Bool} {x y : Option α} (h : b = false) : brn b x y = y := by subst h; rfl
theorem grd_t {α : Type} {p : Prop} [Decidable p] {k : Option α} (h : p) : grd p k = k := by simp [grd, h]
theorem wrapN {n : Nat} (h : n ≤ 100000) : IntKind.i64.wrap ((n : Int) + 1) = ((n + 1 : Nat) : Int) := by
  rw [wrap64 (by omega) (by omega)]; omega
theorem toNatN (n : Nat) : Int.toNat (n : Int) = n := by omega

def prI (p : Int × Int) : List PV := [.int .i64 p.1, .int .i64 p.2]
def prsI (l : List (Int × Int)) : List PV := l.flatMap prI
theorem prsI_len : ∀ (l : List (Int × Int)), (prsI l).length = l.length * 2
  | [] => rfl
  | p :: l => by
    have := prsI_len l
    simp only [prsI, List.flatMap_cons, List.length_append, prI, List.length_cons, List.length_nil] at *
    omega
def pI (l : List (Int × Int)) (i : Nat) : Int × Int := l.getD i (0, 0)
theorem prsI_drop : ∀ (l : List (Int × Int)) (i : Nat), (prsI l).drop (i * 2) = prsI (l.drop i)
  | l, 0 => by simp
  | [], i + 1 => by simp [prsI]
  | p :: l, i + 1 => by
    have := prsI_drop l i
    rw [show (i + 1) * 2 = i * 2 + 2 by omega]
    simpa [prsI, prI] using this
theorem prsI_take : ∀ (l : List (Int × Int)) (i : Nat), (prsI l).take (i * 2) = prsI (l.take i)
  | l, 0 => by simp [prsI]
  | [], i + 1 => by simp [prsI]
  | p :: l, i + 1 => by
    have := prsI_take l i
    rw [show (i + 1) * 2 = i * 2 + 2 by omega]
    simpa [prsI, prI] using this
theorem drop_pI {l : List (Int × Int)} {i : Nat} (h : i < l.length) : l.drop i = pI l i :: l.drop (i + 1) := by
  rw [List.drop_eq_getElem_cons h]; simp [pI, List.getD, h]
theorem take_pI {l : List (Int × Int)} {i : Nat} (h : i < l.length) : l.take (i + 1) = l.take i ++ [pI l i] := by
  rw [List.take_add_one]; simp [pI, List.getD, h]
theorem prsI_two {l : List (Int × Int)} {i : Nat} (h : i < l.length) : List.take 2 (List.drop (i * 2) (prsI l)) = [.int .i64 (pI l i).1, .int .i64 (pI l i).2] := by
  rw [prsI_drop, drop_pI h]; simp [prsI, prI]
theorem prsI_two' {l : List (Int × Int)} {i : Nat} (h : i < l.length) : 2 ≤ List.length (List.drop (i * 2) (prsI l)) := by
  rw [prsI_drop, prsI_len, List.length_drop]; omega
def knI (l : List (Int × Int)) : PV := .lst false l.length (prsI l)
def knsI (K : List (List (Int × Int))) : List PV := K.map knI
theorem knsI_len (K : List (List (Int × Int))) : (knsI K).length = K.length := by simp [knsI]
def kI (K : List (List (Int × Int))) (i : Nat) : List (Int × Int) := K.getD i []
theorem knsI_gp {K : List (List (Int × Int))} {i : Nat} (h : i < K.length) : gp (knsI K) i = .lst false (kI K i).length (prsI (kI K i)) := by
  simp [knsI, gp, kI, knI, List.getD, h]
theorem kI_mem {K : List (List (Int × Int))} {i : Nat} (h : i < K.length) : kI K i ∈ K := by simp [kI, List.getD, h]
theorem drop_kI {K : List (List (Int × Int))} {i : Nat} (h : i < K.length) : K.drop i = kI K i :: K.drop (i + 1) := by
  rw [List.drop_eq_getElem_cons h]; simp [kI, List.getD, h]

def jP (j : List Nat) : List PV := [.int .i64 (ja j 0 : Int), .int .i64 (ja j 1 : Int), .int .i64 (ja j 2 : Int), .int .i64 (ja j 3 : Int), .int .i64 (ja j 4 : Int)]
theorem jP_gp {j : List Nat} {s : Nat} (h : s < 5) : gp (jP j) s = .int .i64 (ja j s : Int) := by
  have : s = 0 ∨ s = 1 ∨ s = 2 ∨ s = 3 ∨ s = 4 := by omega
  rcases this with rfl | rfl | rfl | rfl | rfl <;> rfl
def cI (p : Nat × Nat) : Int × Int := ((p.1 : Int), (p.2 : Int))
theorem getA5_jP {α : Type} (j : List Nat) (k : PV → PV → PV → PV → PV → Option α) : getA5 (.agg (jP j)) k = k (.int .i64 (ja j 0 : Int)) (.int .i64 (ja j 1 : Int)) (.int .i64 (ja j 2 : Int)) (.int .i64 (ja j 3 : Int)) (.int .i64 (ja j 4 : Int)) := rfl
theorem joined_ok (N : Nat) (j : List Nat) (p : Nat × Nat) (hp : p.1 < 5 ∧ p.2 < 5) : m71 N (.agg (jP j)) (.agg (prI (cI p))) = some (.bool (jnd j p)) := by
  simp only [m71, prI, cI, getA2, getI, if_true, toNatN]
  have e1 := jP_gp (j := j) hp.1
  have e2 := jP_gp (j := j) hp.2
  unfold jP at e1 e2
  rw [getA5_jP, grd_t ⟨by omega, by omega⟩, grd_t hp.1, e1]
  simp only [if_true]
  rw [grd_t ⟨by omega, by omega⟩, grd_t hp.2, e2]
  simp only [if_true, jnd]
  congr 2
  rw [Bool.eq_iff_iff]; simp; omega
theorem maxI_hi (j : List Nat) (p : Nat × Nat) : maxI (ja j p.1 : Int) (ja j p.2 : Int) = (hi j p : Int) := by
  unfold maxI hi; split <;> omega
theorem minI_lo (j : List Nat) (p : Nat × Nat) : minI (ja j p.1 : Int) (ja j p.2 : Int) = (lo j p : Int) := by
  unfold minI lo; split <;> omega
/-- half way -/
def hw (j : List Nat) (p : Nat × Nat) (s t : Nat) : PV := .int .i64 ((if t < s then ja (wth j p) t else ja j t : Nat) : Int)
def mid (j : List Nat) (p : Nat × Nat) (s : Nat) : List PV := [hw j p s 0, hw j p s 1, hw j p s 2, hw j p s 3, hw j p s 4]
theorem mid_set {j : List Nat} {p : Nat × Nat} {s : Nat} (hj : j.length = 5) (h : s < 5) (e : ja j s = hi j p) : (mid j p s).set s (.int .i64 (lo j p : Int)) = mid j p (s + 1) := by
  have w := wth_at hj p h
  rw [if_pos e] at w
  have : s = 0 ∨ s = 1 ∨ s = 2 ∨ s = 3 ∨ s = 4 := by omega
  rcases this with rfl | rfl | rfl | rfl | rfl <;> simp [mid, hw, w]
theorem mid_not {j : List Nat} {p : Nat × Nat} {s : Nat} (hj : j.length = 5) (h : s < 5) (e : ja j s ≠ hi j p) : mid j p s = mid j p (s + 1) := by
  have w := wth_at hj p h
  rw [if_neg e] at w
  have : s = 0 ∨ s = 1 ∨ s = 2 ∨ s = 3 ∨ s = 4 := by omega
  rcases this with rfl | rfl | rfl | rfl | rfl <;> simp [mid, hw, w]
theorem with_L (N : Nat) (j : List Nat) (p : Nat × Nat) (hj : j.length = 5) : ∀ (r s fuel : Nat), 5 - s = r → s ≤ 5 → r < fuel →
    m98_L0 N (.int .i64 (ja j 0 : Int)) (.int .i64 (ja j 1 : Int)) (.int .i64 (ja j 2 : Int)) (.int .i64 (ja j 3 : Int)) (.int .i64 (ja j 4 : Int)) (ja j p.1 : Int) (ja j p.2 : Int) fuel (s : Int) (mid j p s) = some (mid j p 5)
  | r, s, 0, _, _, h => by omega
  | r, s, f + 1, hr, hs, hf => by
    rw [m98_L0]
    by_cases h : s < 5
    · have ih := with_L N j p hj (r - 1) (s + 1) f (by omega) (by omega) (by omega)
      have e1 := jP_gp (j := j) h
      unfold jP at e1
      rw [brn_t (by simp; omega), toNatN, grd_t ⟨by omega, by omega⟩, e1, maxI_hi, minI_lo, wrapN (by omega)]
      simp only [getI, if_true]
      by_cases e : ja j s = hi j p
      · rw [brn_t (by simp; omega), grd_t (by simp [mid]; omega), mid_set hj h e]; exact ih
      · rw [brn_f (by simp; omega), mid_not hj h e]; exact ih
    · rw [brn_f (by simp; omega), show s = 5 by omega]
theorem mid_zero (j : List Nat) (p : Nat × Nat) : mid j p 0 = jP j := by simp [mid, hw, jP]
theorem mid_five (j : List Nat) (p : Nat × Nat) : mid j p 5 = jP (wth j p) := by simp [mid, hw, jP]
theorem with_ok (N : Nat) (hN : 2000 ≤ N) (j : List Nat) (hj : j.length = 5) (p : Nat × Nat) (hp : p.1 < 5 ∧ p.2 < 5) : m98 N (.agg (jP j)) (.agg (prI (cI p))) = some (.agg (jP (wth j p))) := by
  simp only [m98, prI, cI, getA2, getI, if_true, toNatN]
  have e1 := jP_gp (j := j) hp.1
  have e2 := jP_gp (j := j) hp.2
  unfold jP at e1 e2
  rw [getA5_jP, grd_t ⟨by omega, by omega⟩, grd_t hp.1, e1]
  simp only [if_true]
  rw [grd_t ⟨by omega, by omega⟩, grd_t hp.2, e2]
  simp only [if_true]
  have := with_L N j p hj 5 0 N (by omega) (by omega) (by omega)
  rw [mid_zero, mid_five] at this
  rw [show m98_L0 N (.int .i64 (ja j 0 : Int)) (.int .i64 (ja j 1 : Int)) (.int .i64 (ja j 2 : Int)) (.int .i64 (ja j 3 : Int)) (.int .i64 (ja j 4 : Int)) (ja j p.1 : Int) (ja j p.2 : Int) N 0 [.int .i64 (ja j 0 : Int), .int .i64 (ja j 1 : Int), .int .i64 (ja j 2 : Int), .int .i64 (ja j 3 : Int), .int .i64 (ja j 4 : Int)] = _ from this]
  rfl
theorem apart_ok : m97 2000 = some (.agg (jP apt)) := by kernel_rfl
theorem wth_len {j : List Nat} {p : Nat × Nat} (h : j.length = 5) : (wth j p).length = 5 := by simp [wth, h]
def cL (L : List (Nat × Nat)) : List (Int × Int) := L.map cI
theorem cL_len (L : List (Nat × Nat)) : (cL L).length = L.length := by simp [cL]
def pN (L : List (Nat × Nat)) (i : Nat) : Nat × Nat := L.getD i (0, 0)
theorem cL_pI {L : List (Nat × Nat)} {i : Nat} (h : i < L.length) : pI (cL L) i = cI (pN L i) := by simp [pI, cL, pN, List.getD, h]
theorem pN_mem {L : List (Nat × Nat)} {i : Nat} (h : i < L.length) : pN L i ∈ L := by simp [pN, List.getD, h]
theorem drop_pN {L : List (Nat × Nat)} {i : Nat} (h : i < L.length) : L.drop i = pN L i :: L.drop (i + 1) := by
  rw [List.drop_eq_getElem_cons h]; simp [pN, List.getD, h]
def cK (K : List (List (Nat × Nat))) : List (List (Int × Int)) := K.map cL
theorem cK_len (K : List (List (Nat × Nat))) : (cK K).length = K.length := by simp [cK]
def kN (K : List (List (Nat × Nat))) (i : Nat) : List (Nat × Nat) := K.getD i []
theorem cK_kI {K : List (List (Nat × Nat))} {i : Nat} (h : i < K.length) : kI (cK K) i = cL (kN K i) := by simp [kI, cK, kN, List.getD, h]
theorem kN_mem {K : List (List (Nat × Nat))} {i : Nat} (h : i < K.length) : kN K i ∈ K := by simp [kN, List.getD, h]
def crw (n : Nat) (K : List (List (Nat × Nat))) : PV := .agg [.int .i64 (n : Int), .lst false K.length (knsI (cK K))]
def nL (X : List Nat) : List PV := X.map fun (k : Nat) => PV.int .i64 (k : Int)
theorem nL_len (X : List Nat) : (nL X).length = X.length := by simp [nL]
def nn (X : List Nat) (i : Nat) : Nat := X.getD i 0
theorem nL_gp {X : List Nat} {i : Nat} (h : i < X.length) : gp (nL X) i = .int .i64 (nn X i : Int) := by
  simp [nL, gp, nn, List.getD, h]
theorem nn_mem {X : List Nat} {i : Nat} (h : i < X.length) : nn X i ∈ X := by
  simp [nn, List.getD, h]
theorem drop_nn {X : List Nat} {i : Nat} (h : i < X.length) : X.drop i = nn X i :: X.drop (i + 1) := by
  rw [List.drop_eq_getElem_cons h]; simp [nn, List.getD, h]
/-- a crew as it should be, but for what its pairs are -/
structure Fit (n : Nat) (K : List (List (Nat × Nat))) : Prop where
  n1 : 1 ≤ n
  n5 : n ≤ 5
  many : K.length ≤ 5
  len : ∀ l ∈ K, l.length ≤ 6
  lt : ∀ l ∈ K, ∀ p ∈ l, p.1 < p.2 ∧ p.2 < n
  one : ∀ l ∈ K, l.Nodup
theorem kN_lt {n : Nat} {K : List (List (Nat × Nat))} (h : Fit n K) {k : Nat} : ∀ p ∈ kN K k, p.1 < n ∧ p.2 < n := fun p hp => by
  by_cases hk : k < K.length
  · have := h.lt _ (kN_mem hk) p hp; omega
  · simp [kN, List.getD, hk] at hp
theorem kN_len {n : Nat} {K : List (List (Nat × Nat))} (h : Fit n K) {k : Nat} : (kN K k).length ≤ 6 := by
  by_cases hk : k < K.length
  · exact h.len _ (kN_mem hk)
  · simp [kN, List.getD, hk]
end Go.Proofs.YtnponojgpkbagaaDoor

namespace Go.Proofs.YtnponojgpkbagaaDoor
open Go.V Go.Crew
set_option linter.unusedSectionVars false
set_option linter.unnecessarySimpa false

theorem idx_L (N : Nat) (p : Int × Int) (l : List (Int × Int)) (hl : l.length ≤ 1000) : ∀ (r i fuel : Nat), l.length - i = r → r < fuel →
    ∃ o, m93_L0 N l.length (prsI l) fuel (i : Int) (.int .i64 p.1) (.int .i64 p.2) = some o ∧ ((l.drop i).contains p = true → ∃ k : Nat, o = .inl (.int .i64 (k : Int))) ∧ ((l.drop i).contains p = false → o = .inr ())
  | r, i, 0, _, h => by omega
  | r, i, f + 1, hr, hf => by
    rw [m93_L0]
    by_cases h : i < l.length
    · obtain ⟨o, o1, o2, o3⟩ := idx_L N p l hl (r - 1) (i + 1) f (by omega) (by omega)
      rw [brn_t (by simp; omega), toNatN, grd_t ⟨by omega, by omega⟩, grd_t (prsI_two' h), prsI_two h, drop_pI h]
      simp only [getA2, getI, if_true, List.contains_cons]
      by_cases e : p = pI l i
      · have e1 : (p == pI l i) = true := by simpa using e
        rw [brn_t (by rw [← e]; simp), e1]
        exact ⟨_, rfl, fun _ => ⟨i, rfl⟩, fun h => by simp at h⟩
      · have e1 : (p == pI l i) = false := by simpa using e
        rw [brn_f (by
          rw [Bool.and_eq_false_iff]
          by_cases a : p.1 = (pI l i).1
          · right; have : p.2 ≠ (pI l i).2 := fun b => e (Prod.ext a b)
            simpa using this
          · left; simpa using a), wrapN (by omega), e1]
        exact ⟨o, o1, fun h => o2 (by simpa using h), fun h => o3 (by simpa using h)⟩
    · rw [brn_f (by simp; omega), List.drop_eq_nil_of_le (by omega)]
      exact ⟨_, rfl, fun h => by simp at h, fun _ => rfl⟩
theorem has_ok (N : Nat) (hN : 2000 ≤ N) (p : Int × Int) (l : List (Int × Int)) (hl : l.length ≤ 1000) : m51 N (.lst false l.length (prsI l)) (.agg [.int .i64 p.1, .int .i64 p.2]) = some (.bool (l.contains p)) := by
  obtain ⟨o, o1, o2, o3⟩ := idx_L N p l hl l.length 0 N (by omega) (by omega)
  rw [List.drop_zero] at o2 o3
  simp only [m51, getL, getA2, m93]
  rw [show m93_L0 N l.length (prsI l) N 0 (.int .i64 p.1) (.int .i64 p.2) = some o from o1]
  cases h : l.contains p with
  | true =>
    obtain ⟨k, rfl⟩ := o2 h
    simp [bnd', getI]
  | false => rw [o3 h]; simp [bnd', getI]

def chkL (n : Int) : List (Int × Int) → List (Int × Int) → Int
  | _, [] => 0
  | d, p :: r => if minI p.1 p.2 < 0 then 2 else if maxI p.1 p.2 ≥ n then 2 else if p.1 ≥ p.2 then 7 else if d.contains p then 6 else chkL n (d ++ [p]) r
def chkK (n : Int) : List (List (Int × Int)) → Int
  | [] => 0
  | l :: ls => if 6 < l.length then 3 else if chkL n [] l ≠ 0 then chkL n [] l else chkK n ls
def chk (n : Int) (K : List (List (Int × Int))) : Int := if n < 1 then 1 else if n > 5 then 1 else if 5 < K.length then 3 else chkK n K
def outE (e : Int) : PV ⊕ Unit := if e = 0 then .inr () else .inl (.int .i64 e)
theorem chk_L1 (N : Nat) (hN : 2000 ≤ N) (n : Int) (m : Nat) (c : List PV) (x : Int) (l : List (Int × Int)) (hl : l.length ≤ 1000) : ∀ (r i fuel : Nat), l.length - i = r → r < fuel →
    m22_L1 N n m c x l.length (prsI l) fuel (i : Int) = some (outE (chkL n (l.take i) (l.drop i)))
  | r, i, 0, _, h => by omega
  | r, i, f + 1, hr, hf => by
    rw [m22_L1]
    by_cases h : i < l.length
    · have ih := chk_L1 N hN n m c x l hl (r - 1) (i + 1) f (by omega) (by omega)
      rw [brn_t (by simp; omega), toNatN, grd_t ⟨by omega, by omega⟩, grd_t (prsI_two' h), prsI_two h, drop_pI h]
      simp only [getA2, getI, if_true, chkL]
      by_cases h1 : minI (pI l i).1 (pI l i).2 < 0
      · rw [brn_t (by simpa using h1), if_pos h1]; rfl
      · rw [brn_f (by simpa using h1), if_neg h1]
        by_cases h2 : maxI (pI l i).1 (pI l i).2 ≥ n
        · rw [brn_t (by simpa using h2), if_pos h2]; rfl
        · rw [brn_f (by simpa using h2), if_neg h2]
          by_cases h3 : (pI l i).1 ≥ (pI l i).2
          · rw [brn_t (by simpa using h3), if_pos h3]; rfl
          · have e := has_ok N hN (pI l i) (l.take i) (by rw [List.length_take]; omega)
            rw [show (l.take i).length = i by rw [List.length_take]; omega] at e
            rw [brn_f (by simpa using h3), if_neg h3, grd_t (by omega), grd_t (prsI_len l), prsI_take, e]
            simp only [bnd', getB]
            cases hc : (l.take i).contains (pI l i) with
            | true => rw [brn_t rfl, if_pos rfl]; rfl
            | false => rw [brn_f rfl, if_neg (by simp), wrapN (by omega), ih, take_pI h]
    · rw [brn_f (by simp; omega), List.drop_eq_nil_of_le (by omega)]; rfl
theorem chk_L0 (N : Nat) (hN : 2000 ≤ N) (n : Int) (K : List (List (Int × Int))) (hK : K.length ≤ 1000) (hl : ∀ l ∈ K, l.length ≤ 1000) : ∀ (r i fuel : Nat), K.length - i = r → r < fuel →
    m22_L0 N n K.length (knsI K) fuel (i : Int) = some (outE (chkK n (K.drop i)))
  | r, i, 0, _, h => by omega
  | r, i, f + 1, hr, hf => by
    have hk := knsI_len K
    rw [m22_L0]
    by_cases h : i < K.length
    · have ih := chk_L0 N hN n K hK hl (r - 1) (i + 1) f (by omega) (by omega)
      have h1 := hl _ (kI_mem h)
      rw [brn_t (by simp; omega), toNatN, grd_t ⟨by omega, by omega⟩, grd_t (by simp only [List.length_drop]; omega), knsI_gp h, drop_kI h]
      simp only [getL, chkK]
      by_cases h2 : 6 < (kI K i).length
      · rw [brn_t (by simp; omega), if_pos h2]; rfl
      · have e := chk_L1 N hN n K.length (knsI K) (i : Int) (kI K i) h1 (kI K i).length 0 N (by omega) (by omega)
        rw [List.take_zero, List.drop_zero] at e
        rw [brn_f (by simp; omega), if_neg h2, show m22_L1 N n K.length (knsI K) (i : Int) (kI K i).length (prsI (kI K i)) N 0 = _ from e]
        by_cases h3 : chkL n [] (kI K i) = 0
        · rw [if_neg (by simpa using h3), outE, if_pos h3]
          simp only [bnd']
          rw [wrapN (by omega)]; exact ih
        · rw [if_pos h3, outE, if_neg h3]; simp [bnd', outE, h3]
    · rw [brn_f (by simp; omega), List.drop_eq_nil_of_le (by omega)]; rfl
theorem outE_end {x : Int} : (match outE x with | .inl p => some p | .inr () => some (PV.int .i64 0)) = some (.int .i64 x) := by
  unfold outE
  by_cases h : x = 0
  · rw [if_pos h, h]
  · rw [if_neg h]
theorem check_ok (N : Nat) (hN : 2000 ≤ N) (n : Int) (K : List (List (Int × Int))) (hK : K.length ≤ 1000) (hl : ∀ l ∈ K, l.length ≤ 1000) : m22 N (.agg [.int .i64 n, .lst false K.length (knsI K)]) = some (.int .i64 (chk n K)) := by
  simp only [m22, getA2, getI, if_true, getL]
  unfold chk
  by_cases h1 : n < 1
  · rw [brn_t (by simpa using h1), if_pos h1]
  · rw [brn_f (by simpa using h1), if_neg h1]
    by_cases h2 : n > 5
    · rw [brn_t (by simpa using h2), if_pos h2]
    · rw [brn_f (by simpa using h2), if_neg h2]
      by_cases h3 : 5 < K.length
      · rw [brn_t (by simp; omega), if_pos h3]
      · have e := chk_L0 N hN n K hK hl K.length 0 N (by omega) (by omega)
        rw [List.drop_zero] at e
        rw [brn_f (by simp; omega), if_neg h3, show m22_L0 N n K.length (knsI K) N 0 = _ from e]
        exact outE_end
theorem minI_min (a b : Int) : minI a b = min a b := by unfold minI; split <;> omega
theorem maxI_max (a b : Int) : maxI a b = max a b := by unfold maxI; split <;> omega
theorem chkL_fit {n : Nat} : ∀ (l d : List (Nat × Nat)), (∀ p ∈ l, p.1 < p.2 ∧ p.2 < n) → (d ++ l).Nodup → chkL (n : Int) (cL d) (cL l) = 0
  | [], _, _, _ => rfl
  | p :: l, d, h, hn => by
    have hp := h p (.head _)
    have e := chkL_fit l (d ++ [p]) (fun q hq => h q (.tail _ hq)) (by simpa using hn)
    have hc : (cL d).contains (cI p) = false := by
      rw [Bool.eq_false_iff]
      intro hc
      have hm : cI p ∈ cL d := by simpa using hc
      obtain ⟨q, hq, e⟩ := List.mem_map.1 hm
      have : q = p := by
        have e1 := congrArg Prod.fst e
        have e2 := congrArg Prod.snd e
        simp only [cI] at e1 e2
        exact Prod.ext (by omega) (by omega)
      subst this
      have := List.nodup_append.1 hn
      exact this.2.2 _ hq _ (.head _) rfl
    show chkL (n : Int) (cL d) (cI p :: cL l) = 0
    have m1 : ¬ minI (cI p).1 (cI p).2 < 0 := by rw [minI_min]; simp only [cI]; omega
    have m2 : ¬ maxI (cI p).1 (cI p).2 ≥ (n : Int) := by rw [maxI_max]; simp only [cI]; omega
    have m3 : ¬ (cI p).1 ≥ (cI p).2 := by simp only [cI]; omega
    rw [chkL, if_neg m1, if_neg m2, if_neg m3, hc, if_neg (by simp)]
    have e2 : cL d ++ [cI p] = cL (d ++ [p]) := by simp [cL]
    rw [e2]; exact e
theorem chkK_fit {n : Nat} : ∀ (K : List (List (Nat × Nat))), (∀ l ∈ K, l.length ≤ 6) → (∀ l ∈ K, ∀ p ∈ l, p.1 < p.2 ∧ p.2 < n) → (∀ l ∈ K, l.Nodup) → chkK (n : Int) (cK K) = 0
  | [], _, _, _ => rfl
  | l :: K, h1, h2, h3 => by
    have e := chkL_fit (n := n) l [] (h2 l (.head _)) (by simpa using h3 l (.head _))
    have := h1 l (.head _)
    show chkK (n : Int) (cL l :: cK K) = 0
    rw [chkK, if_neg (by rw [cL_len]; omega), if_neg (by simpa [cL] using e)]
    exact chkK_fit K (fun x hx => h1 x (.tail _ hx)) (fun x hx => h2 x (.tail _ hx)) (fun x hx => h3 x (.tail _ hx))
theorem chk_fit {n : Nat} {K : List (List (Nat × Nat))} (h : Fit n K) : chk (n : Int) (cK K) = 0 := by
  have := h.n1
  have := h.n5
  have := h.many
  unfold chk
  rw [if_neg (by omega), if_neg (by omega), if_neg (by rw [cK_len]; omega)]
  exact chkK_fit K h.len h.lt h.one

end Go.Proofs.YtnponojgpkbagaaDoor

namespace Go.Proofs.YtnponojgpkbagaaDoor
open Go.V Go.Crew
set_option linter.unusedSectionVars false
set_option linter.unnecessarySimpa false

theorem hasN_L (N : Nat) (x : Nat) (M : List Nat) (hM : M.length ≤ 1000) : ∀ (r i fuel : Nat), M.length - i = r → r < fuel →
    m85_2_L0 N M.length (x : Int) (nL M) fuel (i : Int) = some (if (M.drop i).contains x then .inl (.bool true) else .inr ())
  | r, i, 0, _, h => by omega
  | r, i, f + 1, hr, hf => by
    have hl := nL_len M
    rw [m85_2_L0]
    by_cases h : i < M.length
    · have ih := hasN_L N x M hM (r - 1) (i + 1) f (by omega) (by omega)
      rw [brn_t (by simp; omega), toNatN, grd_t ⟨by omega, by omega⟩, grd_t (by omega), nL_gp h, drop_nn h]
      simp only [getI, if_true, List.contains_cons]
      by_cases e : x = nn M i
      · rw [brn_t (by simp; omega)]; simp [e]
      · rw [brn_f (by simp; omega), wrapN (by omega), ih]; simp [e]
    · rw [brn_f (by simp; omega), List.drop_eq_nil_of_le (by omega)]; rfl
theorem hasN_ok (N : Nat) (hN : 2000 ≤ N) (x : Nat) (M : List Nat) (hM : M.length ≤ 1000) : m85_2 N M.length (x : Int) (nL M) = some (.bool (M.contains x)) := by
  have e := hasN_L N x M hM M.length 0 N (by omega) (by omega)
  rw [List.drop_zero] at e
  simp only [m85_2]
  rw [show m85_2_L0 N M.length (x : Int) (nL M) N 0 = _ from e]
  cases M.contains x <;> rfl
theorem prsI_fst {l : List (Int × Int)} {i : Nat} (h : i < l.length) : gp (prsI l) (i * 2) = .int .i64 (pI l i).1 := by
  have := prsI_two h
  have hl := prsI_len l
  simp only [gp, List.getD]
  have e := congrArg (fun z => z[0]?) this
  simp only [List.getElem?_take, List.getElem?_drop] at e
  simp at e
  rw [e]; rfl
theorem prsI_snd {l : List (Int × Int)} {i : Nat} (h : i < l.length) : gp (prsI l) (i * 2 + 1) = .int .i64 (pI l i).2 := by
  have := prsI_two h
  simp only [gp, List.getD]
  have e := congrArg (fun z => z[1]?) this
  simp only [List.getElem?_take, List.getElem?_drop] at e
  simp at e
  rw [e]; rfl
theorem bnd_t {α β : Type} {x : α} {f : α → Option β} : bnd' (some x) f = f x := rfl
theorem getI_t {α : Type} {k : IntKind} {x : Int} {f : Int → Option α} : getI k (.int k x) f = f x := by simp [getI]
theorem getB_t {α : Type} {x : Bool} {f : Bool → Option α} : getB (.bool x) f = f x := rfl
theorem getL_t {α : Type} {n : Nat} {c : List PV} {f : Nat → List PV → Option α} : getL (.lst false n c) f = f n c := rfl
theorem scan_L2 (N : Nat) (hN : 2000 ≤ N) (L : List (Nat × Nat)) (hl : L.length ≤ 500) (i v : Nat) (a b c d : Int) : ∀ (r k fuel : Nat) (M : List Nat), L.length - k = r → r < fuel → i < M.length → nn M i = v → M.length + r ≤ 900 →
    m96_L2 N a L.length (prsI (cL L)) b c (i : Int) d fuel M.length (k : Int) (nL M) = some ((scan (L.drop k) v M).length, nL (scan (L.drop k) v M))
  | r, k, 0, M, _, h, _, _, _ => by omega
  | r, k, f + 1, M, hr, hf, hi, hv, hm => by
    have hnl := nL_len M
    rw [m96_L2]
    by_cases h : k < L.length
    · have ih := fun M => scan_L2 N hN L hl i v a b c d (r - 1) (k + 1) f M (by omega) (by omega)
      have h' : k < (cL L).length := by rw [cL_len]; exact h
      have hc := prsI_two' h'
      have hlen := prsI_len (cL L)
      have q1 : ∀ {α : Type} (y : Option α), grd (0 < List.length (List.drop (k * 2) (prsI (cL L)))) y = y := fun y => grd_t (by omega)
      have q2 : ∀ {α : Type} (y : Option α), grd (0 < List.length (List.drop 1 (List.drop (k * 2) (prsI (cL L))))) y = y := fun y => grd_t (by rw [List.length_drop]; omega)
      have g1 : gp (prsI (cL L)) (k * 2) = .int .i64 ((pN L k).1 : Int) := by rw [prsI_fst h', cL_pI h]; rfl
      have g2 : gp (prsI (cL L)) (k * 2 + 1) = .int .i64 ((pN L k).2 : Int) := by rw [prsI_snd h', cL_pI h]; rfl
      have stay := ih M hi hv (by omega)
      have snoc : ∀ x : Nat, m96_L2 N a L.length (prsI (cL L)) b c (i : Int) d f (M.length + 1) (IntKind.i64.wrap ((k : Int) + 1)) (nL M ++ [.int .i64 (x : Int)]) = some ((scan (L.drop (k + 1)) v (M ++ [x])).length, nL (scan (L.drop (k + 1)) v (M ++ [x]))) := fun x => by
        have e1 : nL M ++ [PV.int .i64 (x : Int)] = nL (M ++ [x]) := by simp [nL]
        have := ih (M ++ [x]) (by simp; omega) (by rw [← hv]; exact getD_app hi) (by simp; omega)
        rw [List.length_append] at this
        rw [wrapN (by omega), e1]; exact this
      rw [brn_t (by simp; omega), toNatN, grd_t ⟨by omega, by omega⟩, q1, g1, drop_pN h]
      simp only [getI_t, toNatN]
      rw [grd_t (by omega), grd_t (by omega), nL_gp hi, hv]
      simp only [getI_t, q2, g2, hasN_ok N hN _ M (by omega), bnd_t, getB_t]
      show _ = some ((scan (L.drop (k + 1)) v (Crew.upd v M (pN L k))).length, nL (scan (L.drop (k + 1)) v (Crew.upd v M (pN L k))))
      unfold Crew.upd
      by_cases h1 : (pN L k).1 = v
      · rw [brn_t (by simp; omega)]
        cases m2 : M.contains (pN L k).2 with
        | true =>
          have m2' : (pN L k).2 ∈ M := by simpa using m2
          rw [brn_t rfl, if_neg (by simp [m2'])]
          by_cases h2 : (pN L k).2 = v
          · rw [brn_t (by simp; omega)]
            cases m1 : M.contains (pN L k).1 with
            | true =>
              have m1' : (pN L k).1 ∈ M := by simpa using m1
              rw [brn_t rfl, if_neg (by simp [m1']), wrapN (by omega)]; exact stay
            | false =>
              have m1' : (pN L k).1 ∉ M := by simpa using m1
              rw [brn_f rfl, if_pos ⟨h2, m1'⟩, grd_t (by omega), grd_t hnl]; exact snoc _
          · rw [brn_f (by simp; omega), if_neg (by simp [h2]), wrapN (by omega)]; exact stay
        | false =>
          have m2' : (pN L k).2 ∉ M := by simpa using m2
          rw [brn_f rfl, if_pos ⟨h1, m2'⟩, grd_t (by omega), grd_t hnl]; exact snoc _
      · rw [brn_f (by simp; omega), if_neg (by simp [h1])]
        by_cases h2 : (pN L k).2 = v
        · rw [brn_t (by simp; omega)]
          cases m1 : M.contains (pN L k).1 with
          | true =>
            have m1' : (pN L k).1 ∈ M := by simpa using m1
            rw [brn_t rfl, if_neg (by simp [m1']), wrapN (by omega)]; exact stay
          | false =>
            have m1' : (pN L k).1 ∉ M := by simpa using m1
            rw [brn_f rfl, if_pos ⟨h2, m1'⟩, grd_t (by omega), grd_t hnl]; exact snoc _
        · rw [brn_f (by simp; omega), if_neg (by simp [h2]), wrapN (by omega)]; exact stay
    · rw [brn_f (by simp; omega), List.drop_eq_nil_of_le (by omega)]; rfl
theorem scan_L3 (N : Nat) (hN : 2000 ≤ N) (L : List (Nat × Nat)) (hl : L.length ≤ 500) (i v : Nat) (a b c : Int) : ∀ (r k fuel : Nat) (M : List Nat), L.length - k = r → r < fuel → i < M.length → nn M i = v → M.length + r ≤ 900 →
    m96_L3 N a L.length (prsI (cL L)) b c (i : Int) fuel M.length (k : Int) (nL M) = some ((scan (L.drop k) v M).length, nL (scan (L.drop k) v M))
  | r, k, 0, M, _, h, _, _, _ => by omega
  | r, k, f + 1, M, hr, hf, hi, hv, hm => by
    have hnl := nL_len M
    rw [m96_L3]
    by_cases h : k < L.length
    · have ih := fun M => scan_L3 N hN L hl i v a b c (r - 1) (k + 1) f M (by omega) (by omega)
      have h' : k < (cL L).length := by rw [cL_len]; exact h
      have hc := prsI_two' h'
      have hlen := prsI_len (cL L)
      have q1 : ∀ {α : Type} (y : Option α), grd (0 < List.length (List.drop (k * 2) (prsI (cL L)))) y = y := fun y => grd_t (by omega)
      have q2 : ∀ {α : Type} (y : Option α), grd (0 < List.length (List.drop 1 (List.drop (k * 2) (prsI (cL L))))) y = y := fun y => grd_t (by rw [List.length_drop]; omega)
      have g1 : gp (prsI (cL L)) (k * 2) = .int .i64 ((pN L k).1 : Int) := by rw [prsI_fst h', cL_pI h]; rfl
      have g2 : gp (prsI (cL L)) (k * 2 + 1) = .int .i64 ((pN L k).2 : Int) := by rw [prsI_snd h', cL_pI h]; rfl
      have stay := ih M hi hv (by omega)
      have snoc : ∀ x : Nat, m96_L3 N a L.length (prsI (cL L)) b c (i : Int) f (M.length + 1) (IntKind.i64.wrap ((k : Int) + 1)) (nL M ++ [.int .i64 (x : Int)]) = some ((scan (L.drop (k + 1)) v (M ++ [x])).length, nL (scan (L.drop (k + 1)) v (M ++ [x]))) := fun x => by
        have e1 : nL M ++ [PV.int .i64 (x : Int)] = nL (M ++ [x]) := by simp [nL]
        have := ih (M ++ [x]) (by simp; omega) (by rw [← hv]; exact getD_app hi) (by simp; omega)
        rw [List.length_append] at this
        rw [wrapN (by omega), e1]; exact this
      rw [brn_t (by simp; omega), toNatN, grd_t ⟨by omega, by omega⟩, q1, g1, drop_pN h]
      simp only [getI_t, toNatN]
      rw [grd_t ⟨by omega, by omega⟩, grd_t (by omega), nL_gp hi, hv]
      simp only [getI_t, q2, g2, hasN_ok N hN _ M (by omega), bnd_t, getB_t]
      show _ = some ((scan (L.drop (k + 1)) v (Crew.upd v M (pN L k))).length, nL (scan (L.drop (k + 1)) v (Crew.upd v M (pN L k))))
      unfold Crew.upd
      by_cases h1 : (pN L k).1 = v
      · rw [brn_t (by simp; omega)]
        cases m2 : M.contains (pN L k).2 with
        | true =>
          have m2' : (pN L k).2 ∈ M := by simpa using m2
          rw [brn_t rfl, if_neg (by simp [m2'])]
          by_cases h2 : (pN L k).2 = v
          · rw [brn_t (by simp; omega)]
            cases m1 : M.contains (pN L k).1 with
            | true =>
              have m1' : (pN L k).1 ∈ M := by simpa using m1
              rw [brn_t rfl, if_neg (by simp [m1']), wrapN (by omega)]; exact stay
            | false =>
              have m1' : (pN L k).1 ∉ M := by simpa using m1
              rw [brn_f rfl, if_pos ⟨h2, m1'⟩, grd_t (by omega), grd_t hnl]; exact snoc _
          · rw [brn_f (by simp; omega), if_neg (by simp [h2]), wrapN (by omega)]; exact stay
        | false =>
          have m2' : (pN L k).2 ∉ M := by simpa using m2
          rw [brn_f rfl, if_pos ⟨h1, m2'⟩, grd_t (by omega), grd_t hnl]; exact snoc _
      · rw [brn_f (by simp; omega), if_neg (by simp [h1])]
        by_cases h2 : (pN L k).2 = v
        · rw [brn_t (by simp; omega)]
          cases m1 : M.contains (pN L k).1 with
          | true =>
            have m1' : (pN L k).1 ∈ M := by simpa using m1
            rw [brn_t rfl, if_neg (by simp [m1']), wrapN (by omega)]; exact stay
          | false =>
            have m1' : (pN L k).1 ∉ M := by simpa using m1
            rw [brn_f rfl, if_pos ⟨h2, m1'⟩, grd_t (by omega), grd_t hnl]; exact snoc _
        · rw [brn_f (by simp; omega), if_neg (by simp [h2]), wrapN (by omega)]; exact stay
    · rw [brn_f (by simp; omega), List.drop_eq_nil_of_le (by omega)]; rfl
theorem grp_L1 (N : Nat) (hN : 2000 ≤ N) (L : List (Nat × Nat)) (hL : Ok L) (hl : L.length ≤ 500) (a x : Int) (s : Nat) (hs : s < 5) : ∀ (f i : Nat) (M : List Nat) (b : Bool), 5 < f + i → Bok L s i M →
    m96_L1 N a L.length (prsI (cL L)) x (s : Int) f M.length b (i : Int) (nL M) = some (b && ((bfs L f i M).drop i).all fun y => decide (s ≤ y))
  | 0, i, M, b, hf, h => by
    have := nodup_five h.nd fun x hx => (h.cl x hx).1
    have := h.le
    omega
  | f + 1, i, M, b, hf, h => by
    have h5 := nodup_five h.nd fun x hx => (h.cl x hx).1
    have hnl := nL_len M
    rw [m96_L1, bfs]
    by_cases hi : i < M.length
    · have hb := bok_scan hL h hi
      have ih := fun b => grp_L1 N hN L hL hl a x s hs f (i + 1) (scan L (M.getD i 0) M) b (by omega) hb
      obtain ⟨R1, e1⟩ := scan_sub L (M.getD i 0) M
      obtain ⟨R2, e2⟩ := bfs_sub L f (i + 1) (scan L (M.getD i 0) M)
      have ed : (bfs L f (i + 1) (scan L (M.getD i 0) M)).drop i = nn M i :: (bfs L f (i + 1) (scan L (M.getD i 0) M)).drop (i + 1) := by
        rw [drop_nn (by rw [e2, e1]; simp; omega)]
        congr 1
        show List.getD _ _ _ = _
        rw [e2, e1, List.append_assoc, getD_app hi]; rfl
      rw [if_pos hi, brn_t (by simp; omega), ed, List.all_cons]
      cases b with
      | true =>
        have e := scan_L2 N hN L hl i (nn M i) a x (s : Int) (nn M i : Int) L.length 0 N M (by omega) (by omega) hi rfl (by omega)
        rw [List.drop_zero] at e
        rw [brn_t rfl, toNatN, grd_t ⟨by omega, by omega⟩, grd_t (by omega), nL_gp hi, getI_t, show m96_L2 N a L.length (prsI (cL L)) x (s : Int) (i : Int) (nn M i : Int) N M.length 0 (nL M) = _ from e, bnd_t]
        simp only []
        rw [wrapN (by omega)]
        have := ih (decide ((nn M i : Int) ≥ (s : Int)))
        rw [show (scan L (nn M i) M) = scan L (M.getD i 0) M from rfl, this]
        congr 1
        rw [Bool.true_and]
        congr 1
        simp
      | false =>
        have e := scan_L3 N hN L hl i (nn M i) a x (s : Int) L.length 0 N M (by omega) (by omega) hi rfl (by omega)
        rw [List.drop_zero] at e
        rw [brn_f rfl, show m96_L3 N a L.length (prsI (cL L)) x (s : Int) (i : Int) N M.length 0 (nL M) = _ from e, bnd_t]
        simp only []
        rw [wrapN (by omega)]
        exact ih false
    · have : i = M.length := by have := h.le; omega
      rw [if_neg hi, brn_f (by simp; omega), List.drop_eq_nil_of_le (by omega)]
      simp
theorem parts_L (N : Nat) (hN : 2000 ≤ N) (n : Nat) (hn : n ≤ 5) (L : List (Nat × Nat)) (hL : Ok L) (hl : L.length ≤ 500) : ∀ (r s fuel c : Nat), n - s = r → r < fuel → c ≤ s →
    m96_L0 N (n : Int) L.length (prsI (cL L)) fuel (c : Int) (s : Int) = some ((c + ((List.range' s (n - s)).filter fun s => ja (runJ apt L) s == s).length : Nat) : Int)
  | r, s, 0, c, _, h, _ => by omega
  | r, s, f + 1, c, hr, hf, hc => by
    rw [m96_L0]
    by_cases h : s < n
    · have e := grp_L1 N hN L hL hl (n : Int) (c : Int) s (by omega) N 0 [s] true (by omega) (bok_init L (by omega))
      rw [List.drop_zero, grp_first hL (by omega) (by omega), Bool.true_and] at e
      rw [brn_t (by simp; omega), show m96_L1 N (n : Int) L.length (prsI (cL L)) (c : Int) (s : Int) N 1 true 0 [.int .i64 (s : Int)] = _ from e, bnd_t, show n - s = (n - (s + 1)) + 1 by omega, List.range'_succ, List.filter_cons]
      cases hq : ja (runJ apt L) s == s with
      | true =>
        rw [brn_t rfl, wrapN (by omega), wrapN (by omega), parts_L N hN n hn L hL hl (r - 1) (s + 1) f (c + 1) (by omega) (by omega) (by omega)]
        simp; omega
      | false =>
        rw [brn_f rfl, wrapN (by omega), parts_L N hN n hn L hL hl (r - 1) (s + 1) f c (by omega) (by omega) (by omega)]
        simp
    · rw [brn_f (by simp; omega), show n - s = 0 by omega]; simp
/-- the reference's groups are what joining leaves -/
theorem parts_ok (N : Nat) (hN : 2000 ≤ N) (n : Nat) (hn : n ≤ 5) (L : List (Nat × Nat)) (hL : ∀ p ∈ L, p.1 < n ∧ p.2 < n) (hl : L.length ≤ 500) : m96 N (n : Int) (.lst false L.length (prsI (cL L))) = some (.int .i64 ((n - rk L : Nat) : Int)) := by
  have hL5 : Ok L := fun p hp => ⟨by have := hL p hp; omega, by have := hL p hp; omega⟩
  have e := parts_L N hN n hn L hL5 hl n 0 N 0 (by omega) (by omega) (by omega)
  have g := grps_rk hn hL
  rw [Nat.zero_add, Nat.sub_zero, ← List.range_eq_range'] at e
  rw [m96, getL_t, show m96_L0 N (n : Int) L.length (prsI (cL L)) N 0 0 = _ from e, bnd_t]
  rw [show ((List.range n).filter fun s => ja (runJ apt L) s == s).length = grps n L from rfl, show grps n L = n - rk L by omega]
end Go.Proofs.YtnponojgpkbagaaDoor

namespace Go.Proofs.YtnponojgpkbagaaDoor
open Go.V Go.Crew
set_option linter.unusedSectionVars false
set_option linter.unnecessarySimpa false

theorem in_ok (N : Nat) (x lo hi : Int) : m75 N x lo hi = some (.bool (decide (lo ≤ x) && decide (x ≤ hi))) := by
  unfold m75
  by_cases h : x ≥ lo
  · have h' : lo ≤ x := h
    rw [brn_t (decide_eq_true h), decide_eq_true h', Bool.true_and]
  · have h' : ¬ lo ≤ x := h
    rw [brn_f (decide_eq_false h), decide_eq_false h', Bool.false_and]
theorem getA2_t {α : Type} {a b : PV} {f : PV → PV → Option α} : getA2 (.agg [a, b]) f = f a b := rfl
theorem twice_L (N : Nat) (n : Int) (m : Nat) (c : List PV) (x : Int) (l : List (Int × Int)) (i : Nat) (hi : i < l.length) (hl : l.length ≤ 1000) : ∀ (r j fuel : Nat), i - j = r → r < fuel →
    m23_L2 N n m c x l.length (prsI l) (i : Int) fuel (j : Int) = some (if ((l.take i).drop j).contains (pI l i) then .inl (.int .i64 6) else .inr ())
  | r, j, 0, _, h => by omega
  | r, j, f + 1, hr, hf => by
    rw [m23_L2]
    by_cases h : j < i
    · have ih := twice_L N n m c x l i hi hl (r - 1) (j + 1) f (by omega) (by omega)
      have hj : j < l.length := by omega
      have hjt : j < (l.take i).length := by rw [List.length_take]; omega
      have e : pI (l.take i) j = pI l j := by simp [pI, List.getD, h]
      rw [brn_t (by simp; omega), toNatN, toNatN, grd_t ⟨by omega, by omega⟩, grd_t (prsI_two' hj), prsI_two hj, getA2_t, grd_t (prsI_two' hi), prsI_two hi, getA2_t, getI_t, getI_t, getI_t, getI_t, drop_pI hjt, List.contains_cons, e]
      by_cases q : pI l i = pI l j
      · rw [brn_t (by rw [q]; simp)]; simp [q]
      · have q1 : (pI l i == pI l j) = false := by simpa using q
        rw [brn_f (by
          rw [Bool.and_eq_false_iff]
          by_cases a : (pI l i).1 = (pI l j).1
          · right; have : (pI l j).2 ≠ (pI l i).2 := fun b => q (Prod.ext a b.symm)
            simpa using this
          · left; simpa using fun b : (pI l j).1 = (pI l i).1 => a b.symm), wrapN (by omega), ih, q1, Bool.false_or]
    · rw [brn_f (by simp; omega), List.drop_eq_nil_of_le (by rw [List.length_take]; omega)]; rfl
theorem rchk_L1 (N : Nat) (hN : 2000 ≤ N) (n : Int) (hn1 : 1 ≤ n) (hn5 : n ≤ 5) (m : Nat) (c : List PV) (x : Int) (l : List (Int × Int)) (hl : l.length ≤ 1000) : ∀ (r i fuel : Nat), l.length - i = r → r < fuel →
    m23_L1 N n m c x l.length (prsI l) fuel (i : Int) = some (outE (chkL n (l.take i) (l.drop i)))
  | r, i, 0, _, h => by omega
  | r, i, f + 1, hr, hf => by
    rw [m23_L1]
    by_cases h : i < l.length
    · have ih := rchk_L1 N hN n hn1 hn5 m c x l hl (r - 1) (i + 1) f (by omega) (by omega)
      have hp := prsI_len l
      have w : IntKind.i64.wrap (n - 1) = n - 1 := wrap64 (by omega) (by omega)
      rw [brn_t (by simp; omega), toNatN, grd_t ⟨by omega, by omega⟩, grd_t (by rw [List.length_drop]; omega), prsI_fst h, getI_t, w, in_ok, bnd_t, getB_t, drop_pI h, chkL, minI_min, maxI_max]
      by_cases h1 : 0 ≤ (pI l i).1 ∧ (pI l i).1 ≤ n - 1
      · rw [brn_t (by simp [h1]), grd_t (by rw [List.length_drop, List.length_drop]; omega), prsI_snd h, getI_t, in_ok, bnd_t, getB_t]
        by_cases h2 : 0 ≤ (pI l i).2 ∧ (pI l i).2 ≤ n - 1
        · rw [brn_t (by simp [h2]), if_neg (by omega), if_neg (by omega)]
          by_cases h3 : (pI l i).1 ≥ (pI l i).2
          · rw [brn_t (by simpa using h3), if_pos h3]; rfl
          · have e := twice_L N n m c x l i h hl i 0 N (by omega) (by omega)
            rw [List.drop_zero] at e
            rw [brn_f (by simpa using h3), if_neg h3, show m23_L2 N n m c x l.length (prsI l) (i : Int) N 0 = _ from e]
            cases hc : (l.take i).contains (pI l i) with
            | true => rfl
            | false =>
              simp only [Bool.false_eq_true, if_false, bnd_t]
              rw [wrapN (by omega), ih, take_pI h]
        · rw [brn_f (by
            rw [Bool.and_eq_false_iff]
            by_cases a : 0 ≤ (pI l i).2
            · right; simp; omega
            · left; simpa using a)]
          by_cases a : min (pI l i).1 (pI l i).2 < 0
          · rw [if_pos a]; rfl
          · rw [if_neg a, if_pos (by omega)]; rfl
      · rw [brn_f (by
          rw [Bool.and_eq_false_iff]
          by_cases a : 0 ≤ (pI l i).1
          · right; simp; omega
          · left; simpa using a)]
        by_cases a : min (pI l i).1 (pI l i).2 < 0
        · rw [if_pos a]; rfl
        · rw [if_neg a, if_pos (by omega)]; rfl
    · rw [brn_f (by simp; omega), List.drop_eq_nil_of_le (by omega)]; rfl
theorem rchk_L0 (N : Nat) (hN : 2000 ≤ N) (n : Int) (hn1 : 1 ≤ n) (hn5 : n ≤ 5) (K : List (List (Int × Int))) (hK : K.length ≤ 1000) (hl : ∀ l ∈ K, l.length ≤ 1000) : ∀ (r i fuel : Nat), K.length - i = r → r < fuel →
    m23_L0 N n K.length (knsI K) fuel (i : Int) = some (outE (chkK n (K.drop i)))
  | r, i, 0, _, h => by omega
  | r, i, f + 1, hr, hf => by
    have hk := knsI_len K
    rw [m23_L0]
    by_cases h : i < K.length
    · have ih := rchk_L0 N hN n hn1 hn5 K hK hl (r - 1) (i + 1) f (by omega) (by omega)
      have h1 := hl _ (kI_mem h)
      rw [brn_t (by simp; omega), toNatN, grd_t ⟨by omega, by omega⟩, grd_t (by simp only [List.length_drop]; omega), knsI_gp h, drop_kI h]
      simp only [getL, chkK]
      by_cases h2 : 6 < (kI K i).length
      · rw [brn_t (by simp; omega), if_pos h2]; rfl
      · have e := rchk_L1 N hN n hn1 hn5 K.length (knsI K) (i : Int) (kI K i) h1 (kI K i).length 0 N (by omega) (by omega)
        rw [List.take_zero, List.drop_zero] at e
        rw [brn_f (by simp; omega), if_neg h2, show m23_L1 N n K.length (knsI K) (i : Int) (kI K i).length (prsI (kI K i)) N 0 = _ from e]
        by_cases h3 : chkL n [] (kI K i) = 0
        · rw [if_neg (by simpa using h3), outE, if_pos h3]
          simp only [bnd']
          rw [wrapN (by omega)]; exact ih
        · rw [if_pos h3, outE, if_neg h3]; simp [bnd', outE, h3]
    · rw [brn_f (by simp; omega), List.drop_eq_nil_of_le (by omega)]; rfl
theorem rcheck_ok (N : Nat) (hN : 2000 ≤ N) (n : Int) (K : List (List (Int × Int))) (hK : K.length ≤ 1000) (hl : ∀ l ∈ K, l.length ≤ 1000) : m23 N (.agg [.int .i64 n, .lst false K.length (knsI K)]) = some (.int .i64 (chk n K)) := by
  rw [m23, getA2_t, getI_t, in_ok, bnd_t, getB_t]
  unfold chk
  by_cases h1 : n < 1
  · rw [brn_f (by simp; omega), if_pos h1]
  · rw [if_neg h1]
    by_cases h2 : n > 5
    · rw [brn_f (by simp; omega), if_pos h2]
    · rw [brn_t (by simp; omega), if_neg h2, getL_t]
      by_cases h3 : 5 < K.length
      · rw [brn_t (by simp; omega), if_pos h3]
      · have e := rchk_L0 N hN n (by omega) (by omega) K hK hl K.length 0 N (by omega) (by omega)
        rw [List.drop_zero] at e
        rw [brn_f (by simp; omega), if_neg h3, show m23_L0 N n K.length (knsI K) N 0 = _ from e]
        exact outE_end
end Go.Proofs.YtnponojgpkbagaaDoor

namespace Go.Proofs.YtnponojgpkbagaaDoor
open Go.V Go.Crew
set_option linter.unusedSectionVars false
set_option linter.unnecessarySimpa false

theorem chkL_zero {n : Int} : ∀ (r d : List (Int × Int)), chkL n d r = 0 → d.Nodup → (∀ p ∈ r, 0 ≤ p.1 ∧ p.1 < p.2 ∧ p.2 < n) ∧ (d ++ r).Nodup
  | [], d, _, hd => ⟨fun p hp => by simp at hp, by simpa using hd⟩
  | p :: r, d, h, hd => by
    rw [chkL] at h
    split at h
    · cases h
    · rename_i h1
      split at h
      · cases h
      · rename_i h2
        split at h
        · cases h
        · rename_i h3
          split at h
          · cases h
          · rename_i h4
            rw [minI_min] at h1
            rw [maxI_max] at h2
            have hm : p ∉ d := by simpa using h4
            obtain ⟨a, b⟩ := chkL_zero r (d ++ [p]) h (List.nodup_append.2 ⟨hd, by simp, fun x hx y hy => by simp only [List.mem_singleton] at hy; subst hy; exact fun e => hm (e ▸ hx)⟩)
            refine ⟨fun q hq => ?_, by simpa using b⟩
            rcases List.mem_cons.1 hq with rfl | hq
            · omega
            · exact a q hq
theorem chkK_zero {n : Int} : ∀ (K : List (List (Int × Int))), chkK n K = 0 → ∀ l ∈ K, l.length ≤ 6 ∧ (∀ p ∈ l, 0 ≤ p.1 ∧ p.1 < p.2 ∧ p.2 < n) ∧ l.Nodup
  | [], _, _, hl => by simp at hl
  | l :: K, h, x, hx => by
    rw [chkK] at h
    split at h
    · cases h
    · rename_i h1
      split at h
      · rename_i h2; exact absurd h h2
      · rename_i h2
        rcases List.mem_cons.1 hx with rfl | hx
        · have h2' : chkL n [] x = 0 := by simpa using h2
          obtain ⟨a, b⟩ := chkL_zero x [] h2' .nil
          exact ⟨by omega, a, by simpa using b⟩
        · exact chkK_zero K h x hx
def toP (p : Int × Int) : Nat × Nat := (p.1.toNat, p.2.toNat)
theorem toP_cI {p : Int × Int} (h : 0 ≤ p.1 ∧ 0 ≤ p.2) : cI (toP p) = p := by
  simp only [cI, toP]
  exact Prod.ext (by simp only []; omega) (by simp only []; omega)
theorem map_toP : ∀ {l : List (Int × Int)}, (∀ p ∈ l, 0 ≤ p.1 ∧ 0 ≤ p.2) → cL (l.map toP) = l
  | [], _ => rfl
  | p :: l, h => by
    show cI (toP p) :: cL (l.map toP) = p :: l
    rw [toP_cI (h p (.head _)), map_toP fun q hq => h q (.tail _ hq)]
theorem chk_zero {n : Int} {K : List (List (Int × Int))} (h : chk n K = 0) : ∃ (m : Nat) (K' : List (List (Nat × Nat))), n = (m : Int) ∧ K = cK K' ∧ Fit m K' := by
  unfold chk at h
  split at h
  · cases h
  · rename_i h1
    split at h
    · cases h
    · rename_i h2
      split at h
      · cases h
      · rename_i h3
        have hz := chkK_zero K h
        have e : cK (K.map fun l => l.map toP) = K := by
          unfold cK
          rw [List.map_map]
          have : ∀ K0 : List (List (Int × Int)), (∀ l ∈ K0, l ∈ K) → K0.map (cL ∘ fun l => l.map toP) = K0 := by
            intro K0
            induction K0 with
            | nil => intro _; rfl
            | cons l K0 ih =>
              intro hk
              rw [List.map_cons, ih fun x hx => hk x (.tail _ hx)]
              congr 1
              have := hz l (hk l (.head _))
              exact map_toP fun p hp => by have := this.2.1 p hp; omega
          exact this K fun l hl => hl
        refine ⟨n.toNat, K.map fun l => l.map toP, by omega, e.symm, by omega, by omega, by simp; omega, fun l hl => ?_, fun l hl p hp => ?_, fun l hl => ?_⟩
        · obtain ⟨l0, h0, rfl⟩ := List.mem_map.1 hl
          have := (hz l0 h0).1
          simpa using this
        · obtain ⟨l0, h0, rfl⟩ := List.mem_map.1 hl
          obtain ⟨p0, hp0, rfl⟩ := List.mem_map.1 hp
          have := (hz l0 h0).2.1 p0 hp0
          simp only [toP]; omega
        · obtain ⟨l0, h0, rfl⟩ := List.mem_map.1 hl
          obtain ⟨_, b, c⟩ := hz l0 h0
          refine List.Pairwise.map _ (fun p q (hpq : p ≠ q ∧ (0 ≤ p.1 ∧ 0 ≤ p.2) ∧ (0 ≤ q.1 ∧ 0 ≤ q.2)) e => ?_) (?_ : l0.Pairwise fun p q => p ≠ q ∧ (0 ≤ p.1 ∧ 0 ≤ p.2) ∧ (0 ≤ q.1 ∧ 0 ≤ q.2))
          · have e1 := congrArg cI e
            rw [toP_cI hpq.2.1, toP_cI hpq.2.2] at e1
            exact hpq.1 e1
          · refine List.Pairwise.imp_of_mem (fun {p q} hp hq hpq => ⟨hpq, ?_, ?_⟩) c
            · have := b p hp; omega
            · have := b q hq; omega
end Go.Proofs.YtnponojgpkbagaaDoor

namespace Go.Proofs.YtnponojgpkbagaaDoor
open Go.V Go.Crew
set_option linter.unusedSectionVars false
set_option linter.unnecessarySimpa false

end Go.Proofs.YtnponojgpkbagaaDoor

namespace Go.Proofs.YtnponojgpkbagaaDoor
open Go.V Go.Crew
set_option linter.unusedSectionVars false
set_option linter.unnecessarySimpa false

theorem getT2_t {α : Type} {a b : PV} {f : PV → PV → Option α} : getT2 (.tup [a, b]) f = f a b := rfl
end Go.Proofs.YtnponojgpkbagaaDoor

namespace Go.Proofs.YtnponojgpkbagaaDoor
open Go.V Go.Crew
set_option linter.unusedSectionVars false
set_option linter.unnecessarySimpa false

theorem ringless_ok (N : Nat) (hN : 2000 ≤ N) (m : Nat) (h1 : 1 ≤ m) (h5 : m ≤ 5) (D : List (Nat × Nat)) (hD : ∀ p ∈ D, p.1 < m ∧ p.2 < m) (hl : D.length ≤ 500) : m74 N (m : Int) (.lst false D.length (prsI (cL D))) = some (.bool (rk D == D.length)) := by
  have lt := rk_lt h1 h5 hD
  have le := rk_le D
  rw [m74, getL_t, parts_ok N hN m h5 D hD hl, bnd_t, getI_t, wrap64 (by omega) (by omega)]
  congr 2
  rw [Bool.eq_iff_iff]; simp; omega
end Go.Proofs.YtnponojgpkbagaaDoor

namespace Go.Proofs.YtnponojgpkbagaaDoor
open Go.V Go.Crew
set_option linter.unusedSectionVars false
set_option linter.unnecessarySimpa false

theorem mems_ok : ∀ (s : Nat), s < 32 → m77 2000 (s : Int) = some (.lst false (memb s).length (nL (memb s)))
  | 0, _ => by kernel_rfl
  | 1, _ => by kernel_rfl
  | 2, _ => by kernel_rfl
  | 3, _ => by kernel_rfl
  | 4, _ => by kernel_rfl
  | 5, _ => by kernel_rfl
  | 6, _ => by kernel_rfl
  | 7, _ => by kernel_rfl
  | 8, _ => by kernel_rfl
  | 9, _ => by kernel_rfl
  | 10, _ => by kernel_rfl
  | 11, _ => by kernel_rfl
  | 12, _ => by kernel_rfl
  | 13, _ => by kernel_rfl
  | 14, _ => by kernel_rfl
  | 15, _ => by kernel_rfl
  | 16, _ => by kernel_rfl
  | 17, _ => by kernel_rfl
  | 18, _ => by kernel_rfl
  | 19, _ => by kernel_rfl
  | 20, _ => by kernel_rfl
  | 21, _ => by kernel_rfl
  | 22, _ => by kernel_rfl
  | 23, _ => by kernel_rfl
  | 24, _ => by kernel_rfl
  | 25, _ => by kernel_rfl
  | 26, _ => by kernel_rfl
  | 27, _ => by kernel_rfl
  | 28, _ => by kernel_rfl
  | 29, _ => by kernel_rfl
  | 30, _ => by kernel_rfl
  | 31, _ => by kernel_rfl
  | n + 32, h => by omega
end Go.Proofs.YtnponojgpkbagaaDoor

namespace Go.Proofs.YtnponojgpkbagaaDoor
open Go.V Go.Crew
set_option linter.unusedSectionVars false
set_option linter.unnecessarySimpa false

section
end
end Go.Proofs.YtnponojgpkbagaaDoor

namespace Go.Proofs.YtnponojgpkbagaaDoor
open Go.V Go.Crew
set_option linter.unusedSectionVars false
set_option linter.unnecessarySimpa false

def rwN (l : List Nat) : PV := .lst false l.length (nL l)
end Go.Proofs.YtnponojgpkbagaaDoor

namespace Go.Proofs.YtnponojgpkbagaaDoor
open Go.V Go.Crew
set_option linter.unusedSectionVars false
set_option linter.unnecessarySimpa false

section
end
end Go.Proofs.YtnponojgpkbagaaDoor

namespace Go.Proofs.YtnponojgpkbagaaDoor
open Go.V Go.Crew
set_option linter.unusedSectionVars false
set_option linter.unnecessarySimpa false

end Go.Proofs.YtnponojgpkbagaaDoor

namespace Go.Proofs.YtnponojgpkbagaaDoor
open Go.V Go.Crew
set_option linter.unusedSectionVars false
set_option linter.unnecessarySimpa false

def bigK (K : List (List (Int × Int))) : Bool := decide (20 < K.length) || K.any fun l => decide (20 < l.length)
theorem large_L (N : Nat) (p : PV) (K : List (List (Int × Int))) (hK : K.length ≤ 20) : ∀ (r i fuel : Nat), K.length - i = r → r < fuel →
    m15_L0 N p K.length (knsI K) fuel (i : Int) = some (if (K.drop i).any (fun l => decide (20 < l.length)) then .inl (.bool true) else .inr ())
  | r, i, 0, _, h => by omega
  | r, i, f + 1, hr, hf => by
    have hk := knsI_len K
    rw [m15_L0]
    by_cases h : i < K.length
    · have ih := large_L N p K hK (r - 1) (i + 1) f (by omega) (by omega)
      rw [brn_t (decide_eq_true (by omega)), toNatN, grd_t ⟨by omega, by omega⟩, grd_t (by simp only [List.length_drop]; omega), knsI_gp h, getL_t, drop_kI h, List.any_cons]
      by_cases q : 20 < (kI K i).length
      · rw [brn_t (decide_eq_true (by omega))]; simp [q]
      · rw [brn_f (decide_eq_false (by omega)), wrapN (by omega), ih]; simp [q]
    · rw [brn_f (decide_eq_false (by omega)), List.drop_eq_nil_of_le (by omega)]; rfl
theorem large_ok (N : Nat) (hN : 2000 ≤ N) (p : PV) (K : List (List (Int × Int))) : m15 N (.agg [p, .lst false K.length (knsI K)]) = some (.bool (bigK K)) := by
  rw [m15, getA2_t, getL_t]
  by_cases h : 20 < K.length
  · rw [brn_t (decide_eq_true (by omega))]; simp [bigK, h]
  · have e := large_L N p K (by omega) K.length 0 N (by omega) (by omega)
    rw [List.drop_zero] at e
    rw [brn_f (decide_eq_false (by omega)), show m15_L0 N p K.length (knsI K) N 0 = _ from e, bnd_t]
    simp only [bigK, h, decide_false, Bool.false_or]
    cases K.any fun l => decide (20 < l.length) <;> rfl
theorem big_f {K : List (List (Int × Int))} (h : bigK K = false) : K.length ≤ 20 ∧ ∀ l ∈ K, l.length ≤ 20 := by
  simp only [bigK, Bool.or_eq_false_iff, decide_eq_false_iff_not] at h
  refine ⟨by omega, fun l hl => ?_⟩
  have := List.any_eq_false.1 h.2 l hl
  simp at this; exact this
theorem same_L (N : Nat) (X : List Nat) (hX : X.length ≤ 1000) : ∀ (r i fuel : Nat), X.length - i = r → r < fuel → m21_L0 N X.length (nL X) X.length (nL X) fuel (i : Int) = some (.inr ())
  | r, i, 0, _, h => by omega
  | r, i, f + 1, hr, hf => by
    have hl := nL_len X
    rw [m21_L0]
    by_cases h : i < X.length
    · rw [brn_t (decide_eq_true (by omega)), toNatN, grd_t ⟨by omega, by omega⟩, grd_t (by simp only [List.length_drop]; omega), nL_gp h, getI_t, grd_t (by omega), grd_t (by simp only [List.length_drop]; omega), getI_t, brn_f (by simp), wrapN (by omega)]
      exact same_L N X hX (r - 1) (i + 1) f (by omega) (by omega)
    · rw [brn_f (decide_eq_false (by omega))]
theorem same_ok (X : List Nat) (hX : X.length ≤ 1000) : m21 2000 (.lst false X.length (nL X)) (.lst false X.length (nL X)) = some (.bool true) := by
  have := same_L 2000 X hX X.length 0 2000 (by omega) (by omega)
  rw [m21, getL_t, getL_t, brn_f (by simp), show m21_L0 2000 X.length (nL X) X.length (nL X) 2000 0 = _ from this, bnd_t]
end Go.Proofs.YtnponojgpkbagaaDoor

namespace Go.Proofs.YtnponojgpkbagaaDoor
open Go.V Go.Crew
set_option linter.unusedSectionVars false
set_option linter.unnecessarySimpa false

section
end

theorem every_L (N : Nat) (p : PV) (d : Nat) (c : List PV) (hd : d ≤ 1000) : ∀ (r i fuel : Nat), d - i = r → i ≤ d → r < fuel → m80_L0 N p fuel i (i : Int) (.lst false d c) (nL (List.range i)) = some (d, nL (List.range d))
  | r, i, 0, _, _, h => by omega
  | r, i, f + 1, hr, hi, hf => by
    rw [m80_L0, getL_t]
    by_cases h : i < d
    · have ih := every_L N p d c hd (r - 1) (i + 1) f (by omega) (by omega) (by omega)
      have hl : (nL (List.range i)).length = i := by rw [nL_len, List.length_range]
      rw [brn_t (decide_eq_true (by omega)), grd_t (by omega), grd_t hl, wrapN (by omega)]
      have e : nL (List.range i) ++ [PV.int .i64 (i : Int)] = nL (List.range (i + 1)) := by simp [nL, List.range_succ]
      rw [e]; exact ih
    · rw [brn_f (decide_eq_false (by omega)), show i = d by omega]
theorem every_ok (N : Nat) (hN : 2000 ≤ N) (p : PV) (d : Nat) (c : List PV) (hd : d ≤ 1000) : m80 N (.agg [p, .lst false d c]) = some (.lst false (List.range d).length (nL (List.range d))) := by
  have e := every_L N p d c hd d 0 N (by omega) (by omega) (by omega)
  rw [m80, getA2_t, show m80_L0 N p N 0 0 (.lst false d c) [] = _ from e, bnd_t]
  simp only []
  rw [grd_t (by rw [nL_len, List.length_range]), List.length_range]
end Go.Proofs.YtnponojgpkbagaaDoor

namespace Go.Proofs.YtnponojgpkbagaaDoor
open Go.V Go.Crew
set_option linter.unusedSectionVars false
set_option linter.unnecessarySimpa false

def ksP (ks : List Nat) : PV := .lst false ks.length (nL ks)
def kiP (K : List (List (Nat × Nat))) : PV := .lst false K.length (knsI (cK K))
theorem nL_snoc (c : List Nat) (i : Nat) : nL c ++ [PV.int .i64 (i : Int)] = nL (c ++ [i]) := by simp [nL]
theorem cL_pk {L : List (Nat × Nat)} {i : Nat} (h : i < L.length) : pI (cL L) i = cI (pk L i) := cL_pI h
theorem pk_mem {L : List (Nat × Nat)} {i : Nat} (h : i < L.length) : pk L i ∈ L := pN_mem h
def resF (ks : List Nat) (K : List (List (Nat × Nat))) (c : List Nat) (out : PV) (b : Bool) : Option (List Nat) → PV × PV × PV × Bool × PV
  | none => (.bool true, ksP ks, out, b, kiP K)
  | some l => (.bool false, ksP ks, .lst false (c ++ l).length (nL (c ++ l)), false, kiP K)
def lopF (ks : List Nat) (K : List (List (Nat × Nat))) (c : List Nat) (out : PV) (b : Bool) : Option (List Nat) → (PV × PV × PV × Bool × PV) ⊕ (PV × PV × Bool × PV)
  | none => .inr (ksP ks, out, b, kiP K)
  | some l => .inl (.bool false, ksP ks, .lst false (c ++ l).length (nL (c ++ l)), false, kiP K)
section
variable (ks : List Nat) (K : List (List (Nat × Nat))) (sf : PV) (c : List Nat) (hc : c.length ≤ 100) (j : List Nat) (hj : j.length = 5) (l : List (Nat × Nat)) (hl : l.length ≤ 6) (hO : Ok l) (S : List (List (Nat × Nat)))
include hc hj hl hO
theorem f3_L (rec : PV → PV → PV → PV → Bool → PV → PV → Option ((PV × PV × PV × Bool × PV)))
    (hrec : ∀ i, i < l.length → jnd j (pk l i) = false → ∀ out b, rec (.lst false (c.length + 1) (nL c ++ [.int .i64 (i : Int)])) (.agg (jP (wth j (pk l i)))) (ksP ks) out b sf (kiP K) = some (resF ks K (c ++ [i]) out b (chs S (wth j (pk l i))).head?)) :
    ∀ (r i fuel : Nat) (out : PV) (b : Bool), l.length - i = r → r < fuel →
    m99_2_L0 2000 rec sf c.length (nL c) (.int .i64 (ja j 0 : Int)) (.int .i64 (ja j 1 : Int)) (.int .i64 (ja j 2 : Int)) (.int .i64 (ja j 3 : Int)) (.int .i64 (ja j 4 : Int)) l.length (prsI (cL l)) fuel (i : Int) (ksP ks) out b (kiP K) = some (lopF ks K c out b (chsF l S j i).head?)
  | r, i, 0, _, _, _, h => by omega
  | r, i, f + 1, out, b, hr, hf => by
    rw [m99_2_L0]
    by_cases h : i < l.length
    · have ih := f3_L rec hrec (r - 1) (i + 1) f
      have h' : i < (cL l).length := by rw [cL_len]; exact h
      have hp := hO _ (pk_mem h)
      have e1 := joined_ok 2000 j (pk l i) hp
      have e2 := with_ok 2000 (by omega) j hj (pk l i) hp
      unfold jP prI at e1
      conv at e2 => lhs; unfold jP prI
      rw [brn_t (decide_eq_true (by omega)), toNatN, grd_t ⟨by omega, by omega⟩, grd_t (prsI_two' h'), prsI_two h', cL_pk h, getA2_t, e1, bnd_t, getB_t, chsF_step h, wrapN (by omega)]
      cases hq : jnd j (pk l i) with
      | true => rw [brn_t rfl, ih out b (by omega) (by omega)]; rfl
      | false =>
        rw [brn_f rfl, grd_t (by omega), grd_t (nL_len c), grd_t (by omega), e2, bnd_t, getA5_jP]
        have hr := hrec i h hq out b
        conv at hr => lhs; unfold jP
        rw [hr, bnd_t]
        cases hh : chs S (wth j (pk l i)) with
        | nil =>
          simp only [List.head?_nil, resF]
          rw [getB_t, brn_t rfl, ih out b (by omega) (by omega)]; rfl
        | cons a t =>
          simp only [List.head?_cons, resF]
          rw [getB_t, brn_f rfl]
          simp [lopF]
    · rw [brn_f (decide_eq_false (by omega)), chsF_end (by omega)]; rfl
end

def sets (K : List (List (Nat × Nat))) (ks : List Nat) : List (List (Nat × Nat)) := ks.map (kN K)
theorem sets_drop {K : List (List (Nat × Nat))} {ks : List Nat} {n : Nat} (h : n < ks.length) : sets K (ks.drop n) = kN K (nn ks n) :: sets K (ks.drop (n + 1)) := by
  unfold sets; rw [drop_nn h, List.map_cons]
theorem kN_ok {n : Nat} {K : List (List (Nat × Nat))} (h : Fit n K) {k : Nat} : Ok (kN K k) := fun p hp => by
  have := kN_lt h p hp; have := h.n5; omega
theorem sets_six {n : Nat} {K : List (List (Nat × Nat))} (h : Fit n K) (ks : List Nat) : ∀ l ∈ sets K ks, l.length ≤ 6 := fun l hl => by
  obtain ⟨k, _, rfl⟩ := List.mem_map.1 hl
  exact kN_len h
theorem f3_ok (n : Nat) (K : List (List (Nat × Nat))) (hK : Fit n K) (ks : List Nat) (hk : ∀ k ∈ ks, k < K.length) (hkl : ks.length ≤ 100) (sf : PV) : ∀ (fu : Nat) (c j : List Nat) (out : PV) (b : Bool), ks.length - c.length < fu → c.length ≤ ks.length → j.length = 5 →
    m99_2 2000 fu (.lst false c.length (nL c)) (.agg (jP j)) (ksP ks) out b sf (kiP K) = some (resF ks K c out b (chs (sets K (ks.drop c.length)) j).head?)
  | 0, _, _, _, _, h, _, _ => by omega
  | fu + 1, c, j, out, b, h, hc, hj => by
    unfold ksP kiP
    rw [m99_2, getL_t, getA5_jP, getL_t]
    by_cases e : c.length = ks.length
    · rw [brn_t (by simp; omega), List.drop_eq_nil_of_le (by omega)]
      simp [m78_2, getL, bnd', getB, sets, chs, resF, ksP, kiP]
    · have hlt : c.length < ks.length := by omega
      have hx := hk _ (nn_mem hlt)
      have hkl' := knsI_len (cK K)
      have hck := cK_len K
      have hnl := nL_len ks
      rw [brn_f (by simp; omega), getL_t, grd_t ⟨by omega, by omega⟩, grd_t (by simp only [List.length_drop]; omega), nL_gp hlt, getI_t, grd_t ⟨by omega, by omega⟩, toNatN, grd_t (by simp only [List.length_drop]; omega), knsI_gp (by rw [cK_len]; exact hx), cK_kI hx, cL_len, getL_t]
      have L := f3_L ks K sf c (by omega) j hj (kN K (nn ks c.length)) (kN_len hK) (kN_ok hK) (sets K (ks.drop (c.length + 1))) (m99_2 2000 fu) (fun i hi hji out b => by
        have := f3_ok n K hK ks hk hkl sf fu (c ++ [i]) (wth j (pk (kN K (nn ks c.length)) i)) out b (by simp; omega) (by simp; omega) (wth_len hj)
        rw [List.length_append, List.length_singleton, ← nL_snoc] at this
        exact this) _ 0 2000 out b rfl (by have := kN_len hK (k := nn ks c.length); omega)
      unfold ksP kiP at L
      rw [show ((0 : Nat) : Int) = 0 from rfl] at L
      rw [L, bnd_t, sets_drop hlt, chs_cons]
      cases (chsF (kN K (nn ks c.length)) (sets K (ks.drop (c.length + 1))) j 0).head? <;> rfl
theorem f9_L (ks : List Nat) (K : List (List (Nat × Nat))) (sf : PV) (j : List Nat) (hj : j.length = 5) (l : List (Nat × Nat)) (hl : l.length ≤ 6) (hO : Ok l) (S : List (List (Nat × Nat)))
    (hrec : ∀ i, i < l.length → jnd j (pk l i) = false → ∀ out b, m99_2 2000 2000 (.lst false 1 [.int .i64 (i : Int)]) (.agg (jP (wth j (pk l i)))) (ksP ks) out b sf (kiP K) = some (resF ks K [i] out b (chs S (wth j (pk l i))).head?)) :
    ∀ (r i fuel : Nat) (out : PV) (b : Bool), l.length - i = r → r < fuel →
    m99_L0 2000 sf (.int .i64 (ja j 0 : Int)) (.int .i64 (ja j 1 : Int)) (.int .i64 (ja j 2 : Int)) (.int .i64 (ja j 3 : Int)) (.int .i64 (ja j 4 : Int)) l.length (prsI (cL l)) fuel (i : Int) (ksP ks) out b (kiP K) = some (lopF ks K [] out b (chsF l S j i).head?)
  | r, i, 0, _, _, _, h => by omega
  | r, i, f + 1, out, b, hr, hf => by
    rw [m99_L0]
    by_cases h : i < l.length
    · have ih := f9_L ks K sf j hj l hl hO S hrec (r - 1) (i + 1) f
      have h' : i < (cL l).length := by rw [cL_len]; exact h
      have hp := hO _ (pk_mem h)
      have e1 := joined_ok 2000 j (pk l i) hp
      have e2 := with_ok 2000 (by omega) j hj (pk l i) hp
      unfold jP prI at e1
      conv at e2 => lhs; unfold jP prI
      rw [brn_t (decide_eq_true (by omega)), toNatN, grd_t ⟨by omega, by omega⟩, grd_t (prsI_two' h'), prsI_two h', cL_pk h, getA2_t, e1, bnd_t, getB_t, chsF_step h, wrapN (by omega)]
      cases hq : jnd j (pk l i) with
      | true => rw [brn_t rfl, ih out b (by omega) (by omega)]; rfl
      | false =>
        rw [brn_f rfl, e2, bnd_t, getA5_jP]
        have hr := hrec i h hq out b
        conv at hr => lhs; unfold jP
        rw [hr, bnd_t]
        cases hh : chs S (wth j (pk l i)) with
        | nil =>
          simp only [List.head?_nil, resF]
          rw [getB_t, brn_t rfl, ih out b (by omega) (by omega)]; rfl
        | cons a t =>
          simp only [List.head?_cons, resF]
          rw [getB_t, brn_f rfl]
          simp [lopF]
    · rw [brn_f (decide_eq_false (by omega)), chsF_end (by omega)]; rfl
theorem f9_ok (n : Nat) (K : List (List (Nat × Nat))) (hK : Fit n K) (ks : List Nat) (hk : ∀ k ∈ ks, k < K.length) (hkl : ks.length ≤ 100) (sf out : PV) (b : Bool) :
    m99 2000 (.agg (jP apt)) (ksP ks) out b sf (kiP K) = some (resF ks K [] out b (chs (sets K ks) apt).head?) := by
  unfold ksP kiP
  rw [m99, getA5_jP, getL_t]
  by_cases e : ks.length = 0
  · have : ks = [] := List.length_eq_zero_iff.1 e
    subst this
    rw [brn_t (by simp)]
    rfl
  · have hlt : 0 < ks.length := by omega
    have hx := hk _ (nn_mem hlt)
    have hkl' := knsI_len (cK K)
    have hck := cK_len K
    have hnl := nL_len ks
    rw [brn_f (by simp; omega), getL_t, grd_t (by omega), grd_t (by omega), nL_gp hlt, getI_t, grd_t ⟨by omega, by omega⟩, toNatN, grd_t (by simp only [List.length_drop]; omega), knsI_gp (by rw [cK_len]; exact hx), cK_kI hx, cL_len, getL_t]
    have L := f9_L ks K sf apt rfl (kN K (nn ks 0)) (kN_len hK) (kN_ok hK) (sets K (ks.drop 1)) (fun i hi hji out b =>
        f3_ok n K hK ks hk hkl sf 2000 [i] (wth apt (pk (kN K (nn ks 0)) i)) out b (by simp; omega) (by simp; omega) (wth_len rfl)) _ 0 2000 out b rfl (by have := kN_len hK (k := nn ks 0); omega)
    unfold ksP kiP at L
    rw [show ((0 : Nat) : Int) = 0 from rfl] at L
    have sd := sets_drop (K := K) hlt
    rw [List.drop_zero] at sd
    rw [L, bnd_t, sd, chs_cons]
    cases (chsF (kN K (nn ks 0)) (sets K (ks.drop 1)) apt 0).head? <;> rfl
/-- the first choice -/
def firstP : Option (List Nat) → PV × PV × Bool
  | none => (.tup [], .nl, true)
  | some l => (.tup [], rwN l, false)
theorem f76_ok (n : Nat) (K : List (List (Nat × Nat))) (hK : Fit n K) (ks : List Nat) (hk : ∀ k ∈ ks, k < K.length) (hkl : ks.length ≤ 100) :
    m76 2000 (crw n K) (.lst false ks.length (nL ks)) .nl true = some (firstP (chs (sets K ks) apt).head?) := by
  have e := f9_ok n K hK ks hk hkl (.int .i64 (n : Int)) .nl true
  unfold ksP kiP at e
  unfold crw
  rw [m76, getA2_t, getL_t, apart_ok, bnd_t, getA5_jP]
  conv at e => lhs; unfold jP
  rw [e, bnd_t]
  cases (chs (sets K ks) apt).head? with
  | none => rfl
  | some l => simp [resF, getB, firstP, rwN]
theorem memb_full : ∀ d, d ≤ 5 → memb (2 ^ d - 1) = List.range d := by decide
theorem full_U (d : Nat) (h : d ≤ 5) : IntKind.u64.wrap ((IntKind.u64.wrap (1 * 2 ^ (min d 64))) - 1) = ((2 ^ d - 1 : Nat) : Int) := by
  have : d = 0 ∨ d = 1 ∨ d = 2 ∨ d = 3 ∨ d = 4 ∨ d = 5 := by omega
  rcases this with rfl | rfl | rfl | rfl | rfl | rfl <;> rfl
theorem full_ok (d : Nat) (h : d ≤ 5) : m77 2000 (IntKind.u64.wrap ((IntKind.u64.wrap (1 * 2 ^ (min d 64))) - 1)) = some (.lst false (List.range d).length (nL (List.range d))) := by
  have : 2 ^ d ≤ 32 := Nat.pow_le_pow_right (n := 2) (by omega) h
  rw [full_U d h, mems_ok _ (by omega), memb_full d h]
def firstE (K : List (List (Nat × Nat))) : PV := match (chs K apt).head? with | none => .tup [.lst false 0 [], .int .i64 12] | some l => .tup [rwN l, .int .i64 0]
theorem sets_all (K : List (List (Nat × Nat))) : sets K (List.range K.length) = K := by
  apply List.ext_getElem (by simp [sets])
  intro i h1 h2
  simp [sets, kN, h2]
theorem First_ok (n : Nat) (K : List (List (Nat × Nat))) (hK : Fit n K) : m26 2000 (crw n K) = some (firstE K) := by
  have h5 := hK.many
  have c1 := check_ok 2000 (by omega) n (cK K) (by rw [cK_len]; omega) (fun l hl => by
    obtain ⟨l', h1, rfl⟩ := List.mem_map.1 hl
    have := hK.len _ h1
    rw [cL_len]; omega)
  rw [chk_fit hK, cK_len] at c1
  have e := f76_ok n K hK (List.range K.length) (by simp) (by simp; omega)
  rw [sets_all] at e
  unfold crw at *
  rw [m26, getA2_t, c1, bnd_t, getI_t, brn_f (b := ((0 : Int) != 0)) rfl, getL_t, grd_t (by omega), full_ok _ h5, bnd_t, getL_t, e, bnd_t]
  unfold firstE
  cases (chs K apt).head? <;> rfl

section
variable (ks : List Nat) (K : List (List (Nat × Nat))) (sf : PV) (c : List Nat) (hc : c.length ≤ 100) (j : List Nat) (hj : j.length = 5) (l : List (Nat × Nat)) (hl : l.length ≤ 6) (hO : Ok l) (S : List (List (Nat × Nat)))
include hc hj hl hO
theorem n5_L (rec : PV → PV → PV → Int → PV → PV → Option ((PV × PV × Int × PV)))
    (hrec : ∀ i, i < l.length → jnd j (pk l i) = false → ∀ a : Nat, a + (chs S (wth j (pk l i))).length ≤ 90000 → rec (.lst false (c.length + 1) (nL c ++ [.int .i64 (i : Int)])) (.agg (jP (wth j (pk l i)))) (ksP ks) (a : Int) sf (kiP K) = some (.bool true, ksP ks, ((a + (chs S (wth j (pk l i))).length : Nat) : Int), kiP K)) :
    ∀ (r i fuel a : Nat), l.length - i = r → r < fuel → a + (chsF l S j i).length ≤ 90000 →
    m99_4_L0 2000 rec sf c.length (nL c) (.int .i64 (ja j 0 : Int)) (.int .i64 (ja j 1 : Int)) (.int .i64 (ja j 2 : Int)) (.int .i64 (ja j 3 : Int)) (.int .i64 (ja j 4 : Int)) l.length (prsI (cL l)) fuel (i : Int) (ksP ks) (a : Int) (kiP K) = some (.inr (ksP ks, ((a + (chsF l S j i).length : Nat) : Int), kiP K))
  | r, i, 0, _, _, h, _ => by omega
  | r, i, f + 1, a, hr, hf, ha => by
    rw [m99_4_L0]
    by_cases h : i < l.length
    · have ih := n5_L rec hrec (r - 1) (i + 1) f
      have h' : i < (cL l).length := by rw [cL_len]; exact h
      have hp := hO _ (pk_mem h)
      have e1 := joined_ok 2000 j (pk l i) hp
      have e2 := with_ok 2000 (by omega) j hj (pk l i) hp
      unfold jP prI at e1
      conv at e2 => lhs; unfold jP prI
      rw [chsF_step h] at ha ⊢
      rw [brn_t (decide_eq_true (by omega)), toNatN, grd_t ⟨by omega, by omega⟩, grd_t (prsI_two' h'), prsI_two h', cL_pk h, getA2_t, e1, bnd_t, getB_t, wrapN (by omega)]
      cases hq : jnd j (pk l i) with
      | true =>
        rw [hq, if_pos rfl, List.nil_append] at ha
        rw [brn_t rfl, ih a (by omega) (by omega) ha]; rfl
      | false =>
        rw [hq, if_neg (by simp), List.length_append, List.length_map] at ha
        rw [if_neg (by simp), List.length_append, List.length_map]
        rw [brn_f rfl, grd_t (by omega), grd_t (nL_len c), grd_t (by omega), e2, bnd_t, getA5_jP]
        have hr := hrec i h hq a (by omega)
        conv at hr => lhs; unfold jP
        rw [hr, bnd_t]
        simp only []
        rw [getB_t, brn_t rfl, ih _ (by omega) (by omega) (by omega), Nat.add_assoc]
    · rw [brn_f (decide_eq_false (by omega)), chsF_end (by omega)]; rfl
end
theorem n5_ok (n : Nat) (K : List (List (Nat × Nat))) (hK : Fit n K) (ks : List Nat) (hk : ∀ k ∈ ks, k < K.length) (hkl : ks.length ≤ 100) (sf : PV) : ∀ (fu : Nat) (c j : List Nat) (a : Nat), ks.length - c.length < fu → c.length ≤ ks.length → j.length = 5 → a + (chs (sets K (ks.drop c.length)) j).length ≤ 90000 →
    m99_4 2000 fu (.lst false c.length (nL c)) (.agg (jP j)) (ksP ks) (a : Int) sf (kiP K) = some (.bool true, ksP ks, ((a + (chs (sets K (ks.drop c.length)) j).length : Nat) : Int), kiP K)
  | 0, _, _, _, h, _, _, _ => by omega
  | fu + 1, c, j, a, h, hc, hj, ha => by
    unfold ksP kiP
    rw [m99_4, getL_t, getA5_jP, getL_t]
    by_cases e : c.length = ks.length
    · rw [List.drop_eq_nil_of_le (by omega)] at ha
      have ha' : a + 1 ≤ 90000 := ha
      rw [brn_t (by simp; omega), m81_2, getL_t, wrapN (by omega), List.drop_eq_nil_of_le (by omega)]
      rfl
    · have hlt : c.length < ks.length := by omega
      have hx := hk _ (nn_mem hlt)
      have hkl' := knsI_len (cK K)
      have hck := cK_len K
      have hnl := nL_len ks
      rw [sets_drop hlt, chs_cons] at ha ⊢
      rw [brn_f (by simp; omega), getL_t, grd_t ⟨by omega, by omega⟩, grd_t (by simp only [List.length_drop]; omega), nL_gp hlt, getI_t, grd_t ⟨by omega, by omega⟩, toNatN, grd_t (by simp only [List.length_drop]; omega), knsI_gp (by rw [cK_len]; exact hx), cK_kI hx, cL_len, getL_t]
      have L := n5_L ks K sf c (by omega) j hj (kN K (nn ks c.length)) (kN_len hK) (kN_ok hK) (sets K (ks.drop (c.length + 1))) (m99_4 2000 fu) (fun i hi hji a ha => by
        have hcl : (c ++ [i]).length = c.length + 1 := by simp
        have := n5_ok n K hK ks hk hkl sf fu (c ++ [i]) (wth j (pk (kN K (nn ks c.length)) i)) a (by simp; omega) (by simp; omega) (wth_len hj) (by rw [hcl]; exact ha)
        rw [hcl, ← nL_snoc] at this
        exact this) _ 0 2000 a rfl (by have := kN_len hK (k := nn ks c.length); omega) ha
      unfold ksP kiP at L
      rw [show ((0 : Nat) : Int) = 0 from rfl] at L
      rw [L, bnd_t]
theorem n4_L (ks : List Nat) (K : List (List (Nat × Nat))) (sf : PV) (j : List Nat) (hj : j.length = 5) (l : List (Nat × Nat)) (hl : l.length ≤ 6) (hO : Ok l) (S : List (List (Nat × Nat)))
    (hrec : ∀ i, i < l.length → jnd j (pk l i) = false → ∀ a : Nat, a + (chs S (wth j (pk l i))).length ≤ 90000 → m99_4 2000 2000 (.lst false 1 [.int .i64 (i : Int)]) (.agg (jP (wth j (pk l i)))) (ksP ks) (a : Int) sf (kiP K) = some (.bool true, ksP ks, ((a + (chs S (wth j (pk l i))).length : Nat) : Int), kiP K)) :
    ∀ (r i fuel a : Nat), l.length - i = r → r < fuel → a + (chsF l S j i).length ≤ 90000 →
    m99_3_L0 2000 sf (.int .i64 (ja j 0 : Int)) (.int .i64 (ja j 1 : Int)) (.int .i64 (ja j 2 : Int)) (.int .i64 (ja j 3 : Int)) (.int .i64 (ja j 4 : Int)) l.length (prsI (cL l)) fuel (i : Int) (ksP ks) (a : Int) (kiP K) = some (.inr (ksP ks, ((a + (chsF l S j i).length : Nat) : Int), kiP K))
  | r, i, 0, _, _, h, _ => by omega
  | r, i, f + 1, a, hr, hf, ha => by
    rw [m99_3_L0]
    by_cases h : i < l.length
    · have ih := n4_L ks K sf j hj l hl hO S hrec (r - 1) (i + 1) f
      have h' : i < (cL l).length := by rw [cL_len]; exact h
      have hp := hO _ (pk_mem h)
      have e1 := joined_ok 2000 j (pk l i) hp
      have e2 := with_ok 2000 (by omega) j hj (pk l i) hp
      unfold jP prI at e1
      conv at e2 => lhs; unfold jP prI
      rw [chsF_step h] at ha ⊢
      rw [brn_t (decide_eq_true (by omega)), toNatN, grd_t ⟨by omega, by omega⟩, grd_t (prsI_two' h'), prsI_two h', cL_pk h, getA2_t, e1, bnd_t, getB_t, wrapN (by omega)]
      cases hq : jnd j (pk l i) with
      | true =>
        rw [hq, if_pos rfl, List.nil_append] at ha
        rw [brn_t rfl, ih a (by omega) (by omega) ha]; rfl
      | false =>
        rw [hq, if_neg (by simp), List.length_append, List.length_map] at ha
        rw [if_neg (by simp), List.length_append, List.length_map]
        rw [brn_f rfl, e2, bnd_t, getA5_jP]
        have hr := hrec i h hq a (by omega)
        conv at hr => lhs; unfold jP
        rw [hr, bnd_t]
        simp only []
        rw [getB_t, brn_t rfl, ih _ (by omega) (by omega) (by omega), Nat.add_assoc]
    · rw [brn_f (decide_eq_false (by omega)), chsF_end (by omega)]; rfl
theorem n4_ok (n : Nat) (K : List (List (Nat × Nat))) (hK : Fit n K) (ks : List Nat) (hk : ∀ k ∈ ks, k < K.length) (hkl : ks.length ≤ 100) (sf : PV) (ha : (chs (sets K ks) apt).length ≤ 90000) :
    m99_3 2000 (.agg (jP apt)) (ksP ks) 0 sf (kiP K) = some (.bool true, ksP ks, ((chs (sets K ks) apt).length : Int), kiP K) := by
  unfold ksP kiP
  rw [m99_3, getA5_jP, getL_t]
  by_cases e : ks.length = 0
  · have : ks = [] := List.length_eq_zero_iff.1 e
    subst this
    rw [brn_t (by simp)]
    rfl
  · have hlt : 0 < ks.length := by omega
    have hx := hk _ (nn_mem hlt)
    have hkl' := knsI_len (cK K)
    have hck := cK_len K
    have hnl := nL_len ks
    have sd : sets K ks = kN K (nn ks 0) :: sets K (ks.drop 1) := sets_drop (K := K) hlt
    rw [sd, chs_cons] at ha ⊢
    rw [brn_f (by simp; omega), getL_t, grd_t (by omega), grd_t (by omega), nL_gp hlt, getI_t, grd_t ⟨by omega, by omega⟩, toNatN, grd_t (by simp only [List.length_drop]; omega), knsI_gp (by rw [cK_len]; exact hx), cK_kI hx, cL_len, getL_t]
    have L := n4_L ks K sf apt rfl (kN K (nn ks 0)) (kN_len hK) (kN_ok hK) (sets K (ks.drop 1)) (fun i hi hji a ha =>
        n5_ok n K hK ks hk hkl sf 2000 [i] (wth apt (pk (kN K (nn ks 0)) i)) a (by simp; omega) (by simp; omega) (wth_len rfl) ha) _ 0 2000 0 rfl (by have := kN_len hK (k := nn ks 0); omega) (by omega)
    unfold ksP kiP at L
    rw [show ((0 : Nat) : Int) = 0 from rfl] at L
    rw [L, bnd_t, Nat.zero_add]
theorem chs_small {n : Nat} {K : List (List (Nat × Nat))} (hK : Fit n K) {ks : List Nat} (h : ks.length ≤ 5) (j : List Nat) : (chs (sets K ks) j).length ≤ 7776 := by
  have := chs_len (sets K ks) j (sets_six hK ks)
  have e : (sets K ks).length = ks.length := by simp [sets]
  rw [e] at this
  exact Nat.le_trans this (Nat.pow_le_pow_right (n := 6) (by omega) h)
theorem n76_ok (n : Nat) (K : List (List (Nat × Nat))) (hK : Fit n K) (ks : List Nat) (hk : ∀ k ∈ ks, k < K.length) (hkl : ks.length ≤ 5) :
    m76_2 2000 (crw n K) (.lst false ks.length (nL ks)) 0 = some (.tup [], ((chs (sets K ks) apt).length : Int)) := by
  have e := n4_ok n K hK ks hk (by omega) (.int .i64 (n : Int)) (Nat.le_trans (chs_small hK hkl apt) (by omega))
  unfold ksP kiP at e
  unfold crw
  rw [m76_2, getA2_t, getL_t, apart_ok, bnd_t, getA5_jP]
  conv at e => lhs; unfold jP
  rw [e, bnd_t]
  rfl
theorem Count_ok (n : Nat) (K : List (List (Nat × Nat))) (hK : Fit n K) : m28 2000 (crw n K) = some (.tup [.int .i64 ((chs K apt).length : Int), .int .i64 0]) := by
  have h5 := hK.many
  have c1 := check_ok 2000 (by omega) n (cK K) (by rw [cK_len]; omega) (fun l hl => by
    obtain ⟨l', h1, rfl⟩ := List.mem_map.1 hl
    have := hK.len _ h1
    rw [cL_len]; omega)
  rw [chk_fit hK, cK_len] at c1
  have e := n76_ok n K hK (List.range K.length) (by simp) (by simp; omega)
  rw [sets_all] at e
  unfold crw at *
  rw [m28, getA2_t, c1, bnd_t, getI_t, brn_f (b := ((0 : Int) != 0)) rfl, getL_t, grd_t (by omega), full_ok _ h5, bnd_t, getL_t, e, bnd_t]
  rfl

theorem prs_snoc (P : List (Nat × Nat)) (p : Nat × Nat) : prsI (cL P) ++ [PV.int .i64 (p.1 : Int), .int .i64 (p.2 : Int)] = prsI (cL (P ++ [p])) := by simp [prsI, cL, prI, cI]
theorem rk_snoc (P : List (Nat × Nat)) (p : Nat × Nat) : rk (P ++ [p]) = rk P + (if jnd (runJ apt P) p then 0 else 1) := by
  rw [rk_app]; simp only [cntJ]
theorem run_snoc (P : List (Nat × Nat)) (p : Nat × Nat) : runJ apt (P ++ [p]) = if jnd (runJ apt P) p then runJ apt P else wth (runJ apt P) p := by
  rw [runJ_app]; simp only [runJ]
section
variable (n : Nat) (n1 : 1 ≤ n) (n5 : n ≤ 5) (ks : List Nat) (K : List (List (Nat × Nat))) (c : List Nat) (hc : c.length ≤ 100) (P : List (Nat × Nat)) (hP : ∀ p ∈ P, p.1 < n ∧ p.2 < n) (hPl : P.length ≤ 100) (hPr : rk P = P.length) (l : List (Nat × Nat)) (hl : l.length ≤ 6) (hO : ∀ p ∈ l, p.1 < n ∧ p.2 < n) (S : List (List (Nat × Nat)))
include n1 n5 hc hP hPl hPr hl hO
theorem r79_L (rec : PV → PV → PV → PV → Option (PV))
    (hrec : ∀ i, i < l.length → jnd (runJ apt P) (pk l i) = false → rec (.agg [.int .i64 (n : Int), .lst false K.length (knsI (cK K))]) (.lst false ks.length (nL ks)) (.lst false (c.length + 1) (nL c ++ [.int .i64 (i : Int)])) (.lst false (P.length + 1) (prsI (cL P) ++ [.int .i64 ((pk l i).1 : Int), .int .i64 ((pk l i).2 : Int)])) =
      some (.lst false ((chs S (wth (runJ apt P) (pk l i))).map fun t => rwN (c ++ [i] ++ t)).length ((chs S (wth (runJ apt P) (pk l i))).map fun t => rwN (c ++ [i] ++ t)))) :
    ∀ (r i fuel : Nat) (acc : List PV), l.length - i = r → r < fuel → acc.length + (chsF l S (runJ apt P) i).length ≤ 90000 →
    m79_L0 2000 rec ks.length (nL ks) c.length (nL c) P.length (prsI (cL P)) K.length (knsI (cK K)) l.length (prsI (cL l)) fuel acc.length (i : Int) (.int .i64 (n : Int)) acc = some ((acc ++ (chsF l S (runJ apt P) i).map fun t => rwN (c ++ t)).length, acc ++ (chsF l S (runJ apt P) i).map fun t => rwN (c ++ t))
  | r, i, 0, _, _, h, _ => by omega
  | r, i, f + 1, acc, hr, hf, ha => by
    rw [m79_L0]
    by_cases h : i < l.length
    · have ih := r79_L rec hrec (r - 1) (i + 1) f
      have h' : i < (cL l).length := by rw [cL_len]; exact h
      have hp := hO _ (pk_mem h)
      have e1 := ringless_ok 2000 (by omega) n n1 n5 (P ++ [pk l i]) (fun p hp' => by
        rcases List.mem_append.1 hp' with q | q
        · exact hP p q
        · rw [List.mem_singleton.1 q]; exact hp) (by simp; omega)
      have e0 : List.take 2 (List.drop (i * 2) (prsI (cL l))) = [PV.int .i64 ((pk l i).1 : Int), .int .i64 ((pk l i).2 : Int)] := by rw [prsI_two h', cL_pk h]; rfl
      have e2 : (prsI (cL P) ++ [PV.int .i64 ((pk l i).1 : Int), .int .i64 ((pk l i).2 : Int)]).length = (P.length + 1) * 2 := by
        rw [prs_snoc, prsI_len, cL_len]; simp
      rw [← prs_snoc, rk_snoc, hPr, List.length_append, List.length_singleton] at e1
      rw [chsF_step h] at ha ⊢
      have hnl := nL_len c
      have key : ∀ b, jnd (runJ apt P) (pk l i) = b → (match b with
          | true => m79_L0 2000 rec ks.length (nL ks) c.length (nL c) P.length (prsI (cL P)) K.length (knsI (cK K)) l.length (prsI (cL l)) f acc.length ((i + 1 : Nat) : Int) (.int .i64 (n : Int)) acc
          | false => m79_L0 2000 rec ks.length (nL ks) c.length (nL c) P.length (prsI (cL P)) K.length (knsI (cK K)) l.length (prsI (cL l)) f (acc.length + ((chs S (wth (runJ apt P) (pk l i))).map fun t => rwN (c ++ [i] ++ t)).length) ((i + 1 : Nat) : Int) (.int .i64 (n : Int)) (acc ++ (chs S (wth (runJ apt P) (pk l i))).map fun t => rwN (c ++ [i] ++ t))) =
          some ((acc ++ ((if jnd (runJ apt P) (pk l i) = true then [] else (chs S (wth (runJ apt P) (pk l i))).map (i :: ·)) ++ chsF l S (runJ apt P) (i + 1)).map fun t => rwN (c ++ t)).length, acc ++ ((if jnd (runJ apt P) (pk l i) = true then [] else (chs S (wth (runJ apt P) (pk l i))).map (i :: ·)) ++ chsF l S (runJ apt P) (i + 1)).map fun t => rwN (c ++ t)) := by
        intro b hb
        cases b with
        | true =>
          rw [hb, if_pos rfl, List.nil_append] at ha
          rw [hb, if_pos rfl, List.nil_append]
          exact ih acc (by omega) (by omega) ha
        | false =>
          rw [hb, if_neg (by simp), List.length_append, List.length_map] at ha
          have := ih (acc ++ (chs S (wth (runJ apt P) (pk l i))).map fun t => rwN (c ++ [i] ++ t)) (by omega) (by omega) (by rw [List.length_append, List.length_map]; omega)
          rw [List.length_append] at this
          rw [hb, if_neg (by simp)]
          simp only []
          rw [this]
          simp
      have kk := key _ rfl
      clear key
      rw [brn_t (decide_eq_true (by omega)), grd_t (by rw [prsI_len, cL_len])]
      by_cases a1 : 0 < P.length <;> (first | rw [brn_t (decide_eq_true a1)] | rw [brn_f (decide_eq_false a1)]) <;> (
        rw [grd_t (by omega), grd_t ⟨by omega, by omega⟩, toNatN, grd_t (prsI_two' h'), e0, getA2_t, grd_t (by omega), grd_t e2, getI_t, e1, bnd_t, getB_t, wrapN (by omega)]
        cases hq : jnd (runJ apt P) (pk l i) with
        | true =>
          rw [hq] at kk
          rw [brn_f (by simp)]
          exact kk
        | false =>
          rw [hq] at kk
          rw [hq, if_neg (by simp), List.length_append, List.length_map] at ha
          rw [brn_t (by simp), grd_t hnl]
          by_cases a2 : 0 < c.length <;> (first | rw [brn_t (decide_eq_true a2)] | rw [brn_f (decide_eq_false a2)]) <;> (
            rw [grd_t (by omega), grd_t (by omega), hrec i h hq, bnd_t, getL_t, grd_t rfl, grd_t (by rw [List.length_map]; omega), grd_t rfl]
            exact kk))
    · rw [brn_f (decide_eq_false (by omega)), chsF_end (by omega)]; simp
end
theorem r79_ok (n : Nat) (K : List (List (Nat × Nat))) (hK : Fit n K) (ks : List Nat) (hk : ∀ k ∈ ks, k < K.length) (hkl : ks.length ≤ 5) : ∀ (fu : Nat) (c : List Nat) (P : List (Nat × Nat)), ks.length - c.length < fu → c.length ≤ ks.length → (∀ p ∈ P, p.1 < n ∧ p.2 < n) → P.length = c.length → rk P = P.length →
    m79 2000 fu (crw n K) (.lst false ks.length (nL ks)) (.lst false c.length (nL c)) (.lst false P.length (prsI (cL P))) = some (.lst false ((chs (sets K (ks.drop c.length)) (runJ apt P)).map fun t => rwN (c ++ t)).length ((chs (sets K (ks.drop c.length)) (runJ apt P)).map fun t => rwN (c ++ t)))
  | 0, _, _, h, _, _, _, _ => by omega
  | fu + 1, c, P, h, hc, hP, hPl, hPr => by
    unfold crw
    rw [m79, getA2_t, getL_t, getL_t, getL_t]
    by_cases e : c.length = ks.length
    · rw [brn_t (by simp; omega), List.drop_eq_nil_of_le (by omega)]
      simp [sets, chs, rwN]
    · have hlt : c.length < ks.length := by omega
      have hx := hk _ (nn_mem hlt)
      have hkl' := knsI_len (cK K)
      have hck := cK_len K
      have hnl := nL_len ks
      have sm := chs_small hK (ks := ks.drop c.length) (by rw [List.length_drop]; omega) (runJ apt P)
      rw [sets_drop hlt, chs_cons] at sm ⊢
      rw [brn_f (by simp; omega), getL_t, grd_t ⟨by omega, by omega⟩, grd_t (by simp only [List.length_drop]; omega), nL_gp hlt, getI_t, grd_t ⟨by omega, by omega⟩, toNatN, grd_t (by simp only [List.length_drop]; omega), knsI_gp (by rw [cK_len]; exact hx), cK_kI hx, cL_len, getL_t]
      have L := r79_L n hK.n1 hK.n5 ks K c (by omega) P hP (by omega) hPr (kN K (nn ks c.length)) (kN_len hK) (kN_lt hK) (sets K (ks.drop (c.length + 1))) (m79 2000 fu) (fun i hi hji => by
        have := r79_ok n K hK ks hk hkl fu (c ++ [i]) (P ++ [pk (kN K (nn ks c.length)) i]) (by simp; omega) (by simp; omega) (fun p hp => by
          rcases List.mem_append.1 hp with q | q
          · exact hP p q
          · rw [List.mem_singleton.1 q]; exact kN_lt hK _ (pk_mem hi)) (by simp; omega) (by rw [rk_snoc, hji, hPr]; simp)
        rw [run_snoc, hji, if_neg (by simp)] at this
        rw [List.length_append, List.length_singleton, List.length_append, List.length_singleton, ← nL_snoc, ← prs_snoc] at this
        exact this) _ 0 2000 [] rfl (by have := kN_len hK (k := nn ks c.length); omega) (by rw [List.length_nil]; omega)
      rw [show ((0 : Nat) : Int) = 0 from rfl, List.length_nil, List.nil_append] at L
      rw [L, bnd_t]
      simp only []
      rw [grd_t trivial]
theorem rFirst_ok (n : Nat) (K : List (List (Nat × Nat))) (hK : Fit n K) : m27 2000 (crw n K) = some (firstE K) := by
  have h5 := hK.many
  have c1 := rcheck_ok 2000 (by omega) n (cK K) (by rw [cK_len]; omega) (fun l hl => by
    obtain ⟨l', h1, rfl⟩ := List.mem_map.1 hl
    have := hK.len _ h1
    rw [cL_len]; omega)
  rw [chk_fit hK, cK_len] at c1
  have e := r79_ok n K hK (List.range K.length) (by simp) (by simp; omega) 2000 [] [] (by simp; omega) (by simp) (by simp) rfl rfl
  rw [List.length_nil, List.length_nil, List.drop_zero, sets_all, show runJ apt [] = apt from rfl] at e
  have sm := chs_small hK (ks := List.range K.length) (by simp; omega) apt
  rw [sets_all] at sm
  unfold crw at *
  rw [m27, getA2_t, c1, bnd_t, getI_t, brn_f (b := ((0 : Int) != 0)) rfl, every_ok 2000 (by omega) _ _ _ (by omega), bnd_t, getL_t, show m79 2000 2000 _ _ (.lst false 0 []) (.lst false 0 []) = _ from e, bnd_t, getL_t]
  unfold firstE
  show brn (((((chs K apt).map fun t => rwN ([] ++ t)).length : Nat) : Int) == 0) _ _ = _
  cases hh : chs K apt with
  | nil => rfl
  | cons a t =>
    rw [brn_f (by simp; omega), grd_t (by simp), grd_t (by simp)]
    rfl
theorem rCount_ok (n : Nat) (K : List (List (Nat × Nat))) (hK : Fit n K) : m29 2000 (crw n K) = some (.tup [.int .i64 ((chs K apt).length : Int), .int .i64 0]) := by
  have h5 := hK.many
  have c1 := rcheck_ok 2000 (by omega) n (cK K) (by rw [cK_len]; omega) (fun l hl => by
    obtain ⟨l', h1, rfl⟩ := List.mem_map.1 hl
    have := hK.len _ h1
    rw [cL_len]; omega)
  rw [chk_fit hK, cK_len] at c1
  have e := r79_ok n K hK (List.range K.length) (by simp) (by simp; omega) 2000 [] [] (by simp; omega) (by simp) (by simp) rfl rfl
  rw [List.length_nil, List.length_nil, List.drop_zero, sets_all, show runJ apt [] = apt from rfl] at e
  unfold crw at *
  rw [m29, getA2_t, c1, bnd_t, getI_t, brn_f (b := ((0 : Int) != 0)) rfl, every_ok 2000 (by omega) _ _ _ (by omega), bnd_t, getL_t, show m79 2000 2000 _ _ (.lst false 0 []) (.lst false 0 []) = _ from e, bnd_t, getL_t, List.length_map]
end Go.Proofs.YtnponojgpkbagaaDoor

namespace Go.Proofs.YtnponojgpkbagaaDoor
open Go.V Go.Crew
set_option linter.unusedSectionVars false
set_option linter.unnecessarySimpa false
theorem fits_mem_len {K : List (List (Nat × Nat))} {j : List Nat} {c : List Nat} (h : c ∈ chs K j) : c.length = K.length := (fits_len (mem_chs.1 h).1).1
theorem First_both (n : Int) (K : List (List (Int × Int))) (hK : K.length ≤ 1000) (hl : ∀ l ∈ K, l.length ≤ 1000) :
    ∃ (l : List Nat) (e : Int), m26 2000 (.agg [.int .i64 n, .lst false K.length (knsI K)]) = some (.tup [rwN l, .int .i64 e]) ∧ m27 2000 (.agg [.int .i64 n, .lst false K.length (knsI K)]) = some (.tup [rwN l, .int .i64 e]) ∧ l.length ≤ 1000 := by
  have c1 := check_ok 2000 (by omega) n K hK hl
  have c2 := rcheck_ok 2000 (by omega) n K hK hl
  by_cases h : chk n K = 0
  · obtain ⟨m, K', rfl, rfl, hF⟩ := chk_zero h
    have a := First_ok m K' hF
    have b := rFirst_ok m K' hF
    unfold crw at a b
    rw [cK_len, a, b]
    unfold firstE
    cases hh : chs K' apt with
    | nil => exact ⟨[], 12, rfl, rfl, by simp⟩
    | cons l t => exact ⟨l, 0, rfl, rfl, by have := fits_mem_len (K := K') (j := apt) (c := l) (by rw [hh]; exact .head _); have := hF.many; omega⟩
  · refine ⟨[], chk n K, ?_, ?_, by simp⟩
    · rw [m26, getA2_t, c1, bnd_t, getI_t, brn_t (by simpa using h)]; rfl
    · rw [m27, getA2_t, c2, bnd_t, getI_t, brn_t (by simpa using h)]; rfl
theorem Count_both (n : Int) (K : List (List (Int × Int))) (hK : K.length ≤ 1000) (hl : ∀ l ∈ K, l.length ≤ 1000) :
    ∃ a e : Int, m28 2000 (.agg [.int .i64 n, .lst false K.length (knsI K)]) = some (.tup [.int .i64 a, .int .i64 e]) ∧ m29 2000 (.agg [.int .i64 n, .lst false K.length (knsI K)]) = some (.tup [.int .i64 a, .int .i64 e]) := by
  have c1 := check_ok 2000 (by omega) n K hK hl
  have c2 := rcheck_ok 2000 (by omega) n K hK hl
  by_cases h : chk n K = 0
  · obtain ⟨m, K', rfl, rfl, hF⟩ := chk_zero h
    have a := Count_ok m K' hF
    have b := rCount_ok m K' hF
    unfold crw at a b
    rw [cK_len, a, b]
    exact ⟨_, _, rfl, rfl⟩
  · refine ⟨0, chk n K, ?_, ?_⟩
    · rw [m28, getA2_t, c1, bnd_t, getI_t, brn_t (by simpa using h)]
    · rw [m29, getA2_t, c2, bnd_t, getI_t, brn_t (by simpa using h)]
theorem law4 (n : Int) (K : List (List (Int × Int))) : m4 2000 (.agg [.int .i64 n, .lst false K.length (knsI K)]) = some (.bool true) := by
  have w : m16 2000 = some (.bool true) := rfl
  rw [m4, getA2_t, large_ok 2000 (by omega), bnd_t, getB_t]
  cases hb : bigK K with
  | true => rw [brn_t rfl, w, bnd_t, getB_t]
  | false =>
    obtain ⟨b1, b2⟩ := big_f hb
    have hK : K.length ≤ 1000 := by omega
    have hl : ∀ l ∈ K, l.length ≤ 1000 := fun l h => by have := b2 l h; omega
    obtain ⟨l, g, q1, q2, q3⟩ := First_both n K hK hl
    obtain ⟨a, e, r1, r2⟩ := Count_both n K hK hl
    unfold rwN at q1 q2
    rw [brn_f rfl, getI_t, q1, bnd_t, getT2_t, getL_t, getI_t, q2, bnd_t, getT2_t, getL_t, getI_t, r1, bnd_t, getT2_t, getI_t, getI_t, r2, bnd_t, getT2_t, getI_t, getI_t, same_ok l q3, bnd_t, getB_t, brn_t rfl, brn_t (by simp), brn_t (by simp), brn_t (by simp), w, bnd_t, getB_t]
end Go.Proofs.YtnponojgpkbagaaDoor

namespace Go.Proofs.YtnponojgpkbagaaDoor
open Go.V Go.Crew
set_option linter.unusedSectionVars false
set_option linter.unnecessarySimpa false

theorem int_of {x : List PV} (h : PT tab 3 x) : ∃ n : Int, x = [.int .i64 n] := by
  obtain ⟨a, e, _⟩ := h.int' tl3 rfl
  exact ⟨a, e⟩
theorem pair_of {x : List PV} (h : PT tab 71 x) : ∃ p : Int × Int, x = prI p := by
  obtain ⟨xs, rfl, hl, hxs⟩ := h.arr' tl71 rfl
  match xs, hl with
  | [a, b], _ =>
    obtain ⟨u, rfl⟩ := int_of (hxs a (by simp))
    obtain ⟨v, rfl⟩ := int_of (hxs b (by simp))
    exact ⟨(u, v), rfl⟩
theorem kind_of {x : List PV} (h : PT tab 70 x) : ∃ (y : PV) (l : List (Int × Int)), x = [y] ∧ PLe y (knI l) := by
  rcases h.slice' tl70 rfl with h | ⟨xs, h, hx⟩
  · exact ⟨.nl, [], h, .nl false⟩
  · obtain ⟨L, h1, h2, _⟩ := opened prI (fun x => PT tab 71 x) (fun _ => True) (fun x hx => by obtain ⟨p, e⟩ := pair_of hx; exact ⟨p, e, trivial⟩) xs hx
    refine ⟨_, L, h, ?_⟩
    rw [h2, ← h1]
    exact .refl _
theorem kinds_of' : ∀ (xs : List (List PV)), (∀ x ∈ xs, PT tab 70 x) → ∃ K : List (List (Int × Int)), K.length = xs.length ∧ PLes xs.flatten (knsI K)
  | [], _ => ⟨[], rfl, .nil⟩
  | x :: xs, h => by
    obtain ⟨K, h1, h2⟩ := kinds_of' xs fun y hy => h y (.tail _ hy)
    obtain ⟨y, l, rfl, hr⟩ := kind_of (h x (.head _))
    exact ⟨l :: K, by simp [h1], .cons _ _ _ _ hr h2⟩
theorem crew_of {qs : List PV} (h : PT tab 24 qs) : ∃ (n : Int) (K : List (List (Int × Int))), PLes qs [.int .i64 n, .lst false K.length (knsI K)] := by
  obtain ⟨a, rs, rfl, ha, h⟩ := (h.structs tl24 rfl).cons'
  obtain ⟨b, rs, rfl, hb, h⟩ := h.cons'
  obtain rfl := h.nil'
  obtain ⟨n, rfl⟩ := int_of ha
  rcases hb.slice' tl22 rfl with h | ⟨xs, h, hx⟩
  · subst h; exact ⟨n, [], .cons _ _ _ _ (.refl _) (.cons _ _ _ _ (.nl false) .nil)⟩
  · subst h
    obtain ⟨K, h1, h2⟩ := kinds_of' xs hx
    refine ⟨n, K, .cons _ _ _ _ (.refl _) (.cons _ _ _ _ ?_ .nil)⟩
    rw [h1]
    exact .lst false false _ _ _ (fun h => h) h2
end Go.Proofs.YtnponojgpkbagaaDoor

namespace Go.Proofs.YtnponojgpkbagaaDoor
open Go.V Go.Crew
set_option linter.unusedSectionVars false
set_option linter.unnecessarySimpa false
theorem con4 (x0 : List PV) (h0 : PT tab 24 x0) : FnP Tryd.prog 4 [.agg x0] (.bool true) := by
  obtain ⟨n, K, hK⟩ := crew_of h0
  exact FnP_le (c4 2000 _ _ (law4 n K)) (.cons _ _ _ _ (.agg _ _ hK) .nil) (.refl _)
end Go.Proofs.YtnponojgpkbagaaDoor

namespace Go.Proofs.YtnponojgpkbagaaDoor.crewFinds
open Go.ChangeShapes Go.WideShapes Go.ChangeAt Go.RowKit Go.V

theorem own : ownKnob Tryd.prog.godebug = none := by kernel_rfl
theorem laid : laidOutB Tryd.prog = true := by kernel_rfl
set_option maxRecDepth 100000 in
theorem lifted (os : Os) (started : os.Started) (H : Type) (enc : TypeId × Value → H) :
    ReturnsInHanded {} Tryd.checked os 4 .any (fun w args => (Rows.crewFindsSpec.pre enc Tryd.prog Tryd.f4 [] false w args ∧ laidMetH Tryd.prog [("math/bits.deBruijn32tab", Rows.laid_math_bits_deBruijn32tab), ("math/bits.deBruijn64tab", Rows.laid_math_bits_deBruijn64tab)] w) ∧ sizedMet enc Tryd.prog Tryd.f4 (OpenSpec.ofChange Rows.crewFindsSpec) false w args)
      (Rows.crewFindsSpec.post enc Tryd.prog Tryd.f4 false true false false) := by
  refine returnsInHanded_of_change_and (C := Tryd.checked) (X := fun w _ => laidMetH Tryd.prog [("math/bits.deBruijn32tab", Rows.laid_math_bits_deBruijn32tab), ("math/bits.deBruijn64tab", Rows.laid_math_bits_deBruijn64tab)] w) (fun _ _ _ hh h => h.of_heap hh) own started (by kernel_rfl) Tryd.func4
    (ChangeSpec.witness_shaped (enc := enc) (C := Tryd.checked) (os := os) (X := fun w _ => laidMetH Tryd.prog [("math/bits.deBruijn32tab", Rows.laid_math_bits_deBruijn32tab), ("math/bits.deBruijn64tab", Rows.laid_math_bits_deBruijn64tab)] w) false (World.laidAll Tryd.prog os [("math/bits.deBruijn32tab", Rows.laid_math_bits_deBruijn32tab), ("math/bits.deBruijn64tab", Rows.laid_math_bits_deBruijn64tab)]) #[.agg #[.int .i64 0, .slice none 0 0]] 8 (World.laidAll_os _ _ _)
      (World.shaped_of_ZipB (by kernel_rfl) (by kernel_rfl)) (by kernel_rfl) (by kernel_rfl) (by kernel_rfl)
      (by rw [MakeChecks.laidMetH_plain _ _ _ (by kernel_rfl)]; exact laidMet_laidAll _ (by kernel_rfl) (by kernel_rfl))) ?_
  intro W base args ds gs before hval0 hW _ _ hL _
  have hW' := hW
  obtain ⟨p, q, hA0, hV, rfl, hfz, hnd⟩ := hW
  have hA : DataW.TrodAll enc Tryd.prog W 0 (fun _ => true) true Tryd.f4.params.toList args.toList ds p := hA0
  rw [Tryd.params4] at hA
  obtain ⟨v0, vs0, d0, ds0, p0, q0, e0, rfl, rfl, h0, hr0⟩ := trodAll_cons hA
  obtain ⟨rfl, rfl, rfl⟩ := trodAll_nil hr0
  obtain rfl : args = #[v0] := by cases args; simp_all
  obtain ⟨x0, k0, t0⟩ := arg_agg (n := 8) tab_ok (hval0 0 24 v0 rfl rfl) h0 (by kernel_rfl) (by kernel_rfl)
  obtain ⟨rfl, rfl⟩ := trodVars_none hV
  clear hA0 hval0
  simp only [List.append_nil] at hW'
  refine (FnP.calls (W := W) (vals := #[v0]) (con4 x0 t0) (.cons _ _ _ _ k0 .nil) (laidG hL)).mono fun e W' ⟨he, hg⟩ => ?_
  subst he
  exact ⟨_, rfl, post_of_kept (pv := []) hW' (fun _ _ _ => trodAll_cons_mk (shut_bool Tryd.underlying4 _) trodAll_mk0) (fun sp hsp => trodAll_cons_mk (Kept.trod hg laid (by kernel_rfl) (of_decide_eq_true (by kernel_rfl)) h0 (fun y hy => hsp y (by simp [hy]))) (trodAll_mk0)) (fun _ _ => rfl) (by simp)
    hg (ok_one (by kernel_rfl) rfl (okWide_bool_mk Tryd.underlying4 _))⟩

theorem over : Rows.crewFindsRow.holds Tryd.pinned (OpenSpec.ofChange Rows.crewFindsSpec) :=
  OpenClaim.holds_of_wide 4 Tryd.f4 rfl rfl rfl rfl rfl rfl rfl ⟨rfl, rfl, rfl, rfl, rfl⟩ rfl rfl rfl rfl rfl (by kernel_rfl) Tryd.func4 (by kernel_rfl)
    (of_decide_eq_true (by kernel_rfl)) (by unfold Func.isWrapper; first | (rw [if_pos (by decide +kernel)]; kernel_rfl) | (rw [if_neg (by decide +kernel)]; exact ⟨rfl, rfl⟩))
    (fun os started H enc _ => lifted os started H enc)

theorem card : Rows.CrewFindsCardSaid :=
  Claim7.holds_tied_plain_at .later [] [.data, .data] true (true, "36f3adb999a13030bb38168af2e88bed1a560d200de820ff25b5e377fa9c04d7") true (over) (fun _ h => by cases h) (by kernel_rfl) (fun _ h => by cases h) crewFinds_row_tie rfl ⟨rfl, rfl⟩ (by kernel_rfl) rfl
    (fun f fn hf hfn => by
      obtain rfl : f = 4 := Option.some.inj ((show Tryd.prog.funcNamed "breeze/breezelaw10.CrewFinds" = some 4 by kernel_rfl).symm.trans hf) |>.symm
      obtain rfl : fn = Tryd.f4 := (Option.some.inj (Tryd.func4.symm.trans hfn)).symm
      exact ⟨by kernel_rfl, fun j t ht => by
        rw [Tryd.params4] at ht
        rcases j with _ | j
        · obtain rfl : t = 24 := by simpa using ht.symm
          exact (show Tryd.prog.wantsStandIn 24 = false by kernel_rfl)
        · simp at ht⟩)
    (by kernel_rfl)

end Go.Proofs.YtnponojgpkbagaaDoor.crewFinds
namespace Go.Proofs.YtnponojgpkbagaaDoor
/-- the statement -/
theorem crewFinds_holds : Rows.CrewFindsCardSaid := crewFinds.card
#print axioms crewFinds_holds
end Go.Proofs.YtnponojgpkbagaaDoor
