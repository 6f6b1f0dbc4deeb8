/-
  THE ENGINE, PART 8: slice expressions, append, copy; parts of aggregates.
-/
import Derived.Test.YteidcinajdehkaaQFV7
set_option linter.unusedSimpArgs false
set_option linter.unusedVariables false
namespace Go.V
section ops
variable {P : Program} {T : Tab} {w : World} {ρ : Rho} {ob : Ob}
def ival : Option D → Option (Option Int)
  | none => some none
  | some (.v (.int _ n)) => some (some n)
  | _ => none
def bnd (o : Option Int) (d : Int) : Int := match o with | some n => n | none => d
def cutP (lo : Option Int) (hi : Option Int) (sz : Nat) (cs : List PV) : List PV :=
  match lo, hi with
  | none, none => cs
  | some l, none => cs.drop (l.toNat * sz)
  | none, some h => cs.take (h.toNat * sz)
  | some l, some h => (cs.drop (l.toNat * sz)).take ((h - l).toNat * sz)
def sliceR (T : Tab) (ty : TypeId) (x : D) (lo hi mx : Option D) : R :=
  match elemOfT T ty, ival lo, ival hi, ival mx with
  | some (none, sz), some lo, some hi, some mx =>
    match x with
    | .v (.lst f n cs) =>
      .val (.v (.lst (mx.isSome || (f && hi.isNone)) (bnd hi n - bnd lo 0).toNat (cutP lo hi sz cs)))
        (0 ≤ bnd lo 0 ∧ bnd lo 0 ≤ bnd hi n ∧ bnd hi n ≤ n ∧ (mx.isSome → hi.isSome ∧ bnd mx n = bnd hi n) ∧ cs.length = n * sz)
    | .v .nl => .val (.v .nl) (bnd lo 0 = 0 ∧ bnd hi 0 = 0 ∧ (mx.isSome → hi.isSome ∧ bnd mx 0 = 0))
    | .sl f id off n sz' =>
      .val (.sl (mx.isSome || (f && hi.isNone)) id (off + (bnd lo 0).toNat * sz) (bnd hi n - bnd lo 0).toNat sz)
        (0 ≤ bnd lo 0 ∧ bnd lo 0 ≤ bnd hi n ∧ bnd hi n ≤ n ∧ (mx.isSome → hi.isSome ∧ bnd mx n = bnd hi n) ∧ sz' = sz)
    | _ => .bad
  | _, _, _, _ => .bad
def cutV (lo hi : Option Int) (mx : Option Int) (sz : Nat) : Value → Value
  | .slice a n c =>
    let l := (bnd lo 0).toNat
    let h := (bnd hi n).toNat
    let m := match mx with | some m => m.toNat | none => c
    .slice (if m = l then a else a.map (·.add (l * sz))) (h - l) (m - l)
  | v => v
theorem run_sliceBound (k : IntKind) (i : Int) (y : Nat) (code : BoundsCode) (h0 : 0 ≤ i) (h1 : i ≤ y) : (Instr.sliceBound (.int k i) y code).run P w = .ok i.toNat w := by
  simp [Instr.sliceBound, asIntOf, h0, h1]
theorem run_slice {ty e : TypeId} {sz : Nat} {i : TI} (hT : TOk P T) (h1 : P.underlying ty = some (.slice e)) (h2 : tl T e = some i) (h3 : i.size = sz) (lo hi mx : Option Int) (kl kh km : IntKind) (a : Option Addr) (n c : Nat) (hnc : n ≤ c)
    (s1 : 0 ≤ bnd lo 0) (s2 : bnd lo 0 ≤ bnd hi n) (s3 : bnd hi n ≤ n) (s4 : mx.isSome → hi.isSome ∧ bnd mx n = bnd hi n) :
    (Instr.slice ty (.slice a n c) (lo.map (.int kl)) (hi.map (.int kh)) (mx.map (.int km))).run P w = .ok (cutV lo hi mx sz (.slice a n c)) w := by
  subst h3
  have hs := hT.sizeOf h2 w
  cases lo <;> cases hi <;> cases mx <;> simp [bnd] at s1 s2 s3 s4 <;>
    simp (disch := omega) [Instr.slice, run_underlying h1, Instr.sliceBounds, run_sliceBound, hs, cutV, bnd] <;> rfl
theorem ival_RD {own : Nat → Prop} {d : D} {n : Option Int} {v : Value} (h : RD w own ρ v d) (hi : ival (some d) = some n) : ∃ k m, v = .int k m ∧ n = some m := by
  unfold ival at hi
  split at hi
  · simp_all
  · rename_i k m he
    simp only [Option.some.injEq] at he hi
    subst he
    cases h with | v _ _ h =>
    cases h
    exact ⟨k, m, rfl, hi.symm⟩
  · cases hi
theorem ival_opt {own : Nat → Prop} {x : Option Operand} {ev : Operand → Value} {de : Operand → D} {n : Option Int} (h : ∀ y, x = some y → RD w own ρ (ev y) (de y)) (hi : ival (x.map de) = some n) :
    ∃ k, x.map ev = n.map (.int k) := by
  cases x with
  | none => simp [ival] at hi; exact ⟨.i64, by simp [← hi]⟩
  | some y =>
    obtain ⟨k, m, h1, h2⟩ := ival_RD (h y rfl) hi
    exact ⟨k, by simp [h1, h2]⟩
theorem cutP_RC {own : Nat → Prop} {b off sz : Nat} {cs : List PV} (lo hi : Option Int) (h : RC w own b off cs) : RC w own b (off + (bnd lo 0).toNat * sz) (cutP lo hi sz cs) := by
  cases lo <;> cases hi <;> simp only [cutP, bnd]
  · simpa using h
  · simpa using h.take _
  · exact h.drop _
  · exact (h.drop _).take _
theorem cutP_len {sz n : Nat} {cs : List PV} (lo hi : Option Int) (hc : cs.length = n * sz) (s1 : 0 ≤ bnd lo 0) (s2 : bnd lo 0 ≤ bnd hi n) (s3 : bnd hi n ≤ n) :
    (cutP lo hi sz cs).length = (bnd hi n - bnd lo 0).toNat * sz := by
  have mono : ∀ {a b : Nat}, a ≤ b → a * sz ≤ b * sz := fun h => Nat.mul_le_mul_right _ h
  cases lo <;> cases hi <;> simp only [cutP, bnd] at *
  · simpa using hc
  · rename_i h
    have := mono (show h.toNat ≤ n by omega)
    rw [Int.sub_zero, List.length_take, hc]; exact Nat.min_eq_left this
  · rename_i l
    simp only [List.length_drop, hc, ← Nat.sub_mul]
    congr 1; omega
  · rename_i l h
    have e : (h - l).toNat ≤ n - l.toNat := by omega
    have := mono e
    simp only [List.length_take, List.length_drop, hc, ← Nat.sub_mul]
    omega
theorem slice_sound (hT : TOk P T) (hrep : Rep w ρ ob) (ty : TypeId) (x : Operand) (lo hi mx : Option Operand) (ev : Operand → Value) (de : Operand → D) (vx : Value) (hvx : ev x = vx) (hx : RD w (Own ρ ob) ρ vx (de x))
    (hlo : ∀ y, lo = some y → RD w (Own ρ ob) ρ (ev y) (de y)) (hhi : ∀ y, hi = some y → RD w (Own ρ ob) ρ (ev y) (de y)) (hmx : ∀ y, mx = some y → RD w (Own ρ ob) ρ (ev y) (de y)) (o : Oper) (ho : o.op = .slice ty x lo hi mx) :
    Outs ((execOp ev o).run P w) w ρ ob (sliceR T ty (de x) (lo.map de) (hi.map de) (mx.map de)) := by
  unfold sliceR
  split
  · rename_i sz l h m he hl hh hm
    obtain ⟨e, i, h1, h2, h3⟩ := elem_slice hT he
    obtain ⟨kl, el⟩ := ival_opt hlo hl
    obtain ⟨kh, eh⟩ := ival_opt hhi hh
    obtain ⟨km, em⟩ := ival_opt hmx hm
    have hrun : ∀ a n c, vx = .slice a n c → n ≤ c → 0 ≤ bnd l 0 → bnd l 0 ≤ bnd h n → bnd h n ≤ n → (m.isSome → h.isSome ∧ bnd m n = bnd h n) → (execOp ev o).run P w = .ok (.value (cutV l h m sz (.slice a n c))) w := by
      intro a n c hv hnc s1 s2 s3 s4
      have := run_slice (w := w) hT h1 h2 h3 l h m kl kh km a n c hnc s1 s2 s3 s4
      unfold execOp
      simp only [ho, hvx, hv, Instr.sliceAt, Sem.run_bind, run_underlying h1 w, Result.andThen_ok, el, eh, em, this, Sem.run_pure]
    split
    · rename_i f n cs hd
      rw [hd] at hx
      cases hx with | v _ _ hx =>
      refine .val hrep fun ⟨s1, s2, s3, s4, s5⟩ => ?_
      cases hx with
      | lstN f =>
        refine ⟨_, hrun none 0 0 rfl (Nat.le_refl _) s1 s2 s3 s4, .v _ _ ?_⟩
        have e1 : bnd l 0 = 0 := by omega
        have e2 : bnd h 0 = 0 := by simp at s2 s3; omega
        have e3 : cutP l h sz [] = [] := by cases l <;> cases h <;> simp [cutP]
        rw [e3]
        simp only [cutV, Int.ofNat_zero, e1, e2] at *
        cases m with
        | none => simpa using RP.lstN _
        | some m => simp [bnd] at s4; simpa [s4.2] using RP.lstN _
      | lst0 f a =>
        refine ⟨_, hrun (some a) 0 0 rfl (Nat.le_refl _) s1 s2 s3 s4, .v _ _ ?_⟩
        have e1 : bnd l 0 = 0 := by omega
        have e2 : bnd h 0 = 0 := by simp at s2 s3; omega
        have e3 : cutP l h sz [] = [] := by cases l <;> cases h <;> simp [cutP]
        rw [e3]
        simp only [cutV, Int.ofNat_zero, e1, e2] at *
        cases m with
        | none => simpa using RP.lst0 _ _
        | some m => simp [bnd] at s4; simpa [s4.2] using RP.lst0 _ _
      | lst f n cap b off cs a1 a2 a3 hc =>
        refine ⟨_, hrun _ n cap rfl a1 s1 s2 s3 s4, .v _ _ ?_⟩
        have hcut := cutP_RC (sz := sz) l h hc
        have hmb : ∀ q, m = some q → q.toNat = (bnd h n).toNat := by intro q hq; subst hq; have := (s4 rfl).2; simp [bnd] at this ⊢; omega
        simp only [cutV, Option.map_some, addr_add]
        have hlen : (bnd h ↑n - bnd l 0).toNat = (bnd h n).toNat - (bnd l 0).toNat := by omega
        rw [hlen]
        have key : ∀ (mm : Nat), (bnd h n).toNat ≤ mm → mm ≤ maxLen → ((m.isSome || (f && h.isNone)) = true → mm - (bnd l 0).toNat = (bnd h n).toNat - (bnd l 0).toNat) →
            RP w (Own ρ ob) (.slice (if mm = (bnd l 0).toNat then some ⟨b, off, none⟩ else some ⟨b, off + (bnd l 0).toNat * sz, none⟩) ((bnd h n).toNat - (bnd l 0).toNat) (mm - (bnd l 0).toNat)) (.lst (m.isSome || (f && h.isNone)) ((bnd h n).toNat - (bnd l 0).toNat) (cutP l h sz cs)) := by
          intro mm g1 g2 g3
          by_cases hml : mm = (bnd l 0).toNat
          · rw [if_pos hml]
            have h0 := cutP_len l h s5 s1 s2 s3
            have h1 : (bnd h ↑n - bnd l 0).toNat = 0 := by omega
            rw [h1, Nat.zero_mul] at h0
            rw [List.eq_nil_of_length_eq_zero h0]
            exact .lst _ _ _ _ _ _ (by omega) g3 (by omega) (.nil _ _)
          · rw [if_neg hml]
            exact .lst _ _ _ _ _ _ (by omega) g3 (by omega) hcut
        cases m with
        | none => exact key cap (by omega) a3 (by intro hf; simp at hf; have := a2 hf.1; have h0 : h = none := by simpa using hf.2
                                                  subst h0; simp [bnd]; omega)
        | some q => exact key q.toNat (by rw [hmb q rfl]; exact Nat.le_refl _) (by rw [hmb q rfl]; omega) (by intro _; rw [hmb q rfl])
    · rename_i hd
      rw [hd] at hx
      cases hx with | v _ _ hx =>
      cases hx
      refine .val hrep fun ⟨e1, e2, s4⟩ => ?_
      refine ⟨_, hrun none 0 0 rfl (Nat.le_refl _) (by omega) (by simp; omega) (by simp; omega) (fun hm => ⟨(s4 hm).1, by have := (s4 hm).2; simp at *; omega⟩), .v _ _ ?_⟩
      simp only [cutV, Int.ofNat_zero, e1, e2]
      cases m with
      | none => simpa using RP.nl
      | some m => simp [bnd] at s4; simpa [s4.2] using RP.nl
    · rename_i f id off n sz' hd
      rw [hd] at hx
      refine .val hrep fun ⟨s1, s2, s3, s4, s5⟩ => ?_
      subst s5
      cases hx with
      | slN f id off sz hr =>
        refine ⟨_, hrun none 0 0 rfl (Nat.le_refl _) s1 s2 s3 s4, ?_⟩
        have e1 : bnd l 0 = 0 := by omega
        have e2 : bnd h 0 = 0 := by simp at s2 s3; omega
        simp only [cutV, Int.ofNat_zero, e1, e2] at *
        cases m with
        | none => simpa using RD.slN _ id _ _ hr
        | some m => simp [bnd] at s4; simpa [s4.2] using RD.slN _ id _ _ hr
      | sl f id off n sz b o' cap hr a1 a2 a3 a4 =>
        refine ⟨_, hrun _ n cap rfl a1 s1 s2 s3 s4, ?_⟩
        have hmb : ∀ q, m = some q → q.toNat = (bnd h n).toNat := by intro q hq; subst hq; have := (s4 rfl).2; simp [bnd] at this ⊢; omega
        simp only [cutV, Option.map_some, addr_add]
        have hlen : (bnd h ↑n - bnd l 0).toNat = (bnd h n).toNat - (bnd l 0).toNat := by omega
        rw [hlen]
        have key : ∀ (mm : Nat), (bnd h n).toNat ≤ mm → mm ≤ cap → ((m.isSome || (f && h.isNone)) = true → mm - (bnd l 0).toNat = (bnd h n).toNat - (bnd l 0).toNat) →
            RD w (Own ρ ob) ρ (.slice (if mm = (bnd l 0).toNat then some ⟨b, o', none⟩ else some ⟨b, o' + (bnd l 0).toNat * sz', none⟩) ((bnd h n).toNat - (bnd l 0).toNat) (mm - (bnd l 0).toNat)) (.sl (m.isSome || (f && h.isNone)) id (off + (bnd l 0).toNat * sz') ((bnd h n).toNat - (bnd l 0).toNat) sz') := by
          intro mm g1 g2 g3
          by_cases hml : mm = (bnd l 0).toNat
          · rw [if_pos hml]
            exact .sl _ _ _ _ _ _ _ _ hr (by omega) g3 (by omega) (.inl (by omega))
          · rw [if_neg hml]
            refine .sl _ _ _ _ _ _ _ _ hr (by omega) g3 (by omega) (.inr ?_)
            rcases a4 with a4 | ⟨rfl, a4⟩
            · omega
            · refine ⟨rfl, ?_⟩
              have : (bnd l 0).toNat * sz' + (mm - (bnd l 0).toNat) * sz' ≤ cap * sz' := by rw [← Nat.add_mul]; exact Nat.mul_le_mul_right _ (by omega)
              omega
        cases m with
        | none => exact key cap (by omega) (Nat.le_refl _) (by intro hf; simp at hf; have := a2 hf.1; have h0 : h = none := by simpa using hf.2
                                                               subst h0; simp [bnd]; omega)
        | some q => exact key q.toNat (by rw [hmb q rfl]; exact Nat.le_refl _) (by rw [hmb q rfl]; omega) (by intro _; rw [hmb q rfl])
    · exact .bad
  · exact .bad
end ops
end Go.V
