/-
  THE ENGINE, PART 31: arguments of a given statement, as pure data of their types.
-/
import Derived.Test.YteidcinajdehkaaQFV26
import Derived.OpenShut
import Derived.WideKeyArgs
set_option linter.unusedSimpArgs false
set_option linter.unusedVariables false
namespace Go.V
open Go.ChangeShapes Go.WideShapes Go.ChangeAt Go.RowKit
inductive PT (T : Tab) : TypeId → List PV → Prop
  | int {t : TypeId} {i : TI} {k : IntKind} {n : Int} (h : tl T t = some i) (hk : i.k = .int k) (h1 : k.min ≤ n) (h2 : n ≤ k.max) : PT T t [.int k n]
  | bool {t : TypeId} {i : TI} (h : tl T t = some i) (hk : i.k = .bool) (b : Bool) : PT T t [.bool b]
  | nl {t : TypeId} {i : TI} {e : TypeId} (h : tl T t = some i) (hk : i.k = .slice e) : PT T t [.nl]
  | lst {t : TypeId} {i : TI} {e : TypeId} (h : tl T t = some i) (hk : i.k = .slice e) (xs : List (List PV)) (hx : ∀ x ∈ xs, PT T e x) : PT T t [.lst false xs.length xs.flatten]
  | arr {t : TypeId} {i : TI} {m : Nat} {e : TypeId} (h : tl T t = some i) (hk : i.k = .arr m e) (xs : List (List PV)) (hl : xs.length = m) (hx : ∀ x ∈ xs, PT T e x) : PT T t xs.flatten
  | struct {t : TypeId} {i : TI} {fs : List (Nat × TypeId)} (h : tl T t = some i) (hk : i.k = .struct fs) (xs : List (List PV)) (hl : xs.length = fs.length) (hx : ∀ (j : Nat) (f : Nat × TypeId) (x : List PV), fs[j]? = some f → xs[j]? = some x → PT T f.2 x) : PT T t xs.flatten
def szT (T : Tab) (t : TypeId) : Nat := match tl T t with | some i => i.size | none => 0
def contL : Nat → List (Nat × Nat) → Option Nat
  | o, [] => some o
  | o, (a, s) :: l => if a = o then contL (o + s) l else none
def plB (T : Tab) : Nat → TypeId → Bool
  | 0, _ => false
  | n + 1, t => match tl T t with
    | some ⟨.int _, _, _, _⟩ => true
    | some ⟨.bool, _, _, _⟩ => true
    | some ⟨.slice e, _, _, _⟩ => plB T n e && decide (0 < szT T e)
    | some ⟨.arr m e, z, _, _⟩ => plB T n e && decide (z = m * szT T e)
    | some ⟨.struct fs, z, _, _⟩ => fs.all (fun f => plB T n f.2) && decide (contL 0 (fs.map fun f => (f.1, szT T f.2)) = some z)
    | _ => false
theorem szT_cells {P : Program} {T : Tab} (hT : TOk P T) {t : TypeId} {i : TI} (h : tl T t = some i) : P.cellsOf t = szT T t := by
  obtain ⟨j, z, h1, h2, _⟩ := hT.info h
  simp [Program.cellsOf, h1, szT, h, h2]
section
variable {P : Program} {T : Tab} {w : World} {H : Type} {enc : TypeId × Value → H} {base : Nat} {held : Bool}
theorem RPs.app' {own : Nat → Prop} : ∀ {a b : List Value} {p q : List PV}, RPs w own a p → RPs w own b q → RPs w own (a ++ b) (p ++ q)
  | _, _, _, _, .nil, h => h
  | _, _, _, _, .cons v p vs cs h t, k => .cons v p _ _ h (RPs.app' t k)
theorem RC.app' {own : Nat → Prop} : ∀ {b off : Nat} {p q : List PV}, RC w own b off p → RC w own b (off + p.length) q → RC w own b off (p ++ q)
  | _, _, _, _, .nil b off, h => by simpa using h
  | _, _, _, _, .cons b off v p cs hb h1 ho h t, k => .cons b off v p _ hb h1 ho h (RC.app' t (by
      rw [show off + 1 + cs.length = off + (cs.length + 1) by omega]; exact k))
theorem RC_of_cells {b : Nat} : ∀ {cs : List Value} {qs : List PV} {off : Nat}, RPs w (fun _ => False) cs qs → (∀ (j : Nat) v, cs[j]? = some v → w.cell? ⟨b, off + j, none⟩ = some v) → (∀ u ∈ cs, u.oneCell' = true) → RC w (fun _ => False) b off qs
  | _, _, off, .nil, _, _ => .nil b off
  | _, _, off, .cons v p vs cs h t, hc, h1 => .cons b off v p cs (by simpa using hc 0 v (by simp)) (h1 v (by simp)) (fun h => h) h (RC_of_cells t (fun j u hj => by
      have := hc (j + 1) u (by simpa using hj)
      rwa [show off + (j + 1) = off + 1 + j by omega] at this) (fun u hu => h1 u (by simp [hu])))
theorem chunks : ∀ (l : List (Nat × Nat)) (qs : List (List PV)) (o : Nat) (cs : List Value), contL o l = some cs.length → qs.length = l.length →
    (∀ (j : Nat) (p : Nat × Nat) q, l[j]? = some p → qs[j]? = some q → RPs w (fun _ => False) ((cs.drop p.1).take p.2) q ∧ ∀ u ∈ (cs.drop p.1).take p.2, u.oneCell' = true) →
    RPs w (fun _ => False) (cs.drop o) qs.flatten ∧ ∀ u ∈ cs.drop o, u.oneCell' = true
  | [], qs, o, cs, h, hl, _ => by
    simp only [contL, Option.some.injEq] at h
    have : qs = [] := List.eq_nil_of_length_eq_zero (by simpa using hl)
    subst this h
    simp only [List.drop_length]
    exact ⟨.nil, fun u hu => by cases hu⟩
  | (a, s) :: l, [], o, cs, h, hl, _ => by simp at hl
  | (a, s) :: l, q :: qs, o, cs, h, hl, hc => by
    simp only [contL] at h
    split at h
    · rename_i ha
      subst ha
      obtain ⟨c1, c2⟩ := hc 0 (a, s) q rfl rfl
      obtain ⟨d1, d2⟩ := chunks l qs (a + s) cs h (by simpa using hl) (fun j p q hj hq => hc (j + 1) p q (by simpa using hj) (by simpa using hq))
      have e : cs.drop a = (cs.drop a).take s ++ cs.drop (a + s) := by rw [← List.drop_drop, List.take_append_drop]
      rw [e]
      refine ⟨by rw [List.flatten_cons]; exact RPs.app' c1 d1, fun u hu => ?_⟩
      rcases List.mem_append.1 hu with hu | hu
      · exact c2 u hu
      · exact d2 u hu
    · cases h
theorem contL_range (s : Nat) : ∀ (m o : Nat), contL (o * s) ((List.range' o m).map fun i => (i * s, s)) = some ((o + m) * s)
  | 0, o => by simp [contL]
  | m + 1, o => by
    simp only [List.range'_succ, List.map_cons, contL, if_true]
    rw [show o * s + s = (o + 1) * s by rw [Nat.add_mul]; simp, contL_range s m (o + 1)]
    congr 2; omega
theorem list_of {α : Type} {p : Nat → α → Prop} : ∀ (n : Nat), (∀ i, i < n → ∃ x, p i x) → ∃ l : List α, l.length = n ∧ ∀ i x, l[i]? = some x → p i x
  | 0, _ => ⟨[], rfl, fun i x h => by simp at h⟩
  | n + 1, h => by
    obtain ⟨l, h1, h2⟩ := list_of n fun i hi => h i (by omega)
    obtain ⟨x, hx⟩ := h n (by omega)
    refine ⟨l ++ [x], by simp [h1], fun i y hy => ?_⟩
    rw [List.getElem?_append] at hy
    split at hy
    · exact h2 i y hy
    · rename_i hi
      have : i - l.length = 0 := by
        rcases Nat.eq_zero_or_pos (i - l.length) with h0 | h0
        · exact h0
        · rw [List.getElem?_eq_none (by simp; omega)] at hy; cases hy
      rw [this] at hy
      simp only [List.getElem?_cons_zero, Option.some.injEq] at hy
      subst hy
      have : i = n := by omega
      subst this; exact hx
theorem cells?_get {a : Addr} {n : Nat} {cs : List Value} (h : w.cells? base a n = some cs) : cs.length = n ∧ ∀ (j : Nat) v, cs[j]? = some v → w.cell? (a.add j) = some v := by
  obtain ⟨_, h1, h2⟩ := World.cells?_some h
  refine ⟨h1, fun j v hj => ?_⟩
  have hlt : j < n := by
    rcases Nat.lt_or_ge j cs.length with hh | hh
    · omega
    · rw [List.getElem?_eq_none hh] at hj; cases hj
  rw [h2 j hlt]; exact hj
theorem trod_pv (hT : TOk P T) : ∀ (n fuel : Nat) (t : TypeId) (cs : List Value) (x : DataW H × List MemPlace), plB T n t = true → DataW.trod enc P w base (fun _ => true) held fuel t cs = some x →
    ∃ qs, (RPs w (fun _ => False) cs qs ∧ ∀ u ∈ cs, u.oneCell' = true) ∧ PT T t qs
  | 0, _, _, _, _, h, _ => by simp [plB] at h
  | n + 1, fuel, t, cs, x, h, hx => by
    simp only [plB] at h
    split at h
    · rename_i k z b y hi
      obtain ⟨m, rfl, _, hw⟩ := DataW.trod_int (hT.int hi rfl) hx
      simp only [Lit.wf, Bool.and_eq_true, decide_eq_true_eq] at hw
      exact ⟨[.int k m], ⟨.cons _ _ _ _ (.int k m) .nil, fun u hu => by simp at hu; subst hu; rfl⟩, .int hi rfl hw.1 hw.2⟩
    · rename_i z b y hi
      obtain ⟨m, rfl, _⟩ := DataW.trod_bool (hT.bool hi rfl) hx
      exact ⟨[.bool m], ⟨.cons _ _ _ _ (.bool m) .nil, fun u hu => by simp at hu; subst hu; rfl⟩, .bool hi rfl m⟩
    · rename_i e z b y hi
      simp only [Bool.and_eq_true, decide_eq_true_eq] at h
      obtain ⟨he, hz⟩ := h
      rcases DataW.trod_slice (hT.slice hi rfl) hx with ⟨rfl, _⟩ | ⟨a, len, cap, elems, rest, m, _, rfl, _, hb, hl, hm, hlen, hel, hsp, _⟩
      · exact ⟨[.nl], ⟨.cons _ _ _ _ .nl .nil, fun u hu => by simp at hu; subst hu; rfl⟩, .nl hi rfl⟩
      · have hsz : P.cellsOf e = szT T e := by
          cases hte : tl T e with
          | none => cases n <;> simp [plB, hte] at he
          | some ie => exact szT_cells hT hte
        rw [hsz] at hel hsp
        -- each element
        have each : ∀ i, i < len → ∃ q : List PV, (∃ csi, w.cells? base (a.add (i * szT T e)) (szT T e) = some csi ∧ RPs w (fun _ => False) csi q ∧ (∀ u ∈ csi, u.oneCell' = true)) ∧ PT T e q := by
          intro i hi2
          have h1 := hel i hi2
          have h2 : elems[i]? = some elems[i] := List.getElem?_eq_getElem (by omega)
          rw [h2] at h1
          cases hc : w.cells? base (a.add (i * szT T e)) (szT T e) with
          | none => simp [hc] at h1
          | some csi =>
            simp only [hc, Option.bind_some] at h1
            obtain ⟨q, ⟨q1, q2⟩, q3⟩ := trod_pv hT n m e csi _ he h1
            exact ⟨q, ⟨csi, rfl, q1, q2⟩, q3⟩
        obtain ⟨qs, hq1, hq2⟩ := list_of len each
        have one : ∀ u ∈ [Value.slice (some a) len cap], u.oneCell' = true := fun u hu => by simp at hu; subst hu; rfl
        have hpt : PT T t [.lst false len qs.flatten] := by
          rw [← hq1]
          refine .lst hi rfl qs fun x hx => ?_
          obtain ⟨i, hi3, rfl⟩ := List.mem_iff_getElem.1 hx
          exact (hq2 i _ (List.getElem?_eq_getElem hi3)).2
        refine ⟨[.lst false len qs.flatten], ⟨.cons _ _ _ _ ?_ .nil, one⟩, hpt⟩
        rcases Nat.eq_zero_or_pos cap with hc0 | hc0
        · have hl0 : len = 0 := by omega
          subst hl0 hc0
          have : qs = [] := List.eq_nil_of_length_eq_zero hq1
          subst this
          exact .lst0 false a
        · -- the place of the first cell is a plain one
          have hspot : a.spot = none := by
            have h0 : ∃ csi, w.cells? base (a.add (0 * szT T e)) (szT T e) = some csi := by
              rcases Nat.eq_zero_or_pos len with hl0 | hl0
              · subst hl0
                have h1 := (hsp rfl).2 0 (by omega)
                have h2 : rest[0]? = some (rest[0]'(by rw [(hsp rfl).1]; omega)) := List.getElem?_eq_getElem _
                rw [h2] at h1
                simp only [Nat.add_zero, Nat.zero_mul] at h1 ⊢
                cases hc : w.cells? base (a.add 0) (szT T e) with
                | none => rw [hc] at h1; cases h1
                | some csi => exact ⟨csi, rfl⟩
              · obtain ⟨q, ⟨csi, hcs, _⟩, _⟩ := each 0 hl0
                exact ⟨csi, hcs⟩
            obtain ⟨csi, hcs⟩ := h0
            obtain ⟨g1, g2⟩ := cells?_get hcs
            have h3 : csi[0]? = some (csi[0]'(by omega)) := List.getElem?_eq_getElem _
            have h4 := g2 0 _ h3
            have h5 : ((a.add (0 * szT T e)).add 0) = a := by simp [Addr.add]
            rw [h5] at h4
            unfold World.cell? at h4
            split at h4
            · cases hs : a.spot with
              | none => rfl
              | some s => simp [hs] at h4
            · cases h4
          obtain ⟨b0, off, sp⟩ := a
          simp only at hspot
          subst hspot
          refine .lst false len cap b0 off _ hl (fun h => by cases h) hm ?_
          have rows : ∀ (l : List (List PV)) (i0 : Nat), (∀ (i : Nat) x, l[i]? = some x → ∃ csi, w.cells? base ((⟨b0, off, none⟩ : Addr).add ((i0 + i) * szT T e)) (szT T e) = some csi ∧ RPs w (fun _ => False) csi x ∧ (∀ u ∈ csi, u.oneCell' = true)) → RC w (fun _ => False) b0 (off + i0 * szT T e) l.flatten := by
            intro l
            induction l with
            | nil => intro i0 _; exact .nil _ _
            | cons x l ih =>
              intro i0 hrow
              obtain ⟨csi, c1, c2, c3⟩ := hrow 0 x rfl
              obtain ⟨d1, d2⟩ := cells?_get c1
              rw [List.flatten_cons]
              have hxl : x.length = szT T e := by rw [← c2.len, d1]
              refine RC.app' (RC_of_cells c2 (fun j v hj => ?_) c3) ?_
              · have := d2 j v hj
                rw [addr_add, addr_add] at this
                simpa using this
              · have := ih (i0 + 1) (fun i y hy => by
                  have := hrow (i + 1) y (by simpa using hy)
                  rwa [show i0 + (i + 1) = i0 + 1 + i by omega] at this)
                rw [hxl, show off + i0 * szT T e + szT T e = off + (i0 + 1) * szT T e by rw [Nat.add_mul]; omega]
                exact this
          have := rows qs 0 (fun i x hx => by
            rw [Nat.zero_add]
            exact (hq2 i x hx).1)
          simpa using this
    · rename_i m e z b y hi
      simp only [Bool.and_eq_true, decide_eq_true_eq] at h
      obtain ⟨he, hz⟩ := h
      obtain ⟨xs, f, _, _, hcl, hxl, hel⟩ := DataW.trod_array (hT.arr hi rfl) hx
      have hsz : P.cellsOf e = szT T e := by
        cases hte : tl T e with
        | none => cases n <;> simp [plB, hte] at he
        | some ie => exact szT_cells hT hte
      have hct : P.cellsOf t = m * szT T e := by rw [szT_cells hT hi]; simp [szT, hi, hz]
      rw [hsz] at hel
      have each : ∀ i, i < m → ∃ q : List PV, (RPs w (fun _ => False) ((cs.drop (i * szT T e)).take (szT T e)) q ∧ ∀ u ∈ (cs.drop (i * szT T e)).take (szT T e), u.oneCell' = true) ∧ PT T e q := by
        intro i hi2
        have h1 := hel i hi2
        have h2 : xs[i]? = some (xs[i]'(by omega)) := List.getElem?_eq_getElem _
        rw [h2] at h1
        exact trod_pv hT n f e _ _ he h1
      obtain ⟨qs, hq1, hq2⟩ := list_of m each
      have hpt : PT T t qs.flatten := .arr hi rfl qs hq1 fun x hx => by
        obtain ⟨i, hi3, rfl⟩ := List.mem_iff_getElem.1 hx
        exact (hq2 i _ (List.getElem?_eq_getElem hi3)).2
      have hch := chunks ((List.range' 0 m).map fun i => (i * szT T e, szT T e)) qs 0 cs (by
        have := contL_range (szT T e) m 0
        simp only [Nat.zero_mul, Nat.zero_add] at this
        rw [this, hcl, hct]) (by simp [hq1]) (fun j p q hj hq => by
          rw [List.getElem?_map] at hj
          have hjm : j < m := by
            rcases Nat.lt_or_ge j qs.length with hh | hh
            · omega
            · rw [List.getElem?_eq_none hh] at hq; cases hq
          rw [List.getElem?_range' (by omega)] at hj
          simp only [Option.map_some, Option.some.injEq] at hj
          subst hj
          have := (hq2 j q hq).1
          simpa using this)
      rw [List.drop_zero] at hch
      exact ⟨_, hch, hpt⟩
    · rename_i fs z b y hi
      simp only [Bool.and_eq_true, decide_eq_true_eq, List.all_eq_true] at h
      obtain ⟨hf, hz⟩ := h
      obtain ⟨d, hd, hk⟩ := hT.desc hi
      cases d <;> simp [kb] at hk
      rename_i fields
      obtain ⟨hmap, _⟩ := hk
      obtain ⟨xs, f, _, _, hcl, hxl, hel⟩ := DataW.trod_struct hd hx
      have hlen : fs.length = fields.size := by rw [← hmap]; simp
      have hct : P.cellsOf t = z := by rw [szT_cells hT hi]; simp [szT, hi]
      have each : ∀ i, i < fs.length → ∃ q : List PV, ∀ p, fs[i]? = some p → (RPs w (fun _ => False) ((cs.drop p.1).take (szT T p.2)) q ∧ ∀ u ∈ (cs.drop p.1).take (szT T p.2), u.oneCell' = true) ∧ PT T p.2 q := by
        intro i hi2
        obtain ⟨fd, hfi⟩ : ∃ fd, fields[i]? = some fd := ⟨_, Array.getElem?_eq_getElem (by omega)⟩
        have hp : fs[i]? = some (fd.offset, fd.type) := by
          have : (fields.toList.map fun f => (f.offset, f.type))[i]? = some (fd.offset, fd.type) := by
            rw [List.getElem?_map, Array.getElem?_toList, hfi]; rfl
          rwa [hmap] at this
        have h1 := hel i _ hfi
        have h2 : xs[i]? = some (xs[i]'(by omega)) := List.getElem?_eq_getElem _
        rw [h2] at h1
        have hpl := hf _ (List.mem_of_getElem? hp)
        have hsz : P.cellsOf fd.type = szT T fd.type := by
          cases hte : tl T fd.type with
          | none => cases n <;> simp [plB, hte] at hpl
          | some ie => exact szT_cells hT hte
        rw [hsz] at h1
        obtain ⟨q, q1, q2⟩ := trod_pv hT n f _ _ _ hpl h1
        refine ⟨q, fun p hp2 => ?_⟩
        rw [hp] at hp2
        simp only [Option.some.injEq] at hp2
        subst hp2
        exact ⟨q1, q2⟩
      obtain ⟨qs, hq1, hq2⟩ := list_of fs.length each
      have hpt : PT T t qs.flatten := .struct hi rfl qs hq1 fun j f x hj hx => (hq2 j x hx f hj).2
      have hch := chunks (fs.map fun f => (f.1, szT T f.2)) qs 0 cs (by rw [hz, hcl, hct]) (by simp [hq1]) (fun j p q hj hq => by
        rw [List.getElem?_map] at hj
        cases hfj : fs[j]? with
        | none => simp [hfj] at hj
        | some f =>
          simp only [hfj, Option.map_some, Option.some.injEq] at hj
          subst hj
          exact (hq2 j q hq f hfj).1)
      rw [List.drop_zero] at hch
      exact ⟨_, hch, hpt⟩
    · cases h
def aggT (T : Tab) (t : TypeId) : Bool := match tl T t with | some i => i.k.agg | none => false
theorem arg_one (hT : TOk P T) {n : Nat} {t : TypeId} {v : Value} {d : DataW H} {ps : List MemPlace} {r : Reach} {b0 : Nat} (hval : Value.okWide P w r b0 t v) (h : DataW.Trod enc P w base (fun _ => true) held t v d ps) (hp : plB T n t = true) (ha : aggT T t = false) :
    ∃ p, RP w (fun _ => False) v p ∧ PT T t [p] := by
  obtain ⟨fuel, hf⟩ := h
  obtain ⟨qs, ⟨h1, _⟩, h3⟩ := trod_pv hT n fuel t _ _ hp hf
  have hc : v.cells.toList = [v] := by
    cases n with
    | zero => simp [plB] at hp
    | succ n =>
      simp only [plB] at hp
      split at hp
      · rename_i k z b y hi
        obtain ⟨x, rfl⟩ := okWide_int (hT.int hi rfl) hval
        rfl
      · rename_i z b y hi
        obtain ⟨x, rfl⟩ := okWide_bool (hT.bool hi rfl) hval
        rfl
      · rename_i e z b y hi
        obtain ⟨a, len, cap, rfl⟩ := okWide_slice (hT.slice hi rfl) hval
        rfl
      · rename_i m e z b y hi
        simp [aggT, hi, TK.agg] at ha
      · rename_i fs z b y hi
        simp [aggT, hi, TK.agg] at ha
      · cases hp
  rw [hc] at h1
  cases h1 with
  | cons v p vs cs h t => cases t with | nil => exact ⟨p, h, h3⟩
theorem arg_agg (hT : TOk P T) {n : Nat} {t : TypeId} {v : Value} {d : DataW H} {ps : List MemPlace} {r : Reach} {b0 : Nat} (hval : Value.okWide P w r b0 t v) (h : DataW.Trod enc P w base (fun _ => true) held t v d ps) (hp : plB T n t = true) (ha : aggT T t = true) :
    ∃ qs, RP w (fun _ => False) v (.agg qs) ∧ PT T t qs := by
  obtain ⟨fuel, hf⟩ := h
  obtain ⟨qs, ⟨h1, h2⟩, h3⟩ := trod_pv hT n fuel t _ _ hp hf
  have hc : ∃ cs : Array Value, v = .agg cs := by
    have : ∀ i, tl T t = some i → i.k.agg = true → ∃ cs : Array Value, v = .agg cs := by
      intro i hi hk
      obtain ⟨dd, hd, hb⟩ := hT.desc hi
      simp only [Value.okWide, hd] at hval
      cases hik : i.k <;> rw [hik] at hb hk <;> simp [TK.agg] at hk <;> cases dd <;> simp [kb] at hb <;> (obtain ⟨cs, h1, _⟩ := hval; exact ⟨cs, h1⟩)
    unfold aggT at ha
    split at ha
    · rename_i i hi; exact this i hi ha
    · cases ha
  obtain ⟨cs, rfl⟩ := hc
  have e : (Value.agg cs).cells.toList = cs.toList := rfl
  rw [e] at h1 h2
  refine ⟨qs, ?_, h3⟩
  have := RP.agg (w := w) (own := fun _ => False) cs.toList qs h2 h1
  simpa using this
theorem Kept.trod {W W' : World} (hk : Kept W W') {t : TypeId} (hl : laidOutB P = true) (hr : P.readableRec t = true) (hrow : t < P.types.size) {v : Value} {d : DataW H} {ps : List MemPlace}
    (h : DataW.Trod enc P W base (fun _ => true) true t v d ps) {sp : Nat → Bool} (hs : ∀ p ∈ ps, sp p.block = true) : DataW.Trod enc P W' base sp true t v d ps := by
  refine WideElems.Trod_stays hl hr hrow h (fun p hp => ?_) hs
  obtain ⟨fuel, hf⟩ := h
  have hlt := DataW.trod_lt fuel t _ _ hf p hp
  cases p with
  | cell b off => exact World.cell?_of_block (w := W) (hk.keep b hlt)
  | map b => exact hk.keep b hlt
end
end Go.V
