/-
  THE ENGINE, PART 6: the operations, the rest: slices made, cut, appended to, copied.
-/
import Derived.Test.YteidcinajdehkaaQFV5
set_option linter.unusedSimpArgs false
set_option linter.unusedVariables false
namespace Go.V
section ops
variable {P : Program} {T : Tab} {w : World} {ρ : Rho} {ob : Ob}
def zrep (zs : List D) : Nat → List D
  | 0 => []
  | n + 1 => zs ++ zrep zs n
theorem zrep_len (zs : List D) : ∀ n, (zrep zs n).length = n * zs.length
  | 0 => by simp [zrep]
  | n + 1 => by simp [zrep, zrep_len zs n, Nat.add_mul]; omega
theorem zrep_get (zs : List D) : ∀ (n j : Nat), j < n * zs.length → (zrep zs n)[j]? = zs[j % zs.length]?
  | 0, j, h => by omega
  | n + 1, j, h => by
    rw [zrep, List.getElem?_append]
    by_cases hj : j < zs.length
    · rw [if_pos hj, Nat.mod_eq_of_lt hj]
    · rw [if_neg hj, zrep_get zs n _ (by rw [Nat.add_mul] at h; omega), ← Nat.mod_eq_sub_mod (by omega)]
def zobj (zs : List D) (n : Nat) : AObj :=
  match zs with
  | [.v z] => .p (List.replicate n z)
  | zs => objOf (zrep zs n)
theorem zobj_cells (zs : List D) (n : Nat) : (zobj zs n).cells = zrep zs n := by
  have hs : ∀ z, List.map D.v (List.replicate n z) = zrep [.v z] n := by
    intro z
    induction n with
    | zero => rfl
    | succ n ih => simp [List.replicate_succ, zrep, ← ih]
  unfold zobj
  split
  · exact hs _
  · exact objOf_cells _
theorem zeros_RDs {own : Nat → Prop} {z : Array Value} {zs : List D} (h : zbs z.toList zs = true) (n : Nat) :
    ∀ (j : Nat) (d : D), (zrep zs n)[j]? = some d → ∃ u : Value, ((Array.range (n * z.size)).map (z[· % z.size]!))[j]? = some u ∧ u.oneCell' = true ∧ RD w own ρ u d := by
  obtain ⟨h1, h2⟩ := zbs_RDs (w := w) (ρ := ρ) (own := own) h
  intro j d hj
  have hlen : zs.length = z.size := by rw [← h1.len]; simp
  have hlt : j < n * zs.length := by
    rcases Nat.lt_or_ge j (n * zs.length) with hh | hh
    · exact hh
    · rw [List.getElem?_eq_none (by rw [zrep_len]; exact hh)] at hj; cases hj
  rw [zrep_get zs n j hlt] at hj
  obtain ⟨u, hu, hr⟩ := h1.get hj
  have hpos : 0 < z.size := by
    rcases Nat.eq_zero_or_pos z.size with e | e
    · rw [hlen, e] at hlt; omega
    · exact e
  have hm : j % z.size < z.size := Nat.mod_lt _ hpos
  rw [hlen] at hu hlt
  have hu' : z[j % z.size]? = some u := by simpa using hu
  refine ⟨u, ?_, h2 u (List.mem_of_getElem? hu), hr⟩
  simp only [Array.getElem?_map, Array.getElem?_range, hlt, if_true, Option.map_some, Option.some.injEq]
  rw [getElem!_pos z _ hm]
  exact (Array.getElem?_eq_some_iff.1 hu').2
def elemT (T : Tab) (ty : TypeId) : Option TI :=
  match tl T ty with
  | some ⟨.slice e, _, _, _⟩ => tl T e
  | _ => none
theorem elemT_ok (hT : TOk P T) {ty : TypeId} {i : TI} (h : elemT T ty = some i) : ∃ e, P.underlying ty = some (.slice e) ∧ tl T e = some i := by
  unfold elemT at h
  split at h
  · rename_i e i1 i2 i3 hi; exact ⟨e, hT.slice hi rfl, h⟩
  · cases h
def buildSliceR (T : Tab) (ty : TypeId) (len : Nat) (parts : List (Nat × D)) (id : Nat) : R :=
  match elemT T ty with
  | none => .bad
  | some i =>
    match fillD (fun m => some (m * i.size, i.size)) (zrep i.zero len) parts with
    | some out => .ok (.sl true id 0 len i.size) [(id, some (objOf out))] [id] [] (len * i.size ≤ 16777216 ∧ 0 < i.size)
    | none => .bad
theorem buildSlice_sound (hT : TOk P T) (hrep : Rep w ρ ob) (ty : TypeId) (len : Nat) (parts : Array (Nat × Operand)) (ev : Operand → Value) (de : Operand → D) (h : ∀ x ∈ parts.toList, RD w (Own ρ ob) ρ (ev x.2) (de x.2)) (o : Oper) (ho : o.op = .buildSlice ty len parts) (id : Nat) :
    Outs ((execOp ev o).run P w) w ρ ob (buildSliceR T ty len (parts.toList.map fun x => (x.1, de x.2)) id) := by
  unfold buildSliceR
  split
  · exact .bad
  · rename_i i hi
    split
    · rename_i out hout
      obtain ⟨e, h1, h2⟩ := elemT_ok hT hi
      obtain ⟨j, z, g1, g2, g3, g4, g5, g6⟩ := hT.info h2
      refine .alloc fun hside => ?_
      have hz := zeros_RDs (w := w) (ρ := ρ) (own := Own ρ ob) g5 len
      rw [g6] at hz
      have hlen0 : (zrep i.zero len).length = len * i.size := by
        rw [zrep_len, ← ((zbs_RDs (w := w) (ρ := ρ) (own := Own ρ ob) g5).1).len]; simp [g6]
      let c0 : Array Value := (Array.range (len * i.size)).map (z.cells[· % i.size]!)
      have hc0 : ∀ (j : Nat) (d : D), (zrep i.zero len)[j]? = some d → ∃ u : Value, c0[j]? = some u ∧ u.oneCell' = true ∧ RD w (Own ρ ob) ρ u d := hz
      have hsz0 : c0.size = len * i.size := by simp [c0]
      have hr0 : RDs w (Own ρ ob) ρ c0.toList (zrep i.zero len) := RDs.mk (by simp [hlen0, hsz0]) (fun j v d hv hd => by
        obtain ⟨u, hu, _, hr⟩ := hc0 j d hd
        rw [show c0.toList[j]? = c0[j]? by simp, hu] at hv
        cases hv; exact hr)
      have h10 : ∀ u ∈ c0.toList, u.oneCell' = true := by
        intro u hu
        obtain ⟨j, hj, rfl⟩ := List.mem_iff_getElem.1 hu
        have hj' : j < (zrep i.zero len).length := by rw [hlen0, ← hsz0]; simpa using hj
        obtain ⟨u', hu', h1', _⟩ := hc0 j _ (List.getElem?_eq_getElem hj')
        have : c0.toList[j] = u' := by
          have := (Array.getElem?_eq_some_iff.1 hu').2
          simpa using this
        rw [this]; exact h1'
      obtain ⟨c', hc1, hc2, hc3, hc4⟩ := fill_sound (fun m => some (m * i.size, i.size)) parts.toList ev de c0 _ out h hr0 h10 hout
      have hv : c' = c'.toList.toArray := by simp
      refine ⟨.slice (some ⟨w.heap.size, 0, none⟩) len len, w, c', e, hrep, Evo.refl _ _ _, ?_, by rw [objOf_cells, ← hc3.len]; simp, by rw [objOf_cells, hv]; exact hc3.cells hc4, fun ρ' ob' hr => ?_⟩
      · have hzero : (zeroValue e).run P w = .ok z w := by simp [zeroValue, typeInfo, g1, g4]
        simp only [execOp, ho, Instr.buildSlice, Sem.run_bind, run_underlying h1 w, Result.andThen_ok, hT.sizeOf h2]
        rw [if_neg (by omega)]
        by_cases h0 : len * i.size = 0
        · have e0 : c0 = #[] := by simp [c0, h0]
          rw [e0] at hc1
          have e1 : Array.map (fun (_ : Nat) => (default : Value)) (Array.range 0) = #[] := Array.eq_empty_of_size_eq_zero (by simp)
          simp [h0, e1, hc1, newRow]
        · have e0 : ((Array.range (len * i.size)).map (z.cells[· % z.cells.size]!)) = c0 := by simp only [g6, c0]
          simp [h0, hzero, e0, hc1, newRow]
      · refine .sl true id 0 len i.size w.heap.size 0 len hr (Nat.le_refl _) (fun _ => rfl) ?_ (.inr ⟨rfl, ?_⟩)
        · have : len ≤ len * i.size := Nat.le_mul_of_pos_right _ hside.2
          simp only [maxLen]; omega
        · unfold bsz; rw [heap_alloc_new w _]; simp only [Nat.zero_add]; rw [hc2, hsz0]; exact Nat.le_refl _
    · exact .bad
end ops
end Go.V
