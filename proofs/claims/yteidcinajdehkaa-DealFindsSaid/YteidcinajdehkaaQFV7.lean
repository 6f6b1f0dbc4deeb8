/-
  THE ENGINE, PART 7: make, slice expressions, len, min, max, append, copy.
-/
import Derived.Test.YteidcinajdehkaaQFV6
set_option linter.unusedSimpArgs false
set_option linter.unusedVariables false
namespace Go.V
section ops
variable {P : Program} {T : Tab} {w : World} {ρ : Rho} {ob : Ob}
def makeSliceR (T : Tab) (ty : TypeId) (l c : D) (id : Nat) : R :=
  match elemT T ty, l, c with
  | some i, .v (.int _ l), .v (.int _ c) => .ok (.sl false id 0 l.toNat i.size) [(id, some (zobj i.zero l.toNat))] [id] [] (0 ≤ l ∧ l ≤ c ∧ c ≤ 1099511627776 ∧ i.bytes ≤ 256 ∧ 0 < i.size)
  | _, _, _ => .bad
theorem makeSlice_sound (hT : TOk P T) (hrep : Rep w ρ ob) (ty : TypeId) (x y : Operand) (ev : Operand → Value) (dx dy : D) (vx vy : Value) (hvx : ev x = vx) (hvy : ev y = vy) (hx : RD w (Own ρ ob) ρ vx dx) (hy : RD w (Own ρ ob) ρ vy dy) (o : Oper) (ho : o.op = .makeSlice ty x y) (id : Nat) :
    Outs ((execOp ev o).run P w) w ρ ob (makeSliceR T ty dx dy id) := by
  unfold makeSliceR
  split
  · rename_i i k1 l k2 c hi
    obtain ⟨e, h1, h2⟩ := elemT_ok hT hi
    obtain ⟨j, z, g1, g2, g3, g4, g5, g6⟩ := hT.info h2
    cases hx with | v _ _ hx => cases hy with | v _ _ hy =>
    cases hx; cases hy
    refine .alloc fun ⟨s1, s2, s3, s4, s5⟩ => ?_
    obtain ⟨l, rfl⟩ := Int.eq_ofNat_of_zero_le s1
    obtain ⟨c, rfl⟩ := Int.eq_ofNat_of_zero_le (Int.le_trans s1 s2)
    have hc1 : c ≤ 1099511627776 := by omega
    have hlc : l ≤ c := by omega
    have hcb : c * j.bytes ≤ 281474976710656 := by
      have : c * j.bytes ≤ 1099511627776 * 256 := Nat.mul_le_mul hc1 (by omega)
      omega
    have hwl : IntKind.i64.wrap (l : Int) = l := by simp [IntKind.wrap, IntKind.signed, IntKind.bits]; omega
    have hwc : IntKind.i64.wrap (c : Int) = c := by simp [IntKind.wrap, IntKind.signed, IntKind.bits]; omega
    have hz := zeros_RDs (w := w) (ρ := ρ) (own := Own ρ ob) g5 c
    have hzl : i.zero.length = i.size := by rw [← ((zbs_RDs (w := w) (ρ := ρ) (own := Own ρ ob) g5).1).len]; simp [g6]
    refine ⟨.slice (some ⟨w.heap.size, 0, none⟩) l c, w, (Array.range (c * z.cells.size)).map (z.cells[· % z.cells.size]!), e, hrep, Evo.refl _ _ _, ?_, ?_, fun q d hq => ?_, fun ρ' ob' hr => ?_⟩
    · have hneg : ¬ ((c : Int) < 0) := by omega
      have hneg2 : ¬ ((l : Int) < 0) := by omega
      have hbig : ¬ (281474976710656 < (j.bytes : Int) * c) := by
        have h3 := Int.ofNat_le.2 hcb
        rw [Int.natCast_mul, Int.mul_comm] at h3
        exact Int.not_lt.2 h3
      have hlc' : ¬ ((c : Int) < l) := by omega
      have hzero : (zeroValue e).run P w = .ok z w := by simp [zeroValue, typeInfo, g1, g4]
      by_cases h0 : c * i.size = 0
      · have e0 : c = 0 := by
          rcases Nat.mul_eq_zero.1 h0 with h | h
          · exact h
          · omega
        subst e0
        have l0 : l = 0 := by omega
        subst l0
        have e1 : ∀ f : Nat → Value, Array.map f (Array.range 0) = #[] := fun f => Array.eq_empty_of_size_eq_zero (by simp)
        simp [execOp, ho, hvx, hvy, Instr.makeSlice, run_underlying h1, asInt, asIntOf, typeInfo, g1, hT.sizeOf h2, newRow, IntKind.wrap, IntKind.signed, IntKind.bits, e1]
      · simp [execOp, ho, hvx, hvy, Instr.makeSlice, run_underlying h1, asInt, asIntOf, typeInfo, g1, hwl, hwc, hneg, hneg2, hbig, hlc', hT.sizeOf h2, h0, hzero, newRow, g6]
    · rw [zobj_cells, zrep_len]; simp [hzl, g6]; exact Nat.mul_le_mul_right _ hlc
    · rw [zobj_cells] at hq
      have hlt : q < l * i.zero.length := by
        rcases Nat.lt_or_ge q (l * i.zero.length) with hh | hh
        · exact hh
        · rw [List.getElem?_eq_none (by rw [zrep_len]; simpa using hh)] at hq; cases hq
      refine hz q d ?_
      rw [zrep_get _ _ _ (Nat.lt_of_lt_of_le hlt (Nat.mul_le_mul_right _ hlc))]
      have : ((l : Int)).toNat = l := by omega
      rw [this, zrep_get _ _ _ hlt] at hq
      exact hq
    · refine .sl false id 0 l i.size w.heap.size 0 c hr hlc (fun h => by cases h) (by simp only [maxLen]; omega) (.inr ⟨rfl, ?_⟩)
      unfold bsz; rw [heap_alloc_new w _]; simp [g6]
  · exact .bad
def lenR (x : D) : R :=
  match x with
  | .v .nl => .val (.v (.int .i64 0)) True
  | .v (.lst _ n _) => .val (.v (.int .i64 n)) True
  | .sl _ _ _ n _ => .val (.v (.int .i64 n)) True
  | _ => .bad
def lenSliceR (T : Tab) (argTypes : Array TypeId) (x : D) : R :=
  match argTypes[0]? with
  | some t => bif isSlice (tl T t) then lenR x else .bad
  | none => .bad
theorem isSlice_ok (hT : TOk P T) {t : TypeId} (h : isSlice (tl T t) = true) : ∃ e, P.underlying t = some (.slice e) := by
  unfold isSlice at h
  split at h
  · rename_i e a b c hi; exact ⟨e, hT.slice hi rfl⟩
  · cases h
theorem run_call (ev : Operand → Value) (o : Oper) (b : Builtin) (args : Array Operand) (ats : Array TypeId) (ho : o.op = .call { callee := .builtin b, args := args, argTypes := ats })
    (v : Value) (w' : World) (f : Array TypeId → TypeId → Array Value → Sem Value)
    (hf : ∀ c, builtin b ats o.type c (args.map ev) = (do pure (.value (← f ats o.type (args.map ev))))) (h : (f ats o.type (args.map ev)).run P w = .ok v w') :
    (execOp ev o).run P w = .ok (.value v) w' := by
  unfold execOp
  simp only [ho, resolve, Sem.run_bind, Sem.run_pure, Result.andThen_ok, invoke, hf, h]
theorem len_sound (hT : TOk P T) (hrep : Rep w ρ ob) (x : Operand) (ats : Array TypeId) (ev : Operand → Value) (dx : D) (vx : Value) (hvx : ev x = vx) (hx : RD w (Own ρ ob) ρ vx dx) (o : Oper)
    (ho : o.op = .call { callee := .builtin .len, args := #[x], argTypes := ats }) :
    Outs ((execOp ev o).run P w) w ρ ob (lenSliceR T ats dx) := by
  unfold lenSliceR
  split
  · rename_i t ht
    cases hs : isSlice (tl T t) with
    | false => exact .bad
    | true =>
      obtain ⟨e, he⟩ := isSlice_ok hT hs
      have hrun : ∀ a n c, vx = .slice a n c → (execOp ev o).run P w = .ok (.value (.int .i64 n)) w := by
        intro a n c hv
        refine run_call ev o .len #[x] ats ho _ _ Builtin.len_ (fun _ => rfl) ?_
        simp [Builtin.len_, ht, hvx, hv, run_underlying he, goInt]
      simp only [cond_true]
      unfold lenR
      split
      · cases hx with | v _ _ hx =>
        cases hx
        exact .val hrep fun _ => ⟨_, hrun _ _ _ rfl, .v _ _ (.int _ _)⟩
      · cases hx with | v _ _ hx =>
        cases hx <;> exact .val hrep fun _ => ⟨_, hrun _ _ _ rfl, .v _ _ (.int _ _)⟩
      · cases hx <;> exact .val hrep fun _ => ⟨_, hrun _ _ _ rfl, .v _ _ (.int _ _)⟩
      · exact .bad
  · exact .bad
def minI (a b : Int) : Int := if b < a then b else a
def maxI (a b : Int) : Int := if b > a then b else a
def mmR (mx : Bool) (ds : List D) : R :=
  match ds with
  | [.v (.int k a), .v (.int _ b)] => .val (.v (.int k (bif mx then maxI a b else minI a b))) True
  | [.v (.int k a), .v (.int _ b), .v (.int _ c)] => .val (.v (.int k (bif mx then maxI (maxI a b) c else minI (minI a b) c))) True
  | _ => .bad
theorem min_sound (hrep : Rep w ρ ob) (args : Array Operand) (ats : Array TypeId) (ev : Operand → Value) (de : Operand → D) (h : ∀ x ∈ args.toList, RD w (Own ρ ob) ρ (ev x) (de x)) (o : Oper)
    (ho : o.op = .call { callee := .builtin .min, args := args, argTypes := ats }) :
    Outs ((execOp ev o).run P w) w ρ ob (mmR false (args.toList.map de)) := by
  have hl := RDs.of_ev (w := w) (ρ := ρ) ev de args.toList h
  have hrun : ∀ v, (Builtin.min_ ats o.type (args.map ev)).run P w = .ok v w → (execOp ev o).run P w = .ok (.value v) w := fun v hv =>
    run_call ev o .min args ats ho _ _ Builtin.min_ (fun _ => rfl) hv
  unfold mmR
  split
  · rename_i k a k2 b he
    rw [he] at hl
    generalize hv : args.toList.map ev = vs at hl
    cases hl with | cons x _ vs _ h1 hl => cases hl with | cons y _ vs _ h2 hl =>
    cases hl
    cases h1 with | v _ _ h1 => cases h2 with | v _ _ h2 =>
    cases h1; cases h2
    exact .val hrep fun _ => ⟨.int k (minI a b), hrun _ (by simp [Builtin.min_, hv, Builtin.min2, minI]), .v _ _ (.int _ _)⟩
  · rename_i k a k2 b k3 c he
    rw [he] at hl
    generalize hv : args.toList.map ev = vs at hl
    cases hl with | cons x _ vs _ h1 hl => cases hl with | cons y _ vs _ h2 hl => cases hl with | cons z _ vs _ h3 hl =>
    cases hl
    cases h1 with | v _ _ h1 => cases h2 with | v _ _ h2 => cases h3 with | v _ _ h3 =>
    cases h1; cases h2; cases h3
    exact .val hrep fun _ => ⟨.int k (minI (minI a b) c), hrun _ (by simp [Builtin.min_, hv, Builtin.min2, minI]; rfl), .v _ _ (.int _ _)⟩
  · exact .bad
theorem max_sound (hrep : Rep w ρ ob) (args : Array Operand) (ats : Array TypeId) (ev : Operand → Value) (de : Operand → D) (h : ∀ x ∈ args.toList, RD w (Own ρ ob) ρ (ev x) (de x)) (o : Oper)
    (ho : o.op = .call { callee := .builtin .max, args := args, argTypes := ats }) :
    Outs ((execOp ev o).run P w) w ρ ob (mmR true (args.toList.map de)) := by
  have hl := RDs.of_ev (w := w) (ρ := ρ) ev de args.toList h
  have hrun : ∀ v, (Builtin.max_ ats o.type (args.map ev)).run P w = .ok v w → (execOp ev o).run P w = .ok (.value v) w := fun v hv =>
    run_call ev o .max args ats ho _ _ Builtin.max_ (fun _ => rfl) hv
  unfold mmR
  split
  · rename_i k a k2 b he
    rw [he] at hl
    generalize hv : args.toList.map ev = vs at hl
    cases hl with | cons x _ vs _ h1 hl => cases hl with | cons y _ vs _ h2 hl =>
    cases hl
    cases h1 with | v _ _ h1 => cases h2 with | v _ _ h2 =>
    cases h1; cases h2
    exact .val hrep fun _ => ⟨.int k (maxI a b), hrun _ (by simp [Builtin.max_, hv, Builtin.max2, maxI]), .v _ _ (.int _ _)⟩
  · rename_i k a k2 b k3 c he
    rw [he] at hl
    generalize hv : args.toList.map ev = vs at hl
    cases hl with | cons x _ vs _ h1 hl => cases hl with | cons y _ vs _ h2 hl => cases hl with | cons z _ vs _ h3 hl =>
    cases hl
    cases h1 with | v _ _ h1 => cases h2 with | v _ _ h2 => cases h3 with | v _ _ h3 =>
    cases h1; cases h2; cases h3
    exact .val hrep fun _ => ⟨.int k (maxI (maxI a b) c), hrun _ (by simp [Builtin.max_, hv, Builtin.max2, maxI]), .v _ _ (.int _ _)⟩
  · exact .bad
end ops
end Go.V
