/-
  THE ENGINE, PART 14: one operation's row, computed; items still to do; the rules.
-/
import Derived.Test.YteidcinajdehkaaQFV13
set_option linter.unusedSimpArgs false
set_option linter.unusedVariables false
namespace Go.V
def constP : Value → Option PV
  | .int k n => some (.int k n)
  | .bool b => some (.bool b)
  | .string s => some (.str s)
  | .slice none 0 0 => some .nl
  | _ => none
def constPs : List Value → Option (List PV)
  | [] => some []
  | v :: vs => match constP v, constPs vs with | some p, some ps => some (p :: ps) | _, _ => none
def constD : Value → D
  | .int k n => .v (.int k n)
  | .bool b => .v (.bool b)
  | .string s => .v (.str s)
  | .slice none 0 0 => .v .nl
  | .nilIface => .v (.fn 999999 [])
  | .pointer none => .v (.fn 999999 [.bool true])
  | .agg cs => match constPs cs.toList with | some ps => .v (.agg ps) | none => .dead
  | _ => .dead
section
variable {w : World} {own : Nat → Prop} {ρ : Rho}
theorem constP_RP {v : Value} {p : PV} (h : constP v = some p) : RP w own v p ∧ v.oneCell' = true := by
  unfold constP at h
  split at h <;> simp only [Option.some.injEq, reduceCtorEq] at h <;> subst h
  · exact ⟨.int _ _, rfl⟩
  · exact ⟨.bool _, rfl⟩
  · exact ⟨.str _, rfl⟩
  · exact ⟨.nl, rfl⟩
theorem constPs_RPs : ∀ {vs : List Value} {ps : List PV}, constPs vs = some ps → RPs w own vs ps ∧ ∀ u ∈ vs, u.oneCell' = true
  | [], ps, h => by simp only [constPs, Option.some.injEq] at h; subst h; exact ⟨.nil, by simp⟩
  | v :: vs, ps, h => by
    simp only [constPs] at h
    split at h
    · rename_i p qs h1 h2
      simp only [Option.some.injEq] at h; subst h
      obtain ⟨a1, a2⟩ := constP_RP (w := w) (own := own) h1
      obtain ⟨b1, b2⟩ := constPs_RPs h2
      exact ⟨.cons v p vs qs a1 b1, fun u hu => by rcases List.mem_cons.1 hu with rfl | hu; · exact a2
                                                   · exact b2 u hu⟩
    · cases h
theorem constD_RD (v : Value) : RD w own ρ v (constD v) := by
  unfold constD
  split
  · exact .v _ _ (.int _ _)
  · exact .v _ _ (.bool _)
  · exact .v _ _ (.str _)
  · exact .v _ _ .nl
  · exact .v _ _ .nif
  · exact .v _ _ .np
  · rename_i cs
    split
    · rename_i ps h
      obtain ⟨h1, h2⟩ := constPs_RPs (w := w) (own := own) h
      have : cs = cs.toList.toArray := by simp
      rw [this]
      exact .v _ _ (.agg _ _ h2 h1)
    · exact .dead _
  · exact .dead _
end
def evG (get : Nat → D) : Operand → D
  | .tmp t => get t
  | .const v => constD v
  | .func f => bif Nat.blt f 999999 then .v (.fn f []) else .dead
  | .global g => match glk Gv g with | some cs => .v (.ipt cs) | none => .dead
def slotOf : Operand → List Nat
  | .tmp t => [t]
  | _ => []
theorem ev_RD {w : World} {own : Nat → Prop} {ρ : Rho} {a : Act} {get : Nat → D} (hg : ∀ x ∈ Gv, RC w own x.1 0 x.2) (x : Operand) (h : ∀ s ∈ slotOf x, RD w own ρ (a.tmps.getD s undef) (get s)) : RD w own ρ (a.eval x) (evG get x) := by
  cases x with
  | tmp t => exact h t (by simp [slotOf])
  | const v => exact constD_RD v
  | func f =>
    show RD w own ρ (.func (.func f) #[] #[]) (bif Nat.blt f 999999 then .v (.fn f []) else .dead)
    cases hlt : Nat.blt f 999999 with
    | false => exact .dead _
    | true => exact .v _ _ (.fn f (by simpa [Nat.blt_eq] using hlt) [] [] .nil)
  | global g =>
    show RD w own ρ (.pointer (some ⟨g, 0, none⟩)) (match glk Gv g with | some cs => .v (.ipt cs) | none => .dead)
    cases hx : glk Gv g with
    | none => exact .dead _
    | some cs => exact .v _ _ (.ipt g 0 cs (hg _ (glk_mem hx)))
def callR (T : Tab) (get : Nat → D) (ob : Ob) (b : Builtin) (args : List Operand) (ats : Array TypeId) (id : Nat) : R :=
  match b, args with
  | .len, [x] => lenSliceR T ats (evG get x).norm
  | .append, [x, y] => appendY T (ob) ats (evG get x) (evG get y) id
  | .copy, [x, y] => copyR T (ob) ats (evG get x).norm (evG get y).norm
  | .clear, [x] => clearR T ob ats (evG get x).norm
  | .cap, [x] => capR T ats (evG get x)
  | .min, l => mmR false (l.map (evG get))
  | .max, l => mmR true (l.map (evG get))
  | _, _ => .bad
def opR (T : Tab) (get : Nat → D) (ob : Ob) (op : Op) (id : Nat) : R :=
  match op with
  | .move x => .val (evG get x) True
  | .assign x => .val (evG get x) True
  | .pick c x y => pickR (evG get c) (evG get x) (evG get y)
  | .binOp b ty x y _ => binR T b ty (evG get x).norm (evG get y).norm
  | .unOp u _ x => unR u (evG get x)
  | .convert s d x => convR T s d (evG get x)
  | .load ty x => loadR T (ob) ty (evG get x)
  | .store ty x y => storeR T (ob) ty (evG get x) (evG get y)
  | .box _ x => boxR (evG get x) id
  | .alloc ty => allocR T ty id
  | .build ty ps => buildR T ty (ps.toList.map fun x => (x.1, evG get x.2))
  | .buildSlice ty n ps => buildSliceR T ty n (ps.toList.map fun x => (x.1, evG get x.2)) id
  | .makeSlice ty x y => makeSliceR T ty (evG get x) (evG get y) id
  | .slice ty x l h m => sliceX T ob ty (evG get x) (l.map (evG get)) (h.map (evG get)) (m.map (evG get))
  | .fieldAddr s x f => fieldAddrR T s f (evG get x)
  | .indexAddr ty x i => indexAddrR T ty (evG get x).norm (evG get i)
  | .extract x i => extractR (evG get x) i
  | .nilCheck x => nilCheckR (evG get x)
  | .makeFunc f first cap => makeFuncR f (first.toList.map (evG get)) (cap.toList.map (evG get))
  | .makeInterface ty x => makeIfaceR T ty (evG get x)
  | .index ty x y => indexR T ty (evG get x) (evG get y)
  | .typeAssert x _ ty ok => typeAssertR T (evG get x) ty ok
  | .call ⟨.builtin b, args, ats⟩ => callR T get ob b args.toList ats id
  | _ => .bad
def opSlots (op : Op) : List Nat :=
  match op with
  | .build _ ps | .buildSlice _ _ ps => ps.toList.flatMap fun x => slotOf x.2
  | .makeFunc _ first cap => first.toList.flatMap slotOf ++ cap.toList.flatMap slotOf
  | .slice _ x l h m => slotOf x ++ l.toList.flatMap slotOf ++ h.toList.flatMap slotOf ++ m.toList.flatMap slotOf
  | .call ⟨.builtin _, args, _⟩ => args.toList.flatMap slotOf
  | .call ⟨.value f, args, _⟩ => slotOf f ++ args.toList.flatMap slotOf
  | .call ⟨.invoke x _, args, _⟩ => slotOf x ++ args.toList.flatMap slotOf
  | .move x | .assign x | .unOp _ _ x | .convert _ _ x | .load _ x | .box _ x | .fieldAddr _ x _ | .extract x _ | .nilCheck x | .makeInterface _ x | .typeAssert x _ _ _ => slotOf x
  | .pick c x y => slotOf c ++ slotOf x ++ slotOf y
  | .binOp _ _ x y _ | .store _ x y | .makeSlice _ x y | .indexAddr _ x y | .index _ x y => slotOf x ++ slotOf y
  | _ => []
section sound
variable {P : Program} {T : Tab} {w : World} {ρ : Rho}
theorem opR_sound (hT : TOk P T) {get : Nat → D} {ob : Ob} {a : Act} (hrep : Rep w ρ ob) (o : Oper) (id : Nat) (h : ∀ s ∈ opSlots o.op, RD w (Own ρ ob) ρ (a.tmps.getD s undef) (get s)) :
    Outs ((execOp a.eval o).run P w) w ρ (ob) (opR T get ob o.op id) := by
  cases ho : o.op with
  | move x => rw [ho] at h; exact move_sound hrep x a.eval _ _ rfl (ev_RD hrep.glob x h) o (.inl ho)
  | assign x => rw [ho] at h; exact move_sound hrep x a.eval _ _ rfl (ev_RD hrep.glob x h) o (.inr ho)
  | pick c x y =>
    rw [ho] at h
    exact pick_sound hrep c x y a.eval _ _ _ _ rfl (ev_RD hrep.glob c fun s hs => h s (by simp [opSlots, hs])) (ev_RD hrep.glob x fun s hs => h s (by simp [opSlots, hs])) (ev_RD hrep.glob y fun s hs => h s (by simp [opSlots, hs])) o ho
  | binOp b ty x y ty2 =>
    rw [ho] at h
    exact bin_sound hT hrep b ty ty2 x y a.eval _ _ _ _ rfl rfl (ev_RD hrep.glob x fun s hs => h s (by simp [opSlots, hs])).norm (ev_RD hrep.glob y fun s hs => h s (by simp [opSlots, hs])).norm o ho
  | unOp u ty x => rw [ho] at h; exact un_sound hrep u ty x a.eval _ _ rfl (ev_RD hrep.glob x h) o ho
  | convert s d x => rw [ho] at h; exact conv_sound hT hrep s d x a.eval _ _ rfl (ev_RD hrep.glob x h) o ho
  | load ty x => rw [ho] at h; exact load_sound hT hrep ty x a.eval _ _ rfl (ev_RD hrep.glob x h) o ho
  | store ty x y =>
    rw [ho] at h
    exact store_sound hT hrep ty x y a.eval _ _ _ _ rfl rfl (ev_RD hrep.glob x fun s hs => h s (by simp [opSlots, hs])) (ev_RD hrep.glob y fun s hs => h s (by simp [opSlots, hs])) o ho
  | box ty x => rw [ho] at h; exact box_sound hrep ty x a.eval _ _ rfl (ev_RD hrep.glob x h) o ho id
  | alloc ty => exact alloc_sound hT hrep ty a.eval o ho id
  | build ty ps =>
    rw [ho] at h
    exact build_sound hT hrep ty ps a.eval (evG get) (fun x hx => ev_RD hrep.glob x.2 fun s hs => h s (by simp only [opSlots, List.mem_flatMap]; exact ⟨x, hx, hs⟩)) o ho
  | buildSlice ty n ps =>
    rw [ho] at h
    exact buildSlice_sound hT hrep ty n ps a.eval (evG get) (fun x hx => ev_RD hrep.glob x.2 fun s hs => h s (by simp only [opSlots, List.mem_flatMap]; exact ⟨x, hx, hs⟩)) o ho id
  | makeSlice ty x y =>
    rw [ho] at h
    exact makeSlice_sound hT hrep ty x y a.eval _ _ _ _ rfl rfl (ev_RD hrep.glob x fun s hs => h s (by simp [opSlots, hs])) (ev_RD hrep.glob y fun s hs => h s (by simp [opSlots, hs])) o ho id
  | slice ty x l hh m =>
    rw [ho] at h
    exact sliceX_sound hT hrep ty x l hh m a.eval (evG get) _ rfl (ev_RD hrep.glob x fun s hs => h s (by simp [opSlots, hs]))
      (fun y hy => ev_RD hrep.glob y fun s hs => h s (by simp [opSlots, hy, hs])) (fun y hy => ev_RD hrep.glob y fun s hs => h s (by simp [opSlots, hy, hs])) (fun y hy => ev_RD hrep.glob y fun s hs => h s (by simp [opSlots, hy, hs])) o ho
  | fieldAddr s x f => rw [ho] at h; exact fieldAddr_sound hT hrep s f x a.eval _ _ rfl (ev_RD hrep.glob x h) o ho
  | indexAddr ty x i =>
    rw [ho] at h
    exact indexAddr_sound hT hrep ty x i a.eval _ _ _ _ rfl rfl (ev_RD hrep.glob x fun s hs => h s (by simp [opSlots, hs])).norm (ev_RD hrep.glob i fun s hs => h s (by simp [opSlots, hs])) o ho
  | extract x i => rw [ho] at h; exact extract_sound hrep x i a.eval _ _ rfl (ev_RD hrep.glob x h) o ho
  | index ty x y =>
    rw [ho] at h
    exact index_sound hT hrep ty x y a.eval _ _ _ _ rfl rfl (ev_RD hrep.glob x fun s hs => h s (by simp [opSlots, hs])) (ev_RD hrep.glob y fun s hs => h s (by simp [opSlots, hs])) o ho
  | makeInterface ty x => rw [ho] at h; exact makeIface_sound hT hrep ty x a.eval _ _ rfl (ev_RD hrep.glob x h) o ho
  | typeAssert x xt ty ok => rw [ho] at h; exact typeAssert_sound hT hrep x xt ty ok a.eval _ _ rfl (ev_RD hrep.glob x h) o ho
  | nilCheck x => rw [ho] at h; exact nilCheck_sound hrep x a.eval _ _ rfl (ev_RD hrep.glob x h) o ho
  | makeFunc f first cap =>
    rw [ho] at h
    exact makeFunc_sound hrep f first cap a.eval (evG get) (fun x hx => ev_RD hrep.glob x fun s hs => h s (by simp only [opSlots, List.mem_append, List.mem_flatMap]; exact .inl ⟨x, hx, hs⟩)) (fun x hx => ev_RD hrep.glob x fun s hs => h s (by simp only [opSlots, List.mem_append, List.mem_flatMap]; exact .inr ⟨x, hx, hs⟩)) o ho
  | call c =>
    obtain ⟨callee, args, ats⟩ := c
    cases callee with
    | builtin b =>
      rw [ho] at h
      have hargs : ∀ x ∈ args.toList, RD w (Own ρ ob) ρ (a.eval x) (evG get x) := fun x hx => ev_RD hrep.glob x fun s hs => h s (by simp only [opSlots, List.mem_flatMap]; exact ⟨x, hx, hs⟩)
      have hA : args = args.toList.toArray := by simp
      simp only [opR, callR]
      split
      · rename_i x hl
        rw [hl] at hA hargs
        exact len_sound hT hrep x ats a.eval _ _ rfl (hargs x (by simp)).norm o (by rw [ho, hA])
      · rename_i x y hl
        rw [hl] at hA hargs
        exact appendY_sound hT hrep x y ats a.eval _ _ _ _ rfl rfl (hargs x (by simp)) (hargs y (by simp)) o (by rw [ho, hA]) id
      · rename_i x y hl
        rw [hl] at hA hargs
        exact copy_sound hT hrep x y ats a.eval _ _ _ _ rfl rfl (hargs x (by simp)).norm (hargs y (by simp)).norm o (by rw [ho, hA])
      · rename_i x hl
        rw [hl] at hA hargs
        exact clear_sound hT hrep x ats a.eval _ _ rfl (hargs x (by simp)).norm o (by rw [ho, hA])
      · rename_i x hl
        rw [hl] at hA hargs
        exact cap_sound hT hrep x ats a.eval _ _ rfl (hargs x (by simp)) o (by rw [ho, hA])
      · exact min_sound hrep args ats a.eval (evG get) hargs o ho
      · exact max_sound hrep args ats a.eval (evG get) hargs o ho
      · exact .bad
    | _ => exact .bad
  | _ => exact .bad
theorem loadR_congr {ob ob2 : Ob} {ty : TypeId} {x d : D} {wr : List (Nat × Option AObj)} {al rd : List Nat} {side : Prop} (h : loadR T ob ty x = .ok d wr al rd side) (hag : ∀ i ∈ rd, ∀ y, ob i = some y → ob2 i = some y) : loadR T ob2 ty x = .ok d wr al rd side := by
  unfold loadR at h ⊢
  split at h
  · cases h
  rename_i i hi
  split at h
  · exact h
  · rename_i id off
    split at h
    · rename_i cs ho
      have h2 : ob2 id = some (.p cs) := hag id (by cases hk : i.k.agg <;> simp only [hk, cond_true, cond_false, R.ok.injEq] at h <;> (rw [← h.2.2.2.1]; simp)) _ ho
      simp only [h2]; exact h
    · rename_i cs ho
      have h2 : ob2 id = some (.r cs) := hag id (by cases hk : i.k.agg <;> simp only [hk, cond_true, cond_false, R.ok.injEq] at h <;> (rw [← h.2.2.2.1]; simp)) _ ho
      simp only [h2]; exact h
    · cases h
  · cases h
theorem storeR_congr {ob ob2 : Ob} {ty : TypeId} {x y d : D} {wr : List (Nat × Option AObj)} {al rd : List Nat} {side : Prop} (h : storeR T ob ty x y = .ok d wr al rd side) (hag : ∀ i ∈ rd, ∀ y, ob i = some y → ob2 i = some y) : storeR T ob2 ty x y = .ok d wr al rd side := by
  unfold storeR at h ⊢
  split at h
  · rename_i i id off n hi hb
    split at h
    · rename_i o ho
      have h2 : ob2 id = some o := hag id (by simp only [R.ok.injEq] at h; rw [← h.2.2.2.1]; simp) _ ho
      simp only [h2]; exact h
    · cases h
  · cases h
theorem srcR_congr {ob ob2 : Ob} {x : D} {sz m : Nat} {news : AObj} {rd : List Nat} (h : srcR ob x sz = some (m, news, rd)) (hag : ∀ i ∈ rd, ∀ y, ob i = some y → ob2 i = some y) : srcR ob2 x sz = some (m, news, rd) := by
  unfold srcR at h ⊢
  split at h
  · exact h
  · exact h
  · rename_i f id off n sz'
    cases hs : sz' == sz with
    | false => simp [hs] at h
    | true =>
      simp only [hs, cond_true] at h ⊢
      split at h
      · rename_i o ho
        have h2 : ob2 id = some o := hag id (by simp only [Option.some.injEq, Prod.mk.injEq] at h; rw [← h.2.2]; simp) _ ho
        simp only [h2]; exact h
      · cases h
  · cases h
theorem appendR_congr {ob ob2 : Ob} {ats : Array TypeId} {s x d : D} {id : Nat} {wr : List (Nat × Option AObj)} {al rd : List Nat} {side : Prop} (h : appendR T ob ats s x id = .ok d wr al rd side) (hag : ∀ i ∈ rd, ∀ y, ob i = some y → ob2 i = some y) : appendR T ob2 ats s x id = .ok d wr al rd side := by
  unfold appendR at h ⊢
  split at h
  · cases h
  rename_i t ht
  split at h
  · cases h
  rename_i i hi
  split at h
  · cases h
  rename_i m news rd' hs
  have sub : (∀ j ∈ rd', j ∈ rd) → srcR ob2 x i.size = some (m, news, rd') := fun hsub => srcR_congr hs (fun j hj y hy => hag j (hsub j hj) y hy)
  split at h
  · rw [sub (by simp only [R.ok.injEq] at h; rw [← h.2.2.2.1]; exact fun _ h => h)]; exact h
  · rw [sub (by simp only [R.ok.injEq] at h; rw [← h.2.2.2.1]; exact fun _ h => h)]; exact h
  · rename_i f sid off n sz
    split at h
    · rename_i o ho
      have hrd : rd = sid :: rd' := by simp only [R.ok.injEq] at h; exact h.2.2.2.1.symm
      rw [sub (by rw [hrd]; exact fun _ h => List.mem_cons_of_mem _ h)]
      have h2 : ob2 sid = some o := hag sid (by rw [hrd]; simp) _ ho
      simp only [h2]; exact h
    · cases h
  · cases h
theorem copyR_congr {ob ob2 : Ob} {ats : Array TypeId} {s x d : D} {wr : List (Nat × Option AObj)} {al rd : List Nat} {side : Prop} (h : copyR T ob ats s x = .ok d wr al rd side) (hag : ∀ i ∈ rd, ∀ y, ob i = some y → ob2 i = some y) : copyR T ob2 ats s x = .ok d wr al rd side := by
  unfold copyR at h ⊢
  split at h
  · cases h
  rename_i t ht
  split at h
  · cases h
  rename_i i hi
  split at h
  · rename_i m news rd' f sid off n sz hs
    split at h
    · rename_i o ho
      have hrd : rd = sid :: rd' := by simp only [R.ok.injEq] at h; exact h.2.2.2.1.symm
      rw [srcR_congr hs (fun j hj y hy => hag j (by rw [hrd]; exact List.mem_cons_of_mem _ hj) y hy)]
      have h2 : ob2 sid = some o := hag sid (by rw [hrd]; simp) _ ho
      simp only [h2]; exact h
    · cases h
  · cases h
theorem appendX_congr {ob ob2 : Ob} {ats : Array TypeId} {s x d : D} {id : Nat} {wr : List (Nat × Option AObj)} {al rd : List Nat} {side : Prop} (h : appendX T ob ats s x id = .ok d wr al rd side) (hag : ∀ i ∈ rd, ∀ y, ob i = some y → ob2 i = some y) : appendX T ob2 ats s x id = .ok d wr al rd side := by
  unfold appendX at h ⊢
  split at h
  · rename_i sid off n room sz
    split at h
    · cases h
    rename_i t ht
    split at h
    · cases h
    rename_i i hi
    split at h
    · rename_i m news rd' o hs ho
      cases hroom : Nat.ble (n + m) room with
      | true =>
        simp only [hroom, cond_true] at h
        have hrd : rd = sid :: rd' := by simp only [R.ok.injEq] at h; exact h.2.2.2.1.symm
        rw [srcR_congr hs (fun j hj y hy => hag j (by rw [hrd]; exact List.mem_cons_of_mem _ hj) y hy), hag sid (by rw [hrd]; simp) _ ho]
        simp only [hroom, cond_true]; exact h
      | false =>
        simp only [hroom, cond_false] at h
        have hrd : rd = sid :: rd' := by
          simp only [appendR, D.norm, ht, hi, hs, ho, R.ok.injEq] at h; exact h.2.2.2.1.symm
        rw [srcR_congr hs (fun j hj y hy => hag j (by rw [hrd]; exact List.mem_cons_of_mem _ hj) y hy), hag sid (by rw [hrd]; simp) _ ho]
        simp only [hroom, cond_false]; exact appendR_congr h hag
    · cases h
  · rename_i sid off n sz
    split at h
    · cases h
    rename_i t ht
    split at h
    · cases h
    rename_i i hi
    split at h
    · rename_i m news rd' o hs ho
      cases hroom : Nat.blt 0 m with
      | true =>
        simp only [hroom, cond_true] at h
        have hrd : rd = sid :: rd' := by simp only [R.ok.injEq] at h; exact h.2.2.2.1.symm
        rw [srcR_congr hs (fun j hj y hy => hag j (by rw [hrd]; exact List.mem_cons_of_mem _ hj) y hy), hag sid (by rw [hrd]; simp) _ ho]
        simp only [hroom, cond_true]; exact h
      | false =>
        simp only [hroom, cond_false] at h
        have hrd : rd = sid :: rd' := by
          simp only [appendR, ht, hi, hs, ho, R.ok.injEq] at h; exact h.2.2.2.1.symm
        rw [srcR_congr hs (fun j hj y hy => hag j (by rw [hrd]; exact List.mem_cons_of_mem _ hj) y hy), hag sid (by rw [hrd]; simp) _ ho]
        simp only [hroom, cond_false]; exact appendR_congr h hag
    · cases h
  · exact appendR_congr h hag
theorem clearR_congr {ob ob2 : Ob} {ats : Array TypeId} {s d : D} {wr : List (Nat × Option AObj)} {al rd : List Nat} {side : Prop} (h : clearR T ob ats s = .ok d wr al rd side) (hag : ∀ i ∈ rd, ∀ y, ob i = some y → ob2 i = some y) : clearR T ob2 ats s = .ok d wr al rd side := by
  unfold clearR at h ⊢
  split at h
  · cases h
  rename_i t ht
  split at h
  · rename_i i f sid off n sz hi
    split at h
    · rename_i o ho
      have hrd : rd = [sid] := by simp only [R.ok.injEq] at h; exact h.2.2.2.1.symm
      rw [hag sid (by rw [hrd]; simp) _ ho]
      exact h
    · cases h
  · cases h
theorem sliceX_congr {ob ob2 : Ob} {ty : TypeId} {x d : D} {lo hi mx : Option D} {wr : List (Nat × Option AObj)} {al rd : List Nat} {side : Prop} (h : sliceX T ob ty x lo hi mx = .ok d wr al rd side) (hag : ∀ i ∈ rd, ∀ y, ob i = some y → ob2 i = some y) : sliceX T ob2 ty x lo hi mx = .ok d wr al rd side := by
  unfold sliceX at h ⊢
  split at h
  · split at h
    · rename_i id off
      split at h
      · rename_i o ho
        have hrd : rd = [id] := by simp only [R.ok.injEq] at h; exact h.2.2.2.1.symm
        rw [hag id (by rw [hrd]; simp) _ ho]
        exact h
      · cases h
    · exact h
    · cases h
  · exact h
  · cases h
theorem appendY_congr {ob ob2 : Ob} {ats : Array TypeId} {s x d : D} {id : Nat} {wr : List (Nat × Option AObj)} {al rd : List Nat} {side : Prop} (h : appendY T ob ats s x id = .ok d wr al rd side) (hag : ∀ i ∈ rd, ∀ y, ob i = some y → ob2 i = some y) : appendY T ob2 ats s x id = .ok d wr al rd side := by
  unfold appendY at h ⊢
  split at h
  · exact h
  · exact h
  · exact appendX_congr h hag
theorem opR_congr {get : Nat → D} {ob ob2 : Ob} {op : Op} {id : Nat} {d : D} {wr : List (Nat × Option AObj)} {al rd : List Nat} {side : Prop} (h : opR T get ob op id = .ok d wr al rd side) (hag : ∀ i ∈ rd, ∀ y, ob i = some y → ob2 i = some y) : opR T get ob2 op id = .ok d wr al rd side := by
  cases op with
  | load ty x => exact loadR_congr h hag
  | store ty x y => exact storeR_congr h hag
  | slice ty x l hh m => exact sliceX_congr h hag
  | call c =>
    obtain ⟨callee, args, ats⟩ := c
    cases callee with
    | builtin b =>
      simp only [opR, callR] at h ⊢
      split at h
      · exact h
      · exact appendY_congr h hag
      · exact copyR_congr h hag
      · exact clearR_congr h hag
      · exact h
      · exact h
      · exact h
      · cases h
    | _ => exact h
  | _ => exact h
end sound
end Go.V
