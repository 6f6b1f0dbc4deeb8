/-
  THE ENGINE, PART 29: a call of a function of pure data that is given objects: they are pure data from then on.
-/
import Derived.Test.YteidcinajdehkaaQOV28
set_option linter.unusedSimpArgs false
set_option linter.unusedVariables false
namespace Go.V
def fzs : List (Nat × List PV) → D → D
  | [], d => d
  | (i, cs) :: l, d => fzs l (fzD i cs d)
theorem rowOk_frz {P : Program} {sz : Nat} {ops : Array Oper} {o : Oper} {dst : Option Tmp} {d : D} {rs : List (Nat × D)} {ro : List (Nat × AObj)} {wr : List (Nat × Option AObj)} {al : List Nat} (id : Nat) (cs : List PV)
    (h : RowOk P sz ops o ⟨dst, d, rs.map (fun x => (x.1, fzD id cs x.2)), ro, wr, al⟩) (hro : ∀ x ∈ ro, x.1 ≠ id) : RowOk P sz ops o ⟨dst, d, rs, (id, .p cs) :: ro, wr ++ [(id, none)], al⟩ := by
  obtain ⟨h1, h2, h3⟩ := h
  refine ⟨h1, h2, fun a w ρ ob hdf hsz hrep hrs hros hal K Q hK => ?_⟩
  have hid : ob id = some (.p cs) := hros (id, .p cs) (by simp)
  let ob3 : Ob := upd ob [(id, none)]
  have e3 : ∀ j, ob3 j = if j = id then none else ob j := fun j => rfl
  have hsub : ∀ i o, ob3 i = some o → i ≠ id ∧ ob i = some o := by
    intro i o ho
    rw [e3] at ho
    by_cases hi : i = id
    · simp [hi] at ho
    · rw [if_neg hi] at ho; exact ⟨hi, ho⟩
  have hown : ∀ b, Own ρ ob3 b → Own ρ ob b := by
    rintro b ⟨i, o, ho, hr⟩
    exact ⟨i, o, (hsub i o ho).2, hr⟩
  have hRC : ∀ b, ρ id = some (some b) → RC w (Own ρ ob3) b 0 cs := by
    intro b hb
    obtain ⟨x, hx, hro⟩ := hrep.obj id _ hid
    rw [hb] at hx; cases hx
    obtain ⟨c, e, hbb, hl, hc⟩ := hro
    refine RC.mk fun j p hj => ?_
    obtain ⟨u, u1, u2, u3⟩ := hc j (.v p) (by simp [AObj.cells, hj])
    refine ⟨u, by rw [Nat.zero_add, cell_of_row w b j c e _ hbb]; exact u1, u2, ?_, ?_⟩
    · rintro ⟨i, o, ho, hr⟩
      obtain ⟨hne, hy⟩ := hsub i o ho
      exact hne (hrep.inj i id b (by rw [hy]; simp) (by rw [hid]; simp) hr hb)
    · cases u3 with | v _ _ u3 => exact u3.mono (fun _ _ _ => rfl) (fun b _ h => hown b h)
  have hrep3 : Rep w ρ ob3 := by
    refine ⟨fun i j b hi hj hri hrj => ?_, fun i o ho => ?_, fun x hx => (hrep.glob x hx).mono (fun _ _ _ => rfl) (fun b _ h => hown b h)⟩
    · cases hxi : ob3 i with
      | none => exact absurd hxi hi
      | some x =>
        cases hxj : ob3 j with
        | none => exact absurd hxj hj
        | some x2 => exact hrep.inj i j b (by rw [(hsub i x hxi).2]; simp) (by rw [(hsub j x2 hxj).2]; simp) hri hrj
    · obtain ⟨x, hx, hro⟩ := hrep.obj i o (hsub i o ho).2
      refine ⟨x, hx, ?_⟩
      cases x with
      | none => exact hro
      | some b =>
        obtain ⟨c, t, hb, hl, hc⟩ := hro
        exact ⟨c, t, hb, hl, fun j d hj => let ⟨u, u1, u2, u3⟩ := hc j d hj; ⟨u, u1, u2, u3.mono (fun _ _ _ => rfl) (fun b _ h => hown b h) (fun _ _ => rfl) (fun _ _ h => h)⟩⟩
  refine h3 a w ρ ob3 hdf hsz hrep3 (fun x hx => ?_) (fun x hx => ?_) hal K Q (fun v w' ρ' k1 k2 k3 k4 => ?_)
  · obtain ⟨y, hy, rfl⟩ := List.mem_map.1 hx
    exact (hrs y hy).fz (fun b _ h => hown b h) hRC
  · rw [e3, if_neg (hro x hx)]
    exact hros x (by simp [hx])
  · have e : upd ob (wr ++ [(id, none)]) = upd ob3 wr := by funext j; exact upd_app ob wr [(id, none)] j
    refine hK v w' ρ' ?_ ?_ ?_ k4
    · show RD w' (Own ρ' (upd ob (wr ++ [(id, none)]))) ρ' v d
      rw [e]; exact k1
    · show Rep w' ρ' (upd ob (wr ++ [(id, none)]))
      rw [e]; exact k2
    · show Evo w ρ ob w' ρ' (upd ob (wr ++ [(id, none)]))
      rw [e]
      exact ⟨k3.os, k3.tape, k3.output, k3.size, fun b hb hn => k3.keep b hb (fun x => hn (hown b x)), k3.bsz, fun b hb x => hown b (k3.own b hb x), k3.rho⟩
def roF : List (Nat × List PV) → List (Nat × AObj)
  | [] => []
  | (i, cs) :: l => (i, .p cs) :: roF l
def wrF : List (Nat × List PV) → List (Nat × Option AObj)
  | [] => []
  | (i, _) :: l => wrF l ++ [(i, none)]
def keysF : List (Nat × List PV) → List Nat
  | [] => []
  | (i, _) :: l => i :: keysF l
theorem roF_keys : ∀ (F : List (Nat × List PV)), (roF F).map (·.1) = keysF F
  | [] => rfl
  | (i, _) :: l => by simp [roF, keysF, roF_keys l]
def ndF : List (Nat × List PV) → Bool
  | [] => true
  | (i, _) :: l => !(keysF l).contains i && ndF l
theorem roF_mem : ∀ {F : List (Nat × List PV)} {x : Nat × AObj}, x ∈ roF F → x.1 ∈ keysF F
  | (i, cs) :: l, x, h => by
    simp only [roF, List.mem_cons] at h
    rcases h with rfl | h
    · simp [keysF]
    · simp [keysF, roF_mem h]
theorem rowOk_frzs {P : Program} {sz : Nat} {ops : Array Oper} {o : Oper} {dst : Option Tmp} {d : D} : ∀ (F : List (Nat × List PV)) {rs : List (Nat × D)},
    RowOk P sz ops o ⟨dst, d, rs.map (fun x => (x.1, fzs F x.2)), [], [], []⟩ → ndF F = true → RowOk P sz ops o ⟨dst, d, rs, roF F, wrF F, []⟩
  | [], rs, h, _ => by simpa [fzs, roF, wrF] using h
  | (i, cs) :: l, rs, h, hn => by
    simp only [ndF, Bool.and_eq_true, Bool.not_eq_true'] at hn
    refine rowOk_frz i cs (rowOk_frzs l ?_ hn.2) (fun x hx e => ?_)
    · simpa [List.map_map, Function.comp_def, fzs] using h
    · have := roF_mem hx
      rw [e] at this
      have h2 := hn.1
      simp [this] at h2
section
variable {P : Program} {T : Tab} {sz bs : Nat} {k : List It} {st : St} {Q : St → Prop} {draw : Bool} {all : Array Oper} {tbl : List TR} {l : List Oper} {o : Oper}
theorem Wp_callF (F : List (Nat × List PV)) {f : FuncId} {ps : List PV} {p : PV} (hF : FnP P f ps p) {fop : Operand} {args : Array Operand} {ats : Array TypeId} {sl : List Nat} {caps : List D} (hcb : callB P f = true)
    (ho : o.op = .call ⟨.value fop, args, ats⟩) (hg : gsel all (fun s => fzs F (st.get s)) o.guard = .run sl) (hfop : capsOf (evG (fun s => fzs F (st.get s)) fop) = some (f, caps))
    (hargs : ordA (evG (fun s => fzs F (st.get s)) fop) (args.toList.map (evG (fun s => fzs F (st.get s)))) caps = ps.map .v) (hd : dstB sz o.dst = true)
    (hn : ndF F = true) (hob : ∀ x ∈ roF F, obL st.ob x.1 = some x.2) (hlt : (wrF F).all (fun x => Nat.blt x.1 1000000000) = true)
    (h : Wp P sz bs (.ops draw all (tblS draw ⟨o.dst, sl ++ opSlots o.op, keysF F, (wrF F).map (·.1), []⟩ tbl) l :: k) (st.effR o.dst (.v p) (wrF F) []) Q) :
    Wp P sz bs (.ops draw all tbl (o :: l) :: k) st Q := by
  have r0 := rowOk_call (P := P) (sz := sz) (ops := all) (bs := 0) (obc := []) (obr := []) (r := .v p) (argc := ps.map .v) (ob := fun _ => none) (sg := []) (N := 0) hF hcb ho hg hfop (by rw [hargs, renL_v]) rfl (by omega) (fun i hi => by omega) (fun i hi => by omega) (fun _ _ => rfl) (fun i hi => by cases hi) hd
  have r1 := rowOk_frzs (P := P) (sz := sz) (ops := all) (o := o) (dst := o.dst) (d := .v p) F (rs := (sl ++ opSlots o.op).map (fun s => (s, st.get s))) (by simpa [Function.comp_def, ren, roOf, wrIn, wrOut, newIds] using r0) hn
  refine Wp_row r1 (fun x hx => by obtain ⟨s, _, rfl⟩ := List.mem_map.1 hx; rfl) hob ?_ rfl ?_
  · simp only [freshB, List.all_nil, Bool.true_and]; exact hlt
  · have e : (Row.tr ⟨o.dst, .v p, (sl ++ opSlots o.op).map (fun s => (s, st.get s)), roF F, wrF F, []⟩) = ⟨o.dst, sl ++ opSlots o.op, keysF F, (wrF F).map (·.1), []⟩ := by
      simp [Row.tr, Row.slots, Row.reads, Row.writes, Function.comp_def, roF_keys]
    rw [e]; exact h
end
theorem lk_setvS {e : Env} {s : Nat} {d : D} (h : lk e s ≠ .dead) (t : Nat) : lk (setv e s d) t = if t = s then d else lk e t := by
  induction e with
  | nil => exact absurd rfl h
  | cons x e ih =>
    obtain ⟨a, y⟩ := x
    simp only [setv, lk] at h ⊢
    cases ha : a == s with
    | true =>
      have := beq_iff_eq.1 ha; subst this
      simp only [cond_true, lk]
      by_cases ht : t = a
      · subst ht; simp
      · have : (a == t) = false := by simpa using fun e => ht e.symm
        simp [this, ht]
    | false =>
      simp only [ha, cond_false] at h
      simp only [cond_false, lk, ih h]
      cases hat : a == t with
      | true =>
        have := beq_iff_eq.1 hat; subst this
        have : ¬ a = s := by simpa using ha
        simp [this]
      | false => simp
theorem Wk_ownS {sz bs nx : Nat} {e : Env} {ob : Obs} (s es : Nat) (hs : lk e s = .v .nl) (hb : bs ≤ nx) (hn : nx < 1000000000) :
    Wk sz bs ⟨[], e, ob, nx, []⟩ ⟨[], setv e s (.sl false nx 0 0 es), (nx, .p []) :: ob, nx + 1, []⟩ :=
  Wk_own s es hs (fun t => lk_setvS (by rw [hs]; simp) t) hb hn
theorem take_len {α : Type} {l : List α} {n : Nat} (h : l.length = n) : l.take n = l := by subst h; exact List.take_length
theorem cut_len {l : List PV} {n : Nat} (h : l.length = n) : (AObj.p l).cut n = .p l := by
  simp only [AObj.cut]
  rw [h]
  have : Nat.beq n n = true := by simp
  simp [this]
attribute [go_sem] List.size_toArray take_len cut_len eq_self List.length_map List.length_append List.length_set List.length_replicate List.set_cons_zero List.set_cons_succ List.take_succ_cons List.take_zero List.take_nil List.drop_succ_cons List.drop_nil List.replicate_succ List.replicate_zero Nat.le_refl Int.sub_zero true_implies false_implies implies_true Bool.false_eq_true fz_mk fzEnv fzD fzObs fzO fzL aggOf tupOf fnOf mkF mkO objOf fzs keysF wrF roF ndF Bool.true_or Bool.or_true ne_eq
end Go.V
