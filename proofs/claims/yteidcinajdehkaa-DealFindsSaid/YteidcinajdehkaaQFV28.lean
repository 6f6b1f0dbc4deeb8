/-
  THE ENGINE, PART 28: the evaluator's equations under one name.
-/
import Derived.Test.YteidcinajdehkaaQFV27
set_option linter.unusedSimpArgs false
set_option linter.unusedVariables false
namespace Go.V
theorem gp_take {l : List PV} {n i : Nat} (h : i < n) : gp (l.take n) i = gp l i := by
  simp [gp, List.getD, List.getElem?_take, h]
theorem finC {T : Tab} {sz bs nx : Nat} {e : Env} {ob : Obs} {rs : List ResultVar} {Qr : D → Obs → Prop} (e1 e2 : Env) (h1 : leE e1 e) (h2 : ELe e1 e2) (hp : pureE e2 = true) (h3 : leE e2 e2) (hb : bs ≤ nx) (hn : nx ≤ 1000000000) (hk : (keysOf ob).all (fun i => decide (i < 1000000000)) = true)
    (hr : resQ T ⟨[], e2, [], nx, []⟩ rs (fun ds => Qr (retD ds) [])) : FinQ T sz bs rs Qr ⟨[], e, ob, nx, []⟩ :=
  ⟨_, ((Wk_env h1 (Nat.le_refl _)).trans (Wk_le h2 (OLe.refl _))).trans (Wk_clear h3 hp hb hn hk), hr⟩
theorem FinQ_wk {T : Tab} {sz bs : Nat} {rs : List ResultVar} {Qr : D → Obs → Prop} {st st' : St} (h : Wk sz bs st st') (h2 : FinQ T sz bs rs Qr st') : FinQ T sz bs rs Qr st := by
  obtain ⟨s, a, b⟩ := h2
  exact ⟨s, h.trans a, b⟩
attribute [go_sem] isSh shI aggEqR eqlR flatS intOne cmpI W_nil W_skip W_seq W_region W_block W_exit W_ret W_cond W_loop W_blk W_opsF W_opsT W_op gS_run gS_skip callS_true callS_false opS_ok opS_val condS_true condS_false exitS_some get_mk ev_tmp ev_const ev_func constD_int constD_bool constD_str constD_nil constD_np isPtr effR_some effR_none fl_mk dstB_some dstB_none dstN_some dstN_none lkT_nil lkT_cons lk_cons setv_cons setv_nil flush_cons flush_nil gsel guardS_lit1 guardS_lit2 guardS_lit3 guardS_lit4 guardS_lit5 slotDst dstAt isCall opR arithR boolR binR nilR nilnilR unR convR pickR loadR storeR boxR boxD oneP allocR objOf mkO zobj zrep makeSliceR buildSliceR fillD appendR srcR elemT AObj.app AObj.sub AObj.cells sliceR ival bnd cutP extractR nthP nthD nilCheckR makeFuncR fnOf mkF buildR buildPlace aggOf mmR putO putP putD callR lenSliceR lenR isSlice isBool intK indexAddrR elemOfT fieldAddrR structF fieldAt opSlots slotOf exK fz_mk fzEnv fzD fzObs fzO fzL tupOf cond_true cond_false applyW obL setO delO freshB bump tblS TK.agg List.nil_append List.cons_append List.append_nil true_and and_true blt_dec ble_dec int_mk decide_true decide_false List.all_cons List.all_nil List.contains_cons List.contains_nil Bool.not_false Bool.not_true Bool.or_false Bool.false_or Bool.and_true Bool.true_and List.map_cons List.map_nil List.flatMap_cons List.flatMap_nil List.reverse_cons List.reverse_nil List.length_cons List.length_nil List.drop_zero roOf List.getElem?_toArray List.getElem?_cons_zero List.toList_toArray Nat.mul_one Nat.zero_add Nat.add_zero Int.toNat_natCast Int.toNat_zero gp_drop gp_zero gp_succ gd_zero gd_succ decide_eq_true_eq decide_eq_false_iff_not Option.isSome_some Option.isSome_none Option.isNone_none Option.isNone_some Option.map_some Option.map_none initSt initEnv List.getD_cons_zero List.getD_cons_succ List.getD_nil D.norm appendX appendY capR sliceX plainB roomR copyR clearR W_zero gp_take
end Go.V
