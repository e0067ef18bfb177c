/- A part of the proof: Y10. -/
import Derived.Test.YtlchnjgnfomiaaaY9
set_option linter.unusedSimpArgs false
set_option linter.unusedVariables false
open Go Go.Ag Go.Proofs
namespace Y
section
variable {σ0 σ : H} {bm bs bt : Nat} {y : AV} {s : VS}
theorem VH.old (h : VH σ0 σ bm bs bt y s) {c : Nat} {o : AObj} (hc : σ0 c = some o) : σ c = some o := by
  obtain ⟨_, h1, h2, h3, h4, h5, h6, σ1, h7, h8, rfl⟩ := h
  have n1 : c ≠ bm := by rintro rfl; rw [h3] at hc; cases hc
  have n2 : c ≠ bs := by rintro rfl; rw [h1] at hc; cases hc
  have n3 : c ≠ bt := by rintro rfl; rw [h2] at hc; cases hc
  rw [upd_ne _ _ n1]
  rcases h8 with ⟨_, _, rfl⟩ | ⟨bo, h9, _, rfl⟩
  · rw [upd_ne _ _ n3, upd_ne _ _ n2]; exact hc
  · rw [upd_none_iff, upd_none_iff] at h9
    have n4 : c ≠ bo := by rintro rfl; rw [h9.2.2] at hc; cases hc
    rw [upd_ne _ _ n4, upd_ne _ _ n3, upd_ne _ _ n2]; exact hc
theorem VH.new (h : VH σ0 σ bm bs bt y s) {c : Nat} (hc : σ c = none) : σ0 c = none := by
  cases h1 : σ0 c with
  | none => rfl
  | some o => rw [h.old h1] at hc; cases hc
theorem VH.over (h : VH σ0 σ bm bs bt y s) {c : Nat} (hc : σ c = none) (o : AObj) : VH (σ0.upd c o) (σ.upd c o) bm bs bt y s := by
  have hm := h.m
  have hs := h.slots
  have ht := h.sets
  have hc0 := h.new hc
  obtain ⟨h0, h1, h2, h3, h4, h5, h6, σ1, h7, h8, rfl⟩ := h
  have n1 : bm ≠ c := by rintro rfl; rw [hc] at hm; cases hm
  have n2 : bs ≠ c := by rintro rfl; rw [hc] at hs; cases hs
  have n3 : bt ≠ c := by rintro rfl; rw [hc] at ht; cases ht
  have hc1 : σ1 c = none := by rw [upd_ne _ _ (Ne.symm n1)] at hc; exact hc
  refine ⟨h0, upd_none n2 h1, upd_none n3 h2, upd_none n1 h3, h4, h5, h6, σ1.upd c o, upd_none n1 h7, ?_, upd_comm _ n1 _ _⟩
  have := h8.over (M := o) hc1
  rw [upd_comm _ n3, upd_comm _ n2] at this
  exact this
theorem VH.back {c : Nat} {o : AObj} (h : VH (σ0.upd c o) σ bm bs bt y s) (hc0 : σ0 c = none) : ∃ σ', VH σ0 σ' bm bs bt y s ∧ σ' c = none ∧ σ = σ'.upd c o := by
  obtain ⟨h0, h1, h2, h3, h4, h5, h6, σ1, h7, h8, rfl⟩ := h
  rw [upd_none_iff] at h1 h2 h3
  have e : ((σ0.upd c o).upd bs (.rows 70 1 (s.slot.map u64r))).upd bt (.rows 4 1 (s.set.map boolr)) = ((σ0.upd bs (.rows 70 1 (s.slot.map u64r))).upd bt (.rows 4 1 (s.set.map boolr))).upd c o := by
    rw [upd_comm σ0 (Ne.symm h1.1), upd_comm _ (Ne.symm h2.1)]
  rw [e] at h8
  obtain ⟨σ2, h9, h10, rfl⟩ := h8.back (by rw [upd_none_iff, upd_none_iff]; exact ⟨Ne.symm h2.1, Ne.symm h1.1, hc0⟩)
  rw [upd_none_iff] at h7
  exact ⟨σ2.upd bm _, ⟨h0, h1.2, h2.2, h3.2, h4, h5, h6, σ2, h7.2, h9, rfl⟩, upd_none (Ne.symm h3.1) h10, upd_comm _ (Ne.symm h3.1) _ _⟩
theorem VH.outs (h : VH σ0 σ bm bs bt y s) : (y = .v (.slice none 0 0) ∧ s.out = []) ∨ ∃ bo, y = .sl bo s.out.length 1 5 ∧ σ bo = some (.rows 5 1 (s.out.map u8r)) ∧ σ0 bo = none := by
  obtain ⟨h0, h1, h2, h3, h4, h5, h6, σ1, h7, h8, rfl⟩ := h
  rcases h8 with ⟨hy, hx, rfl⟩ | ⟨bo, h9, hy, rfl⟩
  · exact .inl ⟨hy, by simpa using hx⟩
  · rw [upd_none_iff, upd_none_iff] at h9
    refine .inr ⟨bo, by simpa using hy, ?_, h9.2.2⟩
    have n1 : bo ≠ bm := by rintro rfl; rw [upd_same] at h7; cases h7
    rw [upd_ne _ _ n1, upd_same]
end
theorem run_start {σ0 : H} {bm bs bt : Nat} (p : Prog) (b : List Int) (port : Int) (h1 : σ0 bs = none) (h2 : σ0 bt = none) (h3 : σ0 bm = none) (h4 : bs ≠ bt) (h5 : bs ≠ bm) (h6 : bt ≠ bm) :
    VH σ0 (((σ0.upd bs (.rows 70 1 (List.replicate p.slots.toNat [.v (.int .u64 0)]))).upd bt (.rows 4 1 (List.replicate p.slots.toNat [.v (.bool false)]))).upd bm
      (.st [.v (.int .i64 p.slots), .ro (p.tabs.map Shape.c), .ro (p.code.map Ins.c), .v (.slice none 0 0), .ro (b.map u8r), .v (.int .i64 port), .v (.int .u64 0), .v (.int .u64 0), .v (.int .u64 0), .v (.int .u64 0), .v (.int .u64 0), .v (.int .u64 0), .v (.int .u64 0), .v (.int .u64 0), .v (.int .u64 0), .v (.int .u64 0), .v (.bool false), .v (.bool false), .v (.bool false), .v (.bool false), .v (.bool false), .v (.bool false), .v (.bool false), .v (.bool false), .v (.bool false), .v (.bool false), .sl bs p.slots.toNat 1 70, .sl bt p.slots.toNat 1 4, .v (.int .i64 0), .v (.slice none 0 0)]))
      bm bs bt (.v (.slice none 0 0)) (begin0 p (.v (.slice none 0 0)) b port) := by
  refine ⟨⟨rfl, rfl, by simp [begin0]⟩, h1, h2, h3, h4, h5, h6, _, ?_, .inl ⟨rfl, rfl, rfl⟩, ?_⟩
  · rw [upd_none3, upd_none3]; exact ⟨Ne.symm h6, h6, Ne.symm h5, h5, h3⟩
  · have e1 : (begin0 p (.v (.slice none 0 0)) b port).slot.map u64r = List.replicate p.slots.toNat [.v (.int .u64 0)] := by simp [begin0, u64r]
    have e2 : (begin0 p (.v (.slice none 0 0)) b port).set.map boolr = List.replicate p.slots.toNat [.v (.bool false)] := by simp [begin0, boolr]
    have e3 : (begin0 p (.v (.slice none 0 0)) b port).slot.length = p.slots.toNat := by simp [begin0]
    have e4 : (begin0 p (.v (.slice none 0 0)) b port).set.length = p.slots.toNat := by simp [begin0]
    rw [e1, e2, e3, e4]; rfl
theorem begin_inv (p : Prog) (b : List Int) (port : Int) (hs : 0 ≤ p.slots ∧ p.slots ≤ 96) (hb : b.length ≤ 600) (hp : 0 ≤ port ∧ port < 65536) (hby : ∀ r ∈ b, 0 ≤ r ∧ r < 256) : (begin0 p (.v (.slice none 0 0)) b port).inv p b port 1 := by
  refine ⟨⟨fun r hr => ?_, fun r hr => ?_, hby, by show b.length ≤ _; omega, hp⟩, ?_, rfl, rfl, rfl, ⟨rfl, rfl, by simp [begin0]⟩, by simp [begin0], by simp [begin0]⟩
  · have := (List.mem_replicate.1 hr).2; omega
  · have := (List.mem_replicate.1 hr).2; omega
  · simp only [begin0, List.length_replicate]; omega
/-- A run on its way. -/
def runJ (p : Prog) (b : List Int) (port : Int) (σ : H) (b1 b2 bm bs bt : Nat) (k : Nat) (q : Nat × Nat) (σ' : H) : Prop :=
  (q.1 + k = p.code.length ∧ q.1 < p.code.length) ∧ 1 ≤ q.2 ∧ q.2 ≤ q.1 + 1 ∧ ∃ σ0 y s, VH σ0 σ' bm bs bt y s ∧ σ0 b1 = some (.st [.v (.int .i64 0), .v (.slice none 0 0)]) ∧ σ0 b2 = some (.st [.v (.int .i64 0), .v (.int .i64 0)]) ∧
    (∀ c o, σ c = some o → c ≠ b1 ∧ c ≠ b2 ∧ σ0 c = some o) ∧ s.inv p b port q.2 ∧ ∃ f, k ≤ f ∧ runL p.code f q.1 q.2 s = runL p.code p.code.length 0 1 (begin0 p (.v (.slice none 0 0)) b port)
set_option maxRecDepth 100000 in
theorem c_run0 (p : Prog) (b : List Int) (port : Int) (σ : H) (hl : p.code.length < 9223372036854775808) (ht : p.tabs.length < 9223372036854775808) (hn : ∀ x ∈ p.code, 0 ≤ x.n ∧ x.n < 18446744073709551616)
    (hbl : b.length < 9223372036854775808) (hby : ∀ r ∈ b, 0 ≤ r ∧ r < 256) : ACalls Try.prog 27 [.agg p.c, .v (.slice none 0 0), .ro (b.map u8r), .v (.int .i64 port)] σ fun e σ' => e = .ret (outC (runF0 p b port)) ∧ σ' = σ := by
  refine acalls_go cf_run 100 [.cell 8 62, .tmp 9, .cell 10 64] mix Try.func27 (by decide) rfl ok_run rfl (Nat.le_of_ble_eq_true rfl) rfl ?_
  have hc := fun σ => c_check p σ hl ht (fun x hx => (hn x hx).1)
  have hv := fun σ => c_vfits0 p σ ht
  simp only [Prog.c] at hc hv ⊢
  simp (config := {decide := true, maxSteps := 2000000}) only [↓bpre, bpost, ↓reduceIte, Nat.reduceEqDiff, aargs, aparts, targs, alit, loadOk, not_false_eq_true, Wone, cond_true, cond_false, dstOk, true_and, and_true, and_self, if_true, if_false, reduceCtorEq, Option.map_some, Option.map_none, Option.map_id', ares, aret, Nat.reduceAdd, Nat.reduceLT, Nat.reduceMul, Nat.zero_add, lenOf, alen, vcBuiltin, Option.isNone_none, Option.isNone_some, Option.isSome_none, Option.isSome_some, aun, aconv, padd, Nat.mul_one, ne_eq, not_false_eq_true, Option.bind_some, List.cons_append, List.nil_append, List.append_nil, abuild, afill, TP.place, List.set_cons_zero, List.set_cons_succ, List.drop_succ_cons, List.drop_zero, List.take_succ_cons, List.take_zero, List.getElem?_cons_zero, List.getElem?_cons_succ, List.length_cons, List.length_nil, List.length_map, implies_true, true_implies, false_implies, forall_const, decide_true, decide_false, Bool.true_eq_false, Bool.false_eq_true, or_false, or_true, false_or, true_or, List.all_cons, List.all_nil, Bool.and_true, Bool.and_self, tzr_62, tzr_64, tsz_58, tsz_64, tfo_64_0, tsz_3, tpl_62, tsz_62, tpl_64, und_59, tfo_58_0, tel_27, tby_27, und_27, tzr_70, tel_91, tby_91, und_91, tzr_4, tpl_95, tzr_95, tfo_58_2, tsz_56, tel_56, tsz_87, tzr_87, tfo_87_0, tfo_95_8, tfo_87_4, rob_run, ↓lv_run_12, ↓lv_run_18, ↓lv_run_20, ↓lv_run_22, ↓lv_run_21, ↓lv_run_19, ↓lv_run_17, ↓lv_run_16, ↓lv_run_15, ↓lv_run_14, ↓lv_run_13, ↓lv_run_11, ↓lv_run_10, ↓lv_run_9, ↓lv_run_8, ↓lv_run_7, ↓lv_run_6, ↓lv_run_5, ↓lv_run_4, ↓lv_run_3, ↓lv_run_2, ↓lv_run_1, ↓lv_run_0, ↓sg_run_12, ↓sg_run_18, ↓sg_run_20, ↓sg_run_22, ↓sg_run_21, ↓sg_run_19, ↓sg_run_17, ↓sg_run_16, ↓sg_run_15, ↓sg_run_14, ↓sg_run_13, ↓sg_run_11, ↓sg_run_9, ↓sg_run_8, ↓sg_run_7, ↓sg_run_6, ↓sg_run_5, ↓sg_run_4, ↓sg_run_2, ↓sg_run_1, ↓sg_run_0, ↓pl_run_3, ↓wl_run_3, stab_all wa_run_3, Wreg_all wa_run_3, ↓pl_run_10, ↓wl_run_10, Wreg_of wa_run_10]
  intro b1 hb1 b2 hb2
  refine (hc _).ret ?_
  simp only [faultC]
  simp (config := {decide := true, maxSteps := 2000000}) only [↓bpre, bpost, ↓reduceIte, Nat.reduceEqDiff, aargs, aparts, targs, alit, loadOk, not_false_eq_true, Wone, cond_true, cond_false, dstOk, true_and, and_true, and_self, if_true, if_false, reduceCtorEq, Option.map_some, Option.map_none, Option.map_id', ares, aret, Nat.reduceAdd, Nat.reduceLT, Nat.reduceMul, Nat.zero_add, lenOf, alen, vcBuiltin, Option.isNone_none, Option.isNone_some, Option.isSome_none, Option.isSome_some, aun, aconv, padd, Nat.mul_one, ne_eq, not_false_eq_true, Option.bind_some, List.cons_append, List.nil_append, List.append_nil, abuild, afill, TP.place, List.set_cons_zero, List.set_cons_succ, List.drop_succ_cons, List.drop_zero, List.take_succ_cons, List.take_zero, List.getElem?_cons_zero, List.getElem?_cons_succ, List.length_cons, List.length_nil, List.length_map, implies_true, true_implies, false_implies, forall_const, decide_true, decide_false, Bool.true_eq_false, Bool.false_eq_true, or_false, or_true, false_or, true_or, List.all_cons, List.all_nil, Bool.and_true, Bool.and_self, tzr_62, tzr_64, tsz_58, tsz_64, tfo_64_0, tsz_3, tpl_62, tsz_62, tpl_64, und_59, tfo_58_0, tel_27, tby_27, und_27, tzr_70, tel_91, tby_91, und_91, tzr_4, tpl_95, tzr_95, tfo_58_2, tsz_56, tel_56, tsz_87, tzr_87, tfo_87_0, tfo_95_8, tfo_87_4, rob_run, ↓lv_run_12, ↓lv_run_18, ↓lv_run_20, ↓lv_run_22, ↓lv_run_21, ↓lv_run_19, ↓lv_run_17, ↓lv_run_16, ↓lv_run_15, ↓lv_run_14, ↓lv_run_13, ↓lv_run_11, ↓lv_run_10, ↓lv_run_9, ↓lv_run_8, ↓lv_run_7, ↓lv_run_6, ↓lv_run_5, ↓lv_run_4, ↓lv_run_3, ↓lv_run_2, ↓lv_run_1, ↓lv_run_0, ↓sg_run_12, ↓sg_run_18, ↓sg_run_20, ↓sg_run_22, ↓sg_run_21, ↓sg_run_19, ↓sg_run_17, ↓sg_run_16, ↓sg_run_15, ↓sg_run_14, ↓sg_run_13, ↓sg_run_11, ↓sg_run_9, ↓sg_run_8, ↓sg_run_7, ↓sg_run_6, ↓sg_run_5, ↓sg_run_4, ↓sg_run_2, ↓sg_run_1, ↓sg_run_0, ↓pl_run_3, ↓wl_run_3, stab_all wa_run_3, Wreg_all wa_run_3, ↓pl_run_10, ↓wl_run_10, Wreg_of wa_run_10, hb1, hb2]
  intro b3 hb3
  simp (config := {decide := true, maxSteps := 2000000}) only [↓bpre, bpost, ↓reduceIte, Nat.reduceEqDiff, aargs, aparts, targs, alit, loadOk, not_false_eq_true, Wone, cond_true, cond_false, dstOk, true_and, and_true, and_self, if_true, if_false, reduceCtorEq, Option.map_some, Option.map_none, Option.map_id', ares, aret, Nat.reduceAdd, Nat.reduceLT, Nat.reduceMul, Nat.zero_add, lenOf, alen, vcBuiltin, Option.isNone_none, Option.isNone_some, Option.isSome_none, Option.isSome_some, aun, aconv, padd, Nat.mul_one, ne_eq, not_false_eq_true, Option.bind_some, List.cons_append, List.nil_append, List.append_nil, abuild, afill, TP.place, List.set_cons_zero, List.set_cons_succ, List.drop_succ_cons, List.drop_zero, List.take_succ_cons, List.take_zero, List.getElem?_cons_zero, List.getElem?_cons_succ, List.length_cons, List.length_nil, List.length_map, implies_true, true_implies, false_implies, forall_const, decide_true, decide_false, Bool.true_eq_false, Bool.false_eq_true, or_false, or_true, false_or, true_or, List.all_cons, List.all_nil, Bool.and_true, Bool.and_self, tzr_62, tzr_64, tsz_58, tsz_64, tfo_64_0, tsz_3, tpl_62, tsz_62, tpl_64, und_59, tfo_58_0, tel_27, tby_27, und_27, tzr_70, tel_91, tby_91, und_91, tzr_4, tpl_95, tzr_95, tfo_58_2, tsz_56, tel_56, tsz_87, tzr_87, tfo_87_0, tfo_95_8, tfo_87_4, rob_run, ↓lv_run_12, ↓lv_run_18, ↓lv_run_20, ↓lv_run_22, ↓lv_run_21, ↓lv_run_19, ↓lv_run_17, ↓lv_run_16, ↓lv_run_15, ↓lv_run_14, ↓lv_run_13, ↓lv_run_11, ↓lv_run_10, ↓lv_run_9, ↓lv_run_8, ↓lv_run_7, ↓lv_run_6, ↓lv_run_5, ↓lv_run_4, ↓lv_run_3, ↓lv_run_2, ↓lv_run_1, ↓lv_run_0, ↓sg_run_12, ↓sg_run_18, ↓sg_run_20, ↓sg_run_22, ↓sg_run_21, ↓sg_run_19, ↓sg_run_17, ↓sg_run_16, ↓sg_run_15, ↓sg_run_14, ↓sg_run_13, ↓sg_run_11, ↓sg_run_9, ↓sg_run_8, ↓sg_run_7, ↓sg_run_6, ↓sg_run_5, ↓sg_run_4, ↓sg_run_2, ↓sg_run_1, ↓sg_run_0, ↓pl_run_3, ↓wl_run_3, stab_all wa_run_3, Wreg_all wa_run_3, ↓pl_run_10, ↓wl_run_10, Wreg_of wa_run_10, hb1, hb2, hb3]
  refine ⟨fun heq => (hv _).ret ?_, fun hne => ?_⟩
  rotate_left
  · refine gotRes_frz (σ' := σ) (FrzH.of_sub (by intro c_ x_ hc_; simp only [H.upd]; (repeat' split) <;> first | exact hc_ | (subst_vars; simp [hb1, hb2, hb3] at hc_))) (.tupL (.cons (.aggL (.cons (.refl _) (.cons .nil .nil))) (.refl _))) ⟨?_, rfl⟩
    simp [outC, Res.c, faultC, hne, runF0]
  simp (config := {decide := true, maxSteps := 2000000}) only [↓bpre, bpost, ↓reduceIte, Nat.reduceEqDiff, aargs, aparts, targs, alit, loadOk, not_false_eq_true, Wone, cond_true, cond_false, dstOk, true_and, and_true, and_self, if_true, if_false, reduceCtorEq, Option.map_some, Option.map_none, Option.map_id', ares, aret, Nat.reduceAdd, Nat.reduceLT, Nat.reduceMul, Nat.zero_add, lenOf, alen, vcBuiltin, Option.isNone_none, Option.isNone_some, Option.isSome_none, Option.isSome_some, aun, aconv, padd, Nat.mul_one, ne_eq, not_false_eq_true, Option.bind_some, List.cons_append, List.nil_append, List.append_nil, abuild, afill, TP.place, List.set_cons_zero, List.set_cons_succ, List.drop_succ_cons, List.drop_zero, List.take_succ_cons, List.take_zero, List.getElem?_cons_zero, List.getElem?_cons_succ, List.length_cons, List.length_nil, List.length_map, implies_true, true_implies, false_implies, forall_const, decide_true, decide_false, Bool.true_eq_false, Bool.false_eq_true, or_false, or_true, false_or, true_or, List.all_cons, List.all_nil, Bool.and_true, Bool.and_self, tzr_62, tzr_64, tsz_58, tsz_64, tfo_64_0, tsz_3, tpl_62, tsz_62, tpl_64, und_59, tfo_58_0, tel_27, tby_27, und_27, tzr_70, tel_91, tby_91, und_91, tzr_4, tpl_95, tzr_95, tfo_58_2, tsz_56, tel_56, tsz_87, tzr_87, tfo_87_0, tfo_95_8, tfo_87_4, rob_run, ↓lv_run_12, ↓lv_run_18, ↓lv_run_20, ↓lv_run_22, ↓lv_run_21, ↓lv_run_19, ↓lv_run_17, ↓lv_run_16, ↓lv_run_15, ↓lv_run_14, ↓lv_run_13, ↓lv_run_11, ↓lv_run_10, ↓lv_run_9, ↓lv_run_8, ↓lv_run_7, ↓lv_run_6, ↓lv_run_5, ↓lv_run_4, ↓lv_run_3, ↓lv_run_2, ↓lv_run_1, ↓lv_run_0, ↓sg_run_12, ↓sg_run_18, ↓sg_run_20, ↓sg_run_22, ↓sg_run_21, ↓sg_run_19, ↓sg_run_17, ↓sg_run_16, ↓sg_run_15, ↓sg_run_14, ↓sg_run_13, ↓sg_run_11, ↓sg_run_9, ↓sg_run_8, ↓sg_run_7, ↓sg_run_6, ↓sg_run_5, ↓sg_run_4, ↓sg_run_2, ↓sg_run_1, ↓sg_run_0, ↓pl_run_3, ↓wl_run_3, stab_all wa_run_3, Wreg_all wa_run_3, ↓pl_run_10, ↓wl_run_10, Wreg_of wa_run_10, hb1, hb2, hb3]
  refine ⟨fun h0 => ?_, fun h0 => ?_⟩
  rotate_left
  · refine gotRes_frz (σ' := σ) (FrzH.of_sub (by intro c_ x_ hc_; simp only [H.upd]; (repeat' split) <;> first | exact hc_ | (subst_vars; simp [hb1, hb2, hb3] at hc_))) (.tupL (.cons (.aggL (.cons (.refl _) (.cons .nil .nil))) (.refl _))) ⟨?_, rfl⟩
    simp [outC, Res.c, faultC, heq, h0, runF0]
  refine ⟨fun h1 => ?_, fun h1 => ?_⟩
  · refine gotRes_frz (σ' := σ) (FrzH.of_sub (by intro c_ x_ hc_; simp only [H.upd]; (repeat' split) <;> first | exact hc_ | (subst_vars; simp [hb1, hb2, hb3] at hc_))) (.tupL (.cons (.aggL (.cons (.refl _) (.cons .nil .nil))) (.refl _))) ⟨?_, rfl⟩
    have h1' : 600 < b.length := by omega
    simp [outC, Res.c, faultC, heq, h0, runF0, h1']
  have h1' : ¬ 600 < b.length := by omega
  refine ⟨fun h2 => ?_, fun h2 => ⟨fun h3 => ?_, fun h3 => ?_⟩⟩
  · refine gotRes_frz (σ' := σ) (FrzH.of_sub (by intro c_ x_ hc_; simp only [H.upd]; (repeat' split) <;> first | exact hc_ | (subst_vars; simp [hb1, hb2, hb3] at hc_))) (.tupL (.cons (.aggL (.cons (.refl _) (.cons .nil .nil))) (.refl _))) ⟨?_, rfl⟩
    simp [outC, Res.c, faultC, heq, h0, runF0, h1', h2]
  · refine gotRes_frz (σ' := σ) (FrzH.of_sub (by intro c_ x_ hc_; simp only [H.upd]; (repeat' split) <;> first | exact hc_ | (subst_vars; simp [hb1, hb2, hb3] at hc_))) (.tupL (.cons (.aggL (.cons (.refl _) (.cons .nil .nil))) (.refl _))) ⟨?_, rfl⟩
    simp [outC, Res.c, faultC, heq, h0, runF0, h1', h3]
  clear hv hc
  obtain ⟨⟨hs0, hs1⟩, _, hcl, hins, hlast, hck⟩ := check_ok heq
  refine ⟨AMake_of tel_27 tby_27 tzr_70 rfl hs0 (Int.le_refl _) (by omega) (by omega) fun bs hbs => ?_, AMake_of tel_91 tby_91 tzr_4 rfl hs0 (Int.le_refl _) (by omega) (by omega) fun bt hbt => ?_⟩
  focus
    simp only [upd_none3] at hbs
    simp (config := {decide := true, maxSteps := 2000000}) only [↓bpre, bpost, ↓reduceIte, Nat.reduceEqDiff, aargs, aparts, targs, alit, loadOk, not_false_eq_true, Wone, cond_true, cond_false, dstOk, true_and, and_true, and_self, if_true, if_false, reduceCtorEq, Option.map_some, Option.map_none, Option.map_id', ares, aret, Nat.reduceAdd, Nat.reduceLT, Nat.reduceMul, Nat.zero_add, lenOf, alen, vcBuiltin, Option.isNone_none, Option.isNone_some, Option.isSome_none, Option.isSome_some, aun, aconv, padd, Nat.mul_one, ne_eq, not_false_eq_true, Option.bind_some, List.cons_append, List.nil_append, List.append_nil, abuild, afill, TP.place, List.set_cons_zero, List.set_cons_succ, List.drop_succ_cons, List.drop_zero, List.take_succ_cons, List.take_zero, List.getElem?_cons_zero, List.getElem?_cons_succ, List.length_cons, List.length_nil, List.length_map, implies_true, true_implies, false_implies, forall_const, decide_true, decide_false, Bool.true_eq_false, Bool.false_eq_true, or_false, or_true, false_or, true_or, List.all_cons, List.all_nil, Bool.and_true, Bool.and_self, tzr_62, tzr_64, tsz_58, tsz_64, tfo_64_0, tsz_3, tpl_62, tsz_62, tpl_64, und_59, tfo_58_0, tel_27, tby_27, und_27, tzr_70, tel_91, tby_91, und_91, tzr_4, tpl_95, tzr_95, tfo_58_2, tsz_56, tel_56, tsz_87, tzr_87, tfo_87_0, tfo_95_8, tfo_87_4, rob_run, ↓lv_run_12, ↓lv_run_18, ↓lv_run_20, ↓lv_run_22, ↓lv_run_21, ↓lv_run_19, ↓lv_run_17, ↓lv_run_16, ↓lv_run_15, ↓lv_run_14, ↓lv_run_13, ↓lv_run_11, ↓lv_run_10, ↓lv_run_9, ↓lv_run_8, ↓lv_run_7, ↓lv_run_6, ↓lv_run_5, ↓lv_run_4, ↓lv_run_3, ↓lv_run_2, ↓lv_run_1, ↓lv_run_0, ↓sg_run_12, ↓sg_run_18, ↓sg_run_20, ↓sg_run_22, ↓sg_run_21, ↓sg_run_19, ↓sg_run_17, ↓sg_run_16, ↓sg_run_15, ↓sg_run_14, ↓sg_run_13, ↓sg_run_11, ↓sg_run_9, ↓sg_run_8, ↓sg_run_7, ↓sg_run_6, ↓sg_run_5, ↓sg_run_4, ↓sg_run_2, ↓sg_run_1, ↓sg_run_0, ↓pl_run_3, ↓wl_run_3, stab_all wa_run_3, Wreg_all wa_run_3, ↓pl_run_10, ↓wl_run_10, Wreg_of wa_run_10, hb1, hb2, hb3, hbs]
    refine AMake_of tel_91 tby_91 tzr_4 rfl hs0 (Int.le_refl _) (by omega) (by omega) fun bt hbt => ?_
    simp only [upd_none3] at hbt
    simp (config := {decide := true, maxSteps := 2000000}) only [↓bpre, bpost, ↓reduceIte, Nat.reduceEqDiff, aargs, aparts, targs, alit, loadOk, not_false_eq_true, Wone, cond_true, cond_false, dstOk, true_and, and_true, and_self, if_true, if_false, reduceCtorEq, Option.map_some, Option.map_none, Option.map_id', ares, aret, Nat.reduceAdd, Nat.reduceLT, Nat.reduceMul, Nat.zero_add, lenOf, alen, vcBuiltin, Option.isNone_none, Option.isNone_some, Option.isSome_none, Option.isSome_some, aun, aconv, padd, Nat.mul_one, ne_eq, not_false_eq_true, Option.bind_some, List.cons_append, List.nil_append, List.append_nil, abuild, afill, TP.place, List.set_cons_zero, List.set_cons_succ, List.drop_succ_cons, List.drop_zero, List.take_succ_cons, List.take_zero, List.getElem?_cons_zero, List.getElem?_cons_succ, List.length_cons, List.length_nil, List.length_map, implies_true, true_implies, false_implies, forall_const, decide_true, decide_false, Bool.true_eq_false, Bool.false_eq_true, or_false, or_true, false_or, true_or, List.all_cons, List.all_nil, Bool.and_true, Bool.and_self, tzr_62, tzr_64, tsz_58, tsz_64, tfo_64_0, tsz_3, tpl_62, tsz_62, tpl_64, und_59, tfo_58_0, tel_27, tby_27, und_27, tzr_70, tel_91, tby_91, und_91, tzr_4, tpl_95, tzr_95, tfo_58_2, tsz_56, tel_56, tsz_87, tzr_87, tfo_87_0, tfo_95_8, tfo_87_4, rob_run, ↓lv_run_12, ↓lv_run_18, ↓lv_run_20, ↓lv_run_22, ↓lv_run_21, ↓lv_run_19, ↓lv_run_17, ↓lv_run_16, ↓lv_run_15, ↓lv_run_14, ↓lv_run_13, ↓lv_run_11, ↓lv_run_10, ↓lv_run_9, ↓lv_run_8, ↓lv_run_7, ↓lv_run_6, ↓lv_run_5, ↓lv_run_4, ↓lv_run_3, ↓lv_run_2, ↓lv_run_1, ↓lv_run_0, ↓sg_run_12, ↓sg_run_18, ↓sg_run_20, ↓sg_run_22, ↓sg_run_21, ↓sg_run_19, ↓sg_run_17, ↓sg_run_16, ↓sg_run_15, ↓sg_run_14, ↓sg_run_13, ↓sg_run_11, ↓sg_run_9, ↓sg_run_8, ↓sg_run_7, ↓sg_run_6, ↓sg_run_5, ↓sg_run_4, ↓sg_run_2, ↓sg_run_1, ↓sg_run_0, ↓pl_run_3, ↓wl_run_3, stab_all wa_run_3, Wreg_all wa_run_3, ↓pl_run_10, ↓wl_run_10, Wreg_of wa_run_10, hb1, hb2, hb3, hbs, hbt]
    intro bm hbm
    have hV0 := run_start (σ0 := ((σ.upd b1 (.st [.v (.int .i64 0), .v (.slice none 0 0)])).upd b2 (.st [.v (.int .i64 0), .v (.int .i64 0)])).upd b3 (.st [.v (.int .i64 (checkF p).1), .v (.int .i64 (checkF p).2)])) (bs := bs) (bt := bt) (bm := bm) p b port (by simp only [upd_none3]; simp [hbs]) (by simp only [upd_none3]; simp [hbt]) (by simp only [upd_none3]; simp [hbm]) hbt.2.1 hbm.2.2.2.1 hbm.2.1
  rotate_left
  focus
    simp only [upd_none3] at hbt
    simp (config := {decide := true, maxSteps := 2000000}) only [↓bpre, bpost, ↓reduceIte, Nat.reduceEqDiff, aargs, aparts, targs, alit, loadOk, not_false_eq_true, Wone, cond_true, cond_false, dstOk, true_and, and_true, and_self, if_true, if_false, reduceCtorEq, Option.map_some, Option.map_none, Option.map_id', ares, aret, Nat.reduceAdd, Nat.reduceLT, Nat.reduceMul, Nat.zero_add, lenOf, alen, vcBuiltin, Option.isNone_none, Option.isNone_some, Option.isSome_none, Option.isSome_some, aun, aconv, padd, Nat.mul_one, ne_eq, not_false_eq_true, Option.bind_some, List.cons_append, List.nil_append, List.append_nil, abuild, afill, TP.place, List.set_cons_zero, List.set_cons_succ, List.drop_succ_cons, List.drop_zero, List.take_succ_cons, List.take_zero, List.getElem?_cons_zero, List.getElem?_cons_succ, List.length_cons, List.length_nil, List.length_map, implies_true, true_implies, false_implies, forall_const, decide_true, decide_false, Bool.true_eq_false, Bool.false_eq_true, or_false, or_true, false_or, true_or, List.all_cons, List.all_nil, Bool.and_true, Bool.and_self, tzr_62, tzr_64, tsz_58, tsz_64, tfo_64_0, tsz_3, tpl_62, tsz_62, tpl_64, und_59, tfo_58_0, tel_27, tby_27, und_27, tzr_70, tel_91, tby_91, und_91, tzr_4, tpl_95, tzr_95, tfo_58_2, tsz_56, tel_56, tsz_87, tzr_87, tfo_87_0, tfo_95_8, tfo_87_4, rob_run, ↓lv_run_12, ↓lv_run_18, ↓lv_run_20, ↓lv_run_22, ↓lv_run_21, ↓lv_run_19, ↓lv_run_17, ↓lv_run_16, ↓lv_run_15, ↓lv_run_14, ↓lv_run_13, ↓lv_run_11, ↓lv_run_10, ↓lv_run_9, ↓lv_run_8, ↓lv_run_7, ↓lv_run_6, ↓lv_run_5, ↓lv_run_4, ↓lv_run_3, ↓lv_run_2, ↓lv_run_1, ↓lv_run_0, ↓sg_run_12, ↓sg_run_18, ↓sg_run_20, ↓sg_run_22, ↓sg_run_21, ↓sg_run_19, ↓sg_run_17, ↓sg_run_16, ↓sg_run_15, ↓sg_run_14, ↓sg_run_13, ↓sg_run_11, ↓sg_run_9, ↓sg_run_8, ↓sg_run_7, ↓sg_run_6, ↓sg_run_5, ↓sg_run_4, ↓sg_run_2, ↓sg_run_1, ↓sg_run_0, ↓pl_run_3, ↓wl_run_3, stab_all wa_run_3, Wreg_all wa_run_3, ↓pl_run_10, ↓wl_run_10, Wreg_of wa_run_10, hb1, hb2, hb3, hbt]
    refine AMake_of tel_27 tby_27 tzr_70 rfl hs0 (Int.le_refl _) (by omega) (by omega) fun bs hbs => ?_
    simp only [upd_none3] at hbs
    simp (config := {decide := true, maxSteps := 2000000}) only [↓bpre, bpost, ↓reduceIte, Nat.reduceEqDiff, aargs, aparts, targs, alit, loadOk, not_false_eq_true, Wone, cond_true, cond_false, dstOk, true_and, and_true, and_self, if_true, if_false, reduceCtorEq, Option.map_some, Option.map_none, Option.map_id', ares, aret, Nat.reduceAdd, Nat.reduceLT, Nat.reduceMul, Nat.zero_add, lenOf, alen, vcBuiltin, Option.isNone_none, Option.isNone_some, Option.isSome_none, Option.isSome_some, aun, aconv, padd, Nat.mul_one, ne_eq, not_false_eq_true, Option.bind_some, List.cons_append, List.nil_append, List.append_nil, abuild, afill, TP.place, List.set_cons_zero, List.set_cons_succ, List.drop_succ_cons, List.drop_zero, List.take_succ_cons, List.take_zero, List.getElem?_cons_zero, List.getElem?_cons_succ, List.length_cons, List.length_nil, List.length_map, implies_true, true_implies, false_implies, forall_const, decide_true, decide_false, Bool.true_eq_false, Bool.false_eq_true, or_false, or_true, false_or, true_or, List.all_cons, List.all_nil, Bool.and_true, Bool.and_self, tzr_62, tzr_64, tsz_58, tsz_64, tfo_64_0, tsz_3, tpl_62, tsz_62, tpl_64, und_59, tfo_58_0, tel_27, tby_27, und_27, tzr_70, tel_91, tby_91, und_91, tzr_4, tpl_95, tzr_95, tfo_58_2, tsz_56, tel_56, tsz_87, tzr_87, tfo_87_0, tfo_95_8, tfo_87_4, rob_run, ↓lv_run_12, ↓lv_run_18, ↓lv_run_20, ↓lv_run_22, ↓lv_run_21, ↓lv_run_19, ↓lv_run_17, ↓lv_run_16, ↓lv_run_15, ↓lv_run_14, ↓lv_run_13, ↓lv_run_11, ↓lv_run_10, ↓lv_run_9, ↓lv_run_8, ↓lv_run_7, ↓lv_run_6, ↓lv_run_5, ↓lv_run_4, ↓lv_run_3, ↓lv_run_2, ↓lv_run_1, ↓lv_run_0, ↓sg_run_12, ↓sg_run_18, ↓sg_run_20, ↓sg_run_22, ↓sg_run_21, ↓sg_run_19, ↓sg_run_17, ↓sg_run_16, ↓sg_run_15, ↓sg_run_14, ↓sg_run_13, ↓sg_run_11, ↓sg_run_9, ↓sg_run_8, ↓sg_run_7, ↓sg_run_6, ↓sg_run_5, ↓sg_run_4, ↓sg_run_2, ↓sg_run_1, ↓sg_run_0, ↓pl_run_3, ↓wl_run_3, stab_all wa_run_3, Wreg_all wa_run_3, ↓pl_run_10, ↓wl_run_10, Wreg_of wa_run_10, hb1, hb2, hb3, hbs, hbt]
    intro bm hbm
    have hV0 := run_start (σ0 := ((σ.upd b1 (.st [.v (.int .i64 0), .v (.slice none 0 0)])).upd b2 (.st [.v (.int .i64 0), .v (.int .i64 0)])).upd b3 (.st [.v (.int .i64 (checkF p).1), .v (.int .i64 (checkF p).2)])) (bs := bs) (bt := bt) (bm := bm) p b port (by simp only [upd_none3]; simp [hbs]) (by simp only [upd_none3]; simp [hbt]) (by simp only [upd_none3]; simp [hbm]) (Ne.symm hbs.2.1) hbm.2.1 hbm.2.2.2.1
    rw [upd_comm _ (Ne.symm hbs.2.1)] at hV0
  all_goals
    refine vcLoop_of (lv := [4, 8, 10, 12]) (fun q : Nat × Nat => [(13, .v (.int .i64 q.1)), (14, .v (.int .i64 q.2))]) (runJ p b port σ b1 b2 bm bs bt) p.code.length (0, 1) ?_ ⟨⟨by simp, hcl.1⟩, by simp, by simp, _, _, _, hV0, ?_, ?_, ?_, ?_, p.code.length, Nat.le_refl _, rfl⟩ ?_
    · simp (config := {decide := true, maxSteps := 2000000}) only [↓bpre, bpost, ↓reduceIte, Nat.reduceEqDiff, aargs, aparts, targs, alit, loadOk, not_false_eq_true, Wone, cond_true, cond_false, dstOk, true_and, and_true, and_self, if_true, if_false, reduceCtorEq, Option.map_some, Option.map_none, Option.map_id', ares, aret, Nat.reduceAdd, Nat.reduceLT, Nat.reduceMul, Nat.zero_add, lenOf, alen, vcBuiltin, Option.isNone_none, Option.isNone_some, Option.isSome_none, Option.isSome_some, aun, aconv, padd, Nat.mul_one, ne_eq, not_false_eq_true, Option.bind_some, List.cons_append, List.nil_append, List.append_nil, abuild, afill, TP.place, List.set_cons_zero, List.set_cons_succ, List.drop_succ_cons, List.drop_zero, List.take_succ_cons, List.take_zero, List.getElem?_cons_zero, List.getElem?_cons_succ, List.length_cons, List.length_nil, List.length_map, implies_true, true_implies, false_implies, forall_const, decide_true, decide_false, Bool.true_eq_false, Bool.false_eq_true, or_false, or_true, false_or, true_or, List.all_cons, List.all_nil, Bool.and_true, Bool.and_self, tzr_62, tzr_64, tsz_58, tsz_64, tfo_64_0, tsz_3, tpl_62, tsz_62, tpl_64, und_59, tfo_58_0, tel_27, tby_27, und_27, tzr_70, tel_91, tby_91, und_91, tzr_4, tpl_95, tzr_95, tfo_58_2, tsz_56, tel_56, tsz_87, tzr_87, tfo_87_0, tfo_95_8, tfo_87_4, rob_run, ↓lv_run_12, ↓lv_run_18, ↓lv_run_20, ↓lv_run_22, ↓lv_run_21, ↓lv_run_19, ↓lv_run_17, ↓lv_run_16, ↓lv_run_15, ↓lv_run_14, ↓lv_run_13, ↓lv_run_11, ↓lv_run_10, ↓lv_run_9, ↓lv_run_8, ↓lv_run_7, ↓lv_run_6, ↓lv_run_5, ↓lv_run_4, ↓lv_run_3, ↓lv_run_2, ↓lv_run_1, ↓lv_run_0, ↓sg_run_12, ↓sg_run_18, ↓sg_run_20, ↓sg_run_22, ↓sg_run_21, ↓sg_run_19, ↓sg_run_17, ↓sg_run_16, ↓sg_run_15, ↓sg_run_14, ↓sg_run_13, ↓sg_run_11, ↓sg_run_9, ↓sg_run_8, ↓sg_run_7, ↓sg_run_6, ↓sg_run_5, ↓sg_run_4, ↓sg_run_2, ↓sg_run_1, ↓sg_run_0, ↓pl_run_3, ↓wl_run_3, stab_all wa_run_3, Wreg_all wa_run_3, ↓pl_run_10, ↓wl_run_10, Wreg_of wa_run_10]
      trivial
    · simp [H.upd, hb2, hb3]
    · simp [H.upd, hb2, hb3]
    · intro c o hc
      have n1 : c ≠ b1 := by rintro rfl; simp [hb1] at hc
      have n2 : c ≠ b2 := by rintro rfl; simp [hb2] at hc
      have n3 : c ≠ b3 := by rintro rfl; simp [hb3] at hc
      exact ⟨n1, n2, by simp [H.upd, n1, n2, n3, hc]⟩
    · exact begin_inv p b port ⟨hs0, hs1⟩ (by omega) (by omega) hby
    rintro k ⟨a, n⟩ σ' ⟨ha, hn1, hn2, σ0, y, s, hV, ho1, ho2, hsub, hI, f, hf, hR⟩
    clear hV0
    simp (config := {decide := true, maxSteps := 2000000}) only [↓bpre, bpost, ↓reduceIte, Nat.reduceEqDiff, aargs, aparts, targs, alit, loadOk, not_false_eq_true, Wone, cond_true, cond_false, dstOk, true_and, and_true, and_self, if_true, if_false, reduceCtorEq, Option.map_some, Option.map_none, Option.map_id', ares, aret, Nat.reduceAdd, Nat.reduceLT, Nat.reduceMul, Nat.zero_add, lenOf, alen, vcBuiltin, Option.isNone_none, Option.isNone_some, Option.isSome_none, Option.isSome_some, aun, aconv, padd, Nat.mul_one, ne_eq, not_false_eq_true, Option.bind_some, List.cons_append, List.nil_append, List.append_nil, abuild, afill, TP.place, List.set_cons_zero, List.set_cons_succ, List.drop_succ_cons, List.drop_zero, List.take_succ_cons, List.take_zero, List.getElem?_cons_zero, List.getElem?_cons_succ, List.length_cons, List.length_nil, List.length_map, implies_true, true_implies, false_implies, forall_const, decide_true, decide_false, Bool.true_eq_false, Bool.false_eq_true, or_false, or_true, false_or, true_or, List.all_cons, List.all_nil, Bool.and_true, Bool.and_self, tzr_62, tzr_64, tsz_58, tsz_64, tfo_64_0, tsz_3, tpl_62, tsz_62, tpl_64, und_59, tfo_58_0, tel_27, tby_27, und_27, tzr_70, tel_91, tby_91, und_91, tzr_4, tpl_95, tzr_95, tfo_58_2, tsz_56, tel_56, tsz_87, tzr_87, tfo_87_0, tfo_95_8, tfo_87_4, rob_run, ↓lv_run_12, ↓lv_run_18, ↓lv_run_20, ↓lv_run_22, ↓lv_run_21, ↓lv_run_19, ↓lv_run_17, ↓lv_run_16, ↓lv_run_15, ↓lv_run_14, ↓lv_run_13, ↓lv_run_11, ↓lv_run_10, ↓lv_run_9, ↓lv_run_8, ↓lv_run_7, ↓lv_run_6, ↓lv_run_5, ↓lv_run_4, ↓lv_run_3, ↓lv_run_2, ↓lv_run_1, ↓lv_run_0, ↓sg_run_12, ↓sg_run_18, ↓sg_run_20, ↓sg_run_22, ↓sg_run_21, ↓sg_run_19, ↓sg_run_17, ↓sg_run_16, ↓sg_run_15, ↓sg_run_14, ↓sg_run_13, ↓sg_run_11, ↓sg_run_9, ↓sg_run_8, ↓sg_run_7, ↓sg_run_6, ↓sg_run_5, ↓sg_run_4, ↓sg_run_2, ↓sg_run_1, ↓sg_run_0, ↓pl_run_3, ↓wl_run_3, stab_all wa_run_3, Wreg_all wa_run_3, ↓pl_run_10, ↓wl_run_10, Wreg_of wa_run_10, hb1, hb2]
    obtain ⟨x, hx⟩ : ∃ x, p.code[a]? = some x := ⟨_, List.getElem?_eq_getElem ha.2⟩
    refine ⟨by omega, aix_map (f := Ins.c) (x := x) (by simpa using hx) rfl ?_⟩
    simp only [Ins.c]
    have e1 := hV.old ho1
    have e2 := hV.old ho2
    simp (config := {decide := true, maxSteps := 2000000}) only [↓bpre, bpost, ↓reduceIte, Nat.reduceEqDiff, aargs, aparts, targs, alit, loadOk, not_false_eq_true, Wone, cond_true, cond_false, dstOk, true_and, and_true, and_self, if_true, if_false, reduceCtorEq, Option.map_some, Option.map_none, Option.map_id', ares, aret, Nat.reduceAdd, Nat.reduceLT, Nat.reduceMul, Nat.zero_add, lenOf, alen, vcBuiltin, Option.isNone_none, Option.isNone_some, Option.isSome_none, Option.isSome_some, aun, aconv, padd, Nat.mul_one, ne_eq, not_false_eq_true, Option.bind_some, List.cons_append, List.nil_append, List.append_nil, abuild, afill, TP.place, List.set_cons_zero, List.set_cons_succ, List.drop_succ_cons, List.drop_zero, List.take_succ_cons, List.take_zero, List.getElem?_cons_zero, List.getElem?_cons_succ, List.length_cons, List.length_nil, List.length_map, implies_true, true_implies, false_implies, forall_const, decide_true, decide_false, Bool.true_eq_false, Bool.false_eq_true, or_false, or_true, false_or, true_or, List.all_cons, List.all_nil, Bool.and_true, Bool.and_self, tzr_62, tzr_64, tsz_58, tsz_64, tfo_64_0, tsz_3, tpl_62, tsz_62, tpl_64, und_59, tfo_58_0, tel_27, tby_27, und_27, tzr_70, tel_91, tby_91, und_91, tzr_4, tpl_95, tzr_95, tfo_58_2, tsz_56, tel_56, tsz_87, tzr_87, tfo_87_0, tfo_95_8, tfo_87_4, rob_run, ↓lv_run_12, ↓lv_run_18, ↓lv_run_20, ↓lv_run_22, ↓lv_run_21, ↓lv_run_19, ↓lv_run_17, ↓lv_run_16, ↓lv_run_15, ↓lv_run_14, ↓lv_run_13, ↓lv_run_11, ↓lv_run_10, ↓lv_run_9, ↓lv_run_8, ↓lv_run_7, ↓lv_run_6, ↓lv_run_5, ↓lv_run_4, ↓lv_run_3, ↓lv_run_2, ↓lv_run_1, ↓lv_run_0, ↓sg_run_12, ↓sg_run_18, ↓sg_run_20, ↓sg_run_22, ↓sg_run_21, ↓sg_run_19, ↓sg_run_17, ↓sg_run_16, ↓sg_run_15, ↓sg_run_14, ↓sg_run_13, ↓sg_run_11, ↓sg_run_9, ↓sg_run_8, ↓sg_run_7, ↓sg_run_6, ↓sg_run_5, ↓sg_run_4, ↓sg_run_2, ↓sg_run_1, ↓sg_run_0, ↓pl_run_3, ↓wl_run_3, stab_all wa_run_3, Wreg_all wa_run_3, ↓pl_run_10, ↓wl_run_10, Wreg_of wa_run_10, hb1, hb2, e1, e2]
    intro b5 hb5
    have n1 : b5 ≠ b1 := by rintro rfl; rw [e1] at hb5; cases hb5
    have n2 : b5 ≠ b2 := by rintro rfl; rw [e2] at hb5; cases hb5
    have n1' := Ne.symm n1
    have n2' := Ne.symm n2
    simp (config := {decide := true, maxSteps := 2000000}) only [↓bpre, bpost, ↓reduceIte, Nat.reduceEqDiff, aargs, aparts, targs, alit, loadOk, not_false_eq_true, Wone, cond_true, cond_false, dstOk, true_and, and_true, and_self, if_true, if_false, reduceCtorEq, Option.map_some, Option.map_none, Option.map_id', ares, aret, Nat.reduceAdd, Nat.reduceLT, Nat.reduceMul, Nat.zero_add, lenOf, alen, vcBuiltin, Option.isNone_none, Option.isNone_some, Option.isSome_none, Option.isSome_some, aun, aconv, padd, Nat.mul_one, ne_eq, not_false_eq_true, Option.bind_some, List.cons_append, List.nil_append, List.append_nil, abuild, afill, TP.place, List.set_cons_zero, List.set_cons_succ, List.drop_succ_cons, List.drop_zero, List.take_succ_cons, List.take_zero, List.getElem?_cons_zero, List.getElem?_cons_succ, List.length_cons, List.length_nil, List.length_map, implies_true, true_implies, false_implies, forall_const, decide_true, decide_false, Bool.true_eq_false, Bool.false_eq_true, or_false, or_true, false_or, true_or, List.all_cons, List.all_nil, Bool.and_true, Bool.and_self, tzr_62, tzr_64, tsz_58, tsz_64, tfo_64_0, tsz_3, tpl_62, tsz_62, tpl_64, und_59, tfo_58_0, tel_27, tby_27, und_27, tzr_70, tel_91, tby_91, und_91, tzr_4, tpl_95, tzr_95, tfo_58_2, tsz_56, tel_56, tsz_87, tzr_87, tfo_87_0, tfo_95_8, tfo_87_4, rob_run, ↓lv_run_12, ↓lv_run_18, ↓lv_run_20, ↓lv_run_22, ↓lv_run_21, ↓lv_run_19, ↓lv_run_17, ↓lv_run_16, ↓lv_run_15, ↓lv_run_14, ↓lv_run_13, ↓lv_run_11, ↓lv_run_10, ↓lv_run_9, ↓lv_run_8, ↓lv_run_7, ↓lv_run_6, ↓lv_run_5, ↓lv_run_4, ↓lv_run_3, ↓lv_run_2, ↓lv_run_1, ↓lv_run_0, ↓sg_run_12, ↓sg_run_18, ↓sg_run_20, ↓sg_run_22, ↓sg_run_21, ↓sg_run_19, ↓sg_run_17, ↓sg_run_16, ↓sg_run_15, ↓sg_run_14, ↓sg_run_13, ↓sg_run_11, ↓sg_run_9, ↓sg_run_8, ↓sg_run_7, ↓sg_run_6, ↓sg_run_5, ↓sg_run_4, ↓sg_run_2, ↓sg_run_1, ↓sg_run_0, ↓pl_run_3, ↓wl_run_3, stab_all wa_run_3, Wreg_all wa_run_3, ↓pl_run_10, ↓wl_run_10, Wreg_of wa_run_10, hb1, hb2, e1, e2, n1, n2, n1', n2']
    obtain ⟨hfit, hto⟩ := ins_ok (hins a x hx)
    obtain ⟨hxo, hto0⟩ := fits_ok hfit ⟨hs0, hs1⟩ (hn x (List.mem_of_getElem? hx))
    obtain ⟨m, rfl⟩ : ∃ m, f = m + 1 := ⟨f - 1, by omega⟩
    have hV5 := hV.over hb5 (.st x.c)
    have htabs : p.tabs = [] := List.eq_nil_of_length_eq_zero h0
    have h13 : x.op ≠ 13 := fits_13 (slots := p.slots) (by rw [← htabs]; exact hfit)
    have hsl : (s.slot.length : Int) = p.slots := hI.slot
    have hcall := c_leads hV5 x (by rw [hsl]; exact hxo) h13 hI.rg (by have := hI.out; omega)
    have hI' := leads_inv hI (by omega) hxo
    refine ⟨fun h17 => ?_, fun h17 => ?_⟩
    · refine gotRes_frz (σ' := σ) (FrzH.of_sub fun c o hc => ?_) (.tupL (.cons (.aggL (.cons (.refl _) (.cons .nil .nil))) (.refl _))) ⟨?_, rfl⟩
      · obtain ⟨m1, m2, m3⟩ := hsub c o hc
        have m5 : c ≠ b5 := by rintro rfl; rw [hV.old m3] at hb5; cases hb5
        rw [upd_ne _ _ m2, upd_ne _ _ m1, upd_ne _ _ m5]
        exact hV.old m3
      · simp only [runF0, heq, h0, h1', ne_eq, not_true, if_false, h2, h3, or_self]
        rw [← hR]
        simp [runL, hx, h17, outC, Res.c, faultC]
    simp only [Ins.c] at hcall
    refine hcall.mono ?_
    rintro e σ2 ⟨y2, rfl, hV2⟩
    show endK _ _ _ _
    have e1' := hV2.old (show (σ0.upd b5 _) b1 = some _ by rw [upd_ne _ _ n1']; exact ho1)
    have e2' := hV2.old (show (σ0.upd b5 _) b2 = some _ by rw [upd_ne _ _ n2']; exact ho2)
    have e5' := hV2.old (upd_same _ _ _)
    obtain ⟨σ3, hV3, hb5', rfl⟩ := hV2.back (hV.new hb5)
    have n5 : bm ≠ b5 := by rintro rfl; rw [hV3.m] at hb5'; cases hb5'
    have em := hV3.m
    have et := fun k => mC_tail (x := .sl bs (leadsS s x).2.2.slot.length 1 70) (y := .sl bt (leadsS s x).2.2.set.length 1 4) (z := y2) hV3.ok k
    have et2 := et 2
    have et3 := et 3
    simp only [Nat.reduceAdd, List.getElem?_cons_zero, List.getElem?_cons_succ] at et2 et3
    have ld : 2 ≤ (mC (leadsS s x).2.2 (.sl bs (leadsS s x).2.2.slot.length 1 70) (.sl bt (leadsS s x).2.2.set.length 1 4) y2).length - 28 := by rw [mC_len hV3.ok]; decide
    have et4 : (List.drop 28 (mC (leadsS s x).2.2 (.sl bs (leadsS s x).2.2.slot.length 1 70) (.sl bt (leadsS s x).2.2.set.length 1 4) y2)).take 2 = [.v (.int .i64 (leadsS s x).2.2.oport), y2] := by
      apply List.ext_getElem?
      intro i
      rcases i with _ | _ | i
      · simpa using et2
      · simpa using et3
      · simp; omega
    have e1'' := hV3.old ho1
    have e2'' := hV3.old ho2
    have hy1 : y2.one = true := by rcases hV3.outs with ⟨rfl, _⟩ | ⟨bo, rfl, _⟩ <;> rfl
    simp (config := {decide := true, maxSteps := 2000000}) only [↓bpre, bpost, ↓reduceIte, Nat.reduceEqDiff, aargs, aparts, targs, alit, loadOk, not_false_eq_true, Wone, cond_true, cond_false, dstOk, true_and, and_true, and_self, if_true, if_false, reduceCtorEq, Option.map_some, Option.map_none, Option.map_id', ares, aret, Nat.reduceAdd, Nat.reduceLT, Nat.reduceMul, Nat.zero_add, lenOf, alen, vcBuiltin, Option.isNone_none, Option.isNone_some, Option.isSome_none, Option.isSome_some, aun, aconv, padd, Nat.mul_one, ne_eq, not_false_eq_true, Option.bind_some, List.cons_append, List.nil_append, List.append_nil, abuild, afill, TP.place, List.set_cons_zero, List.set_cons_succ, List.drop_succ_cons, List.drop_zero, List.take_succ_cons, List.take_zero, List.getElem?_cons_zero, List.getElem?_cons_succ, List.length_cons, List.length_nil, List.length_map, implies_true, true_implies, false_implies, forall_const, decide_true, decide_false, Bool.true_eq_false, Bool.false_eq_true, or_false, or_true, false_or, true_or, List.all_cons, List.all_nil, Bool.and_true, Bool.and_self, tzr_62, tzr_64, tsz_58, tsz_64, tfo_64_0, tsz_3, tpl_62, tsz_62, tpl_64, und_59, tfo_58_0, tel_27, tby_27, und_27, tzr_70, tel_91, tby_91, und_91, tzr_4, tpl_95, tzr_95, tfo_58_2, tsz_56, tel_56, tsz_87, tzr_87, tfo_87_0, tfo_95_8, tfo_87_4, rob_run, ↓lv_run_12, ↓lv_run_18, ↓lv_run_20, ↓lv_run_22, ↓lv_run_21, ↓lv_run_19, ↓lv_run_17, ↓lv_run_16, ↓lv_run_15, ↓lv_run_14, ↓lv_run_13, ↓lv_run_11, ↓lv_run_10, ↓lv_run_9, ↓lv_run_8, ↓lv_run_7, ↓lv_run_6, ↓lv_run_5, ↓lv_run_4, ↓lv_run_3, ↓lv_run_2, ↓lv_run_1, ↓lv_run_0, ↓sg_run_12, ↓sg_run_18, ↓sg_run_20, ↓sg_run_22, ↓sg_run_21, ↓sg_run_19, ↓sg_run_17, ↓sg_run_16, ↓sg_run_15, ↓sg_run_14, ↓sg_run_13, ↓sg_run_11, ↓sg_run_9, ↓sg_run_8, ↓sg_run_7, ↓sg_run_6, ↓sg_run_5, ↓sg_run_4, ↓sg_run_2, ↓sg_run_1, ↓sg_run_0, ↓pl_run_3, ↓wl_run_3, stab_all wa_run_3, Wreg_all wa_run_3, ↓pl_run_10, ↓wl_run_10, Wreg_of wa_run_10, hb1, hb2, e1', e2', e1'', e2'', e5', em, n5, n1, n2, n1', n2', List.length_drop, ld, et4, hy1, Bool.true_and]
    have hsub3 : ∀ c o, σ c = some o → c ≠ b1 ∧ c ≠ b2 ∧ c ≠ b5 ∧ σ3 c = some o := fun c o hc => by
      obtain ⟨m1, m2, m3⟩ := hsub c o hc
      exact ⟨m1, m2, (by rintro rfl; rw [hV3.old m3] at hb5'; cases hb5'), hV3.old m3⟩
    have hR2 : runL p.code (m + 1) a n s = if (leadsS s x).2.1 ≠ 0 then (⟨0, []⟩, 0, ((leadsS s x).2.1, (a : Int))) else if x.op = 16 then (⟨(leadsS s x).2.2.oport, (leadsS s x).2.2.out⟩, (n : Int), (0, 0)) else runL p.code m (if (leadsS s x).1 then a + x.to.toNat + 1 else a + 1) (n + 1) (leadsS s x).2.2 := by
      simp only [runL, hx, if_neg h17]
    have hRF : runF0 p b port = runL p.code p.code.length 0 1 (begin0 p (.v (.slice none 0 0)) b port) := by
      simp only [runF0, heq, h0, h1', ne_eq, not_true, if_false, h2, h3, or_self]
    rw [hR2] at hR
    refine ⟨fun he => ⟨fun h16 => ?_, fun h16 => onB_intro (fun hov => ?_) (fun hov => ?_)⟩, fun he => ?_⟩
    · refine gotRes_frz (σ' := σ) (FrzH.of_sub fun c o hc => ?_) (.tupL (.cons (.aggL (.cons (.refl _) (.cons (d := .ro ((leadsS s x).2.2.out.map u8r)) ?_ .nil))) (.refl _))) ⟨?_, rfl⟩
      · obtain ⟨m1, m2, m5, m3⟩ := hsub3 c o hc
        rw [upd_ne _ _ m2, upd_ne _ _ m1, upd_ne _ _ m5]
        exact m3
      · rcases hV3.outs with ⟨rfl, ho⟩ | ⟨bo, rfl, ho, hb⟩
        · rw [ho]; exact .nil
        · have k1 : bo ≠ b1 := by rintro rfl; rw [ho1] at hb; cases hb
          have k2 : bo ≠ b2 := by rintro rfl; rw [ho2] at hb; cases hb
          have k5 : bo ≠ b5 := by rintro rfl; rw [ho] at hb5'; cases hb5'
          refine .sl bo _ 1 _ 5 ((leadsS s x).2.2.out.map u8r) _ (by rw [upd_ne _ _ k2, upd_ne _ _ k1, upd_ne _ _ k5]; exact ho) ?_ (by simp) (fun i r hi => ⟨r, hi, rfl⟩) (fun i r0 r j c d h1 h2 h3 h4 => ?_)
          · cases hq : σ bo with
            | none => rfl
            | some o => rw [(hsub bo o hq).2.2] at hb; cases hb
          · rw [h1] at h2; cases h2; rw [h3] at h4; cases h4; exact .refl _
      · rw [hRF, ← hR, if_neg (by simp [he]), if_pos h16]; rfl
    · have hto2 := hto (leads_op hov)
      refine ⟨p.code.length - (a + x.to.toNat + 1), by omega, (a + x.to.toNat + 1, n + 1), σ3, ⟨?_, ?_⟩, FrzH.of_sub (sub_upd hb5'), ⟨⟨by simp only; omega, by simp only; omega⟩, by simp only; omega, by simp only; omega, σ0, y2, _, hV3, ho1, ho2, hsub, hI', m, by omega, ?_⟩⟩
      · rw [wrap_i64 (n := (a : Int) + x.to) (by omega) (by omega), wrap_i64 (by omega) (by omega)]; simp only; congr 3; omega
      · rw [wrap_i64 (by omega) (by omega)]; simp
      · rw [← hR, if_neg (by simp [he]), if_neg h16, hov]; simp
    · have hlt : a + 1 < p.code.length := by
        obtain ⟨z, hz, hzo⟩ := hlast
        rcases Nat.lt_or_ge (a + 1) p.code.length with h | h
        · exact h
        · exfalso
          have : a = p.code.length - 1 := by omega
          rw [← this, hx] at hz; cases hz
          rcases hzo with h | h
          · exact h16 h
          · exact h17 h
      refine ⟨p.code.length - (a + 1), by omega, (a + 1, n + 1), σ3, ⟨?_, ?_⟩, FrzH.of_sub (sub_upd hb5'), ⟨⟨by simp only; omega, by simp only; omega⟩, by simp only; omega, by simp only; omega, σ0, y2, _, hV3, ho1, ho2, hsub, hI', m, by omega, ?_⟩⟩
      · rw [wrap_i64 (by omega) (by omega)]; simp
      · rw [wrap_i64 (by omega) (by omega)]; simp
      · rw [← hR, if_neg (by simp [he]), if_neg h16, hov]; simp
    · refine gotRes_frz (σ' := σ) (FrzH.of_sub fun c o hc => ?_) (.tupL (.cons (.aggL (.cons (.refl _) (.cons .nil .nil))) (.refl _))) ⟨?_, rfl⟩
      · obtain ⟨m1, m2, m5, m3⟩ := hsub3 c o hc
        rw [upd_ne _ _ m2, upd_ne _ _ m1, upd_ne _ _ m5]
        exact m3
      · rw [hRF, ← hR, if_pos he]; rfl
end Y
