/- A part of the proof: Y8. -/
import Derived.Test.YtlchnjgnfomiaaaY7
set_option linter.unusedSimpArgs false
set_option linter.unusedVariables false
open Go Go.Ag Go.Proofs
namespace Y
def pl_vfits : Nat → Plan
  | 6 => .first 0 [2, 3, 4, 5, 6, 7, 8, 9, 10, 11, 12, 13, 14] false (.first 1 [2, 3, 4, 5, 6, 7, 8, 9, 10, 11, 12, 13, 14] false (.first 2 [3, 4, 5, 6, 7, 8, 9, 10, 11, 12, 13, 14] false (.first 3 [4, 5, 6, 7, 8, 9, 10, 11, 12, 13, 14] false (.first 4 [5, 6, 7, 8, 9, 10, 11, 12, 13, 14] false (.first 5 [6, 7, 8, 9, 10, 11, 12, 13, 14] false (.first 6 [8, 9, 10, 13, 14] false (.first 7 [8, 9, 10, 13, 14] false (.first 8 [9, 10, 13, 14] false (.first 9 [10, 13, 14] false (.first 11 [12, 13, 14] true (.alt 10 (.first 12 [13, 14] false (.first 13 [14] false (.first 14 [] false (.done)))) (.alt 12 (.alt 10 (.first 13 [14] false (.first 14 [] false (.done))) (.stop)) (.stop)))))))))))))
  | _ => .stop
def lv_vfits : Nat → Option (List Tmp)
  | 9 => some [4]
  | 8 => some [1, 14, 15, 16]
  | 7 => some [4]
  | 6 => some [1, 14, 15, 16, 35]
  | 5 => some [1, 5, 6, 14, 15, 16]
  | 4 => some [1, 14, 15, 16, 17]
  | 3 => some [1, 14, 15, 16]
  | 2 => some [4]
  | 1 => some [1, 2, 12]
  | 0 => some [1, 2]
  | _ => none
def cf_vfits : Cfg := { pl := pl_vfits, rob := fun i => i != 6, wa := fun r => r == 6, lv := lv_vfits }
theorem lv_vfits_9 : cf_vfits.lv 9 = some [4] := rfl
theorem lv_vfits_8 : cf_vfits.lv 8 = some [1, 14, 15, 16] := rfl
theorem lv_vfits_7 : cf_vfits.lv 7 = some [4] := rfl
theorem lv_vfits_6 : cf_vfits.lv 6 = some [1, 14, 15, 16, 35] := rfl
theorem lv_vfits_5 : cf_vfits.lv 5 = some [1, 5, 6, 14, 15, 16] := rfl
theorem lv_vfits_4 : cf_vfits.lv 4 = some [1, 14, 15, 16, 17] := rfl
theorem lv_vfits_3 : cf_vfits.lv 3 = some [1, 14, 15, 16] := rfl
theorem lv_vfits_2 : cf_vfits.lv 2 = some [4] := rfl
theorem lv_vfits_1 : cf_vfits.lv 1 = some [1, 2, 12] := rfl
theorem lv_vfits_0 : cf_vfits.lv 0 = some [1, 2] := rfl
theorem sg_vfits_9 : cf_vfits.sg 9 = [] := rfl
theorem sg_vfits_8 : cf_vfits.sg 8 = [] := rfl
theorem sg_vfits_7 : cf_vfits.sg 7 = [] := rfl
theorem sg_vfits_5 : cf_vfits.sg 5 = [] := rfl
theorem sg_vfits_4 : cf_vfits.sg 4 = [] := rfl
theorem sg_vfits_3 : cf_vfits.sg 3 = [] := rfl
theorem sg_vfits_2 : cf_vfits.sg 2 = [] := rfl
theorem sg_vfits_1 : cf_vfits.sg 1 = [] := rfl
theorem sg_vfits_0 : cf_vfits.sg 0 = [] := rfl
theorem rob_vfits (i : Nat) : cf_vfits.rob i = ((i != 6)) := rfl
theorem pl_vfits_6 : cf_vfits.pl 6 = .first 0 [2, 3, 4, 5, 6, 7, 8, 9, 10, 11, 12, 13, 14] false (.first 1 [2, 3, 4, 5, 6, 7, 8, 9, 10, 11, 12, 13, 14] false (.first 2 [3, 4, 5, 6, 7, 8, 9, 10, 11, 12, 13, 14] false (.first 3 [4, 5, 6, 7, 8, 9, 10, 11, 12, 13, 14] false (.first 4 [5, 6, 7, 8, 9, 10, 11, 12, 13, 14] false (.first 5 [6, 7, 8, 9, 10, 11, 12, 13, 14] false (.first 6 [8, 9, 10, 13, 14] false (.first 7 [8, 9, 10, 13, 14] false (.first 8 [9, 10, 13, 14] false (.first 9 [10, 13, 14] false (.first 11 [12, 13, 14] true (.alt 10 (.first 12 [13, 14] false (.first 13 [14] false (.first 14 [] false (.done)))) (.alt 12 (.alt 10 (.first 13 [14] false (.first 14 [] false (.done))) (.stop)) (.stop))))))))))))) := rfl
theorem wa_vfits_6 : cf_vfits.wa 6 = true := rfl
theorem wl_vfits_6 : cf_vfits.wl 6 = [] := rfl
theorem ok_vfits : okCode cf_vfits.pl (Try.f45.body.get!) = true := by kernel_rfl
set_option maxRecDepth 100000 in
theorem c_vfits0 (p : Prog) (σ : H) (ht : p.tabs.length < 9223372036854775808) : ACalls Try.prog 45 [.agg p.c, .v (.slice none 0 0)] σ fun e σ' => e = .ret (.v (.bool (decide (p.tabs.length = 0)))) ∧ σ' = σ := by
  refine acalls_go cf_vfits 37 [.tmp 4] mix Try.func45 (by decide) rfl ok_vfits rfl (Nat.le_of_ble_eq_true rfl) rfl ?_
  simp only [Prog.c]
  simp (config := {decide := true, maxSteps := 2000000}) only [↓bpre, bpost, ↓reduceIte, Nat.reduceEqDiff, aargs, aparts, targs, alit, loadOk, not_false_eq_true, Wone, cond_true, cond_false, dstOk, true_and, and_true, and_self, if_true, if_false, reduceCtorEq, Option.map_some, Option.map_none, Option.map_id', ares, aret, Nat.reduceAdd, Nat.reduceLT, Nat.reduceMul, Nat.zero_add, lenOf, alen, vcBuiltin, Option.isNone_none, Option.isNone_some, Option.isSome_none, Option.isSome_some, aun, aconv, padd, Nat.mul_one, ne_eq, not_false_eq_true, Option.bind_some, List.cons_append, List.nil_append, List.append_nil, abuild, afill, TP.place, List.set_cons_zero, List.set_cons_succ, List.drop_succ_cons, List.drop_zero, List.take_succ_cons, List.take_zero, List.getElem?_cons_zero, List.getElem?_cons_succ, List.length_cons, List.length_nil, List.length_map, implies_true, true_implies, false_implies, forall_const, decide_true, decide_false, Bool.true_eq_false, Bool.false_eq_true, or_false, or_true, false_or, true_or, List.all_cons, List.all_nil, Bool.and_true, Bool.and_self, tfo_58_1, tsz_55, und_55, und_67, tel_55, tsz_104, tzr_104, tel_67, tsz_111, isp_111, tfo_104_0, tsz_3, rob_vfits, ↓lv_vfits_9, ↓lv_vfits_8, ↓lv_vfits_7, ↓lv_vfits_6, ↓lv_vfits_5, ↓lv_vfits_4, ↓lv_vfits_3, ↓lv_vfits_2, ↓lv_vfits_1, ↓lv_vfits_0, ↓sg_vfits_9, ↓sg_vfits_8, ↓sg_vfits_7, ↓sg_vfits_5, ↓sg_vfits_4, ↓sg_vfits_3, ↓sg_vfits_2, ↓sg_vfits_1, ↓sg_vfits_0, ↓pl_vfits_6, ↓wl_vfits_6, stab_all wa_vfits_6, Wreg_all wa_vfits_6]
  refine ⟨fun h0 => ?_, fun h0 => gotRes_one ⟨?_, rfl⟩⟩
  · refine vcLoop_of (lv := [1, 14, 15]) (fun (_ : Unit) => [(16, .v (.int .i64 0))]) (fun k _ σ' => σ' = σ) 0 () ?_ rfl ?_
    · simp (config := {decide := true, maxSteps := 2000000}) only [↓bpre, bpost, ↓reduceIte, Nat.reduceEqDiff, aargs, aparts, targs, alit, loadOk, not_false_eq_true, Wone, cond_true, cond_false, dstOk, true_and, and_true, and_self, if_true, if_false, reduceCtorEq, Option.map_some, Option.map_none, Option.map_id', ares, aret, Nat.reduceAdd, Nat.reduceLT, Nat.reduceMul, Nat.zero_add, lenOf, alen, vcBuiltin, Option.isNone_none, Option.isNone_some, Option.isSome_none, Option.isSome_some, aun, aconv, padd, Nat.mul_one, ne_eq, not_false_eq_true, Option.bind_some, List.cons_append, List.nil_append, List.append_nil, abuild, afill, TP.place, List.set_cons_zero, List.set_cons_succ, List.drop_succ_cons, List.drop_zero, List.take_succ_cons, List.take_zero, List.getElem?_cons_zero, List.getElem?_cons_succ, List.length_cons, List.length_nil, List.length_map, implies_true, true_implies, false_implies, forall_const, decide_true, decide_false, Bool.true_eq_false, Bool.false_eq_true, or_false, or_true, false_or, true_or, List.all_cons, List.all_nil, Bool.and_true, Bool.and_self, tfo_58_1, tsz_55, und_55, und_67, tel_55, tsz_104, tzr_104, tel_67, tsz_111, isp_111, tfo_104_0, tsz_3, rob_vfits, ↓lv_vfits_9, ↓lv_vfits_8, ↓lv_vfits_7, ↓lv_vfits_6, ↓lv_vfits_5, ↓lv_vfits_4, ↓lv_vfits_3, ↓lv_vfits_2, ↓lv_vfits_1, ↓lv_vfits_0, ↓sg_vfits_9, ↓sg_vfits_8, ↓sg_vfits_7, ↓sg_vfits_5, ↓sg_vfits_4, ↓sg_vfits_3, ↓sg_vfits_2, ↓sg_vfits_1, ↓sg_vfits_0, ↓pl_vfits_6, ↓wl_vfits_6, stab_all wa_vfits_6, Wreg_all wa_vfits_6]
    intro k _ σ' hs
    subst hs
    simp (config := {decide := true, maxSteps := 2000000}) only [↓bpre, bpost, ↓reduceIte, Nat.reduceEqDiff, aargs, aparts, targs, alit, loadOk, not_false_eq_true, Wone, cond_true, cond_false, dstOk, true_and, and_true, and_self, if_true, if_false, reduceCtorEq, Option.map_some, Option.map_none, Option.map_id', ares, aret, Nat.reduceAdd, Nat.reduceLT, Nat.reduceMul, Nat.zero_add, lenOf, alen, vcBuiltin, Option.isNone_none, Option.isNone_some, Option.isSome_none, Option.isSome_some, aun, aconv, padd, Nat.mul_one, ne_eq, not_false_eq_true, Option.bind_some, List.cons_append, List.nil_append, List.append_nil, abuild, afill, TP.place, List.set_cons_zero, List.set_cons_succ, List.drop_succ_cons, List.drop_zero, List.take_succ_cons, List.take_zero, List.getElem?_cons_zero, List.getElem?_cons_succ, List.length_cons, List.length_nil, List.length_map, implies_true, true_implies, false_implies, forall_const, decide_true, decide_false, Bool.true_eq_false, Bool.false_eq_true, or_false, or_true, false_or, true_or, List.all_cons, List.all_nil, Bool.and_true, Bool.and_self, tfo_58_1, tsz_55, und_55, und_67, tel_55, tsz_104, tzr_104, tel_67, tsz_111, isp_111, tfo_104_0, tsz_3, rob_vfits, ↓lv_vfits_9, ↓lv_vfits_8, ↓lv_vfits_7, ↓lv_vfits_6, ↓lv_vfits_5, ↓lv_vfits_4, ↓lv_vfits_3, ↓lv_vfits_2, ↓lv_vfits_1, ↓lv_vfits_0, ↓sg_vfits_9, ↓sg_vfits_8, ↓sg_vfits_7, ↓sg_vfits_5, ↓sg_vfits_4, ↓sg_vfits_3, ↓sg_vfits_2, ↓sg_vfits_1, ↓sg_vfits_0, ↓pl_vfits_6, ↓wl_vfits_6, stab_all wa_vfits_6, Wreg_all wa_vfits_6]
    refine ⟨fun hlt => absurd hlt (by omega), fun _ => gotRes_one ⟨?_, rfl⟩⟩
    rw [decide_eq_true (show p.tabs.length = 0 by omega)]
  · rw [decide_eq_false (show ¬ p.tabs.length = 0 by omega)]
/-- One table that is nil. -/
theorem c_vfits1 (p : Prog) (σ : H) (ht : p.tabs.length < 9223372036854775808) : ACalls Try.prog 45 [.agg p.c, .ro [[.v (.pointer none)]]] σ fun e σ' => e = .ret (.v (.bool false)) ∧ σ' = σ := by
  refine acalls_go cf_vfits 37 [.tmp 4] mix Try.func45 (by decide) rfl ok_vfits rfl (Nat.le_of_ble_eq_true rfl) rfl ?_
  simp only [Prog.c]
  simp (config := {decide := true, maxSteps := 2000000}) only [↓bpre, bpost, ↓reduceIte, Nat.reduceEqDiff, aargs, aparts, targs, alit, loadOk, not_false_eq_true, Wone, cond_true, cond_false, dstOk, true_and, and_true, and_self, if_true, if_false, reduceCtorEq, Option.map_some, Option.map_none, Option.map_id', ares, aret, Nat.reduceAdd, Nat.reduceLT, Nat.reduceMul, Nat.zero_add, lenOf, alen, vcBuiltin, Option.isNone_none, Option.isNone_some, Option.isSome_none, Option.isSome_some, aun, aconv, padd, Nat.mul_one, ne_eq, not_false_eq_true, Option.bind_some, List.cons_append, List.nil_append, List.append_nil, abuild, afill, TP.place, List.set_cons_zero, List.set_cons_succ, List.drop_succ_cons, List.drop_zero, List.take_succ_cons, List.take_zero, List.getElem?_cons_zero, List.getElem?_cons_succ, List.length_cons, List.length_nil, List.length_map, implies_true, true_implies, false_implies, forall_const, decide_true, decide_false, Bool.true_eq_false, Bool.false_eq_true, or_false, or_true, false_or, true_or, List.all_cons, List.all_nil, Bool.and_true, Bool.and_self, tfo_58_1, tsz_55, und_55, und_67, tel_55, tsz_104, tzr_104, tel_67, tsz_111, isp_111, tfo_104_0, tsz_3, rob_vfits, ↓lv_vfits_9, ↓lv_vfits_8, ↓lv_vfits_7, ↓lv_vfits_6, ↓lv_vfits_5, ↓lv_vfits_4, ↓lv_vfits_3, ↓lv_vfits_2, ↓lv_vfits_1, ↓lv_vfits_0, ↓sg_vfits_9, ↓sg_vfits_8, ↓sg_vfits_7, ↓sg_vfits_5, ↓sg_vfits_4, ↓sg_vfits_3, ↓sg_vfits_2, ↓sg_vfits_1, ↓sg_vfits_0, ↓pl_vfits_6, ↓wl_vfits_6, stab_all wa_vfits_6, Wreg_all wa_vfits_6]
  refine ⟨fun h0 => ?_, fun h0 => gotRes_one ⟨rfl, rfl⟩⟩
  obtain ⟨s, hs0⟩ : ∃ s, p.tabs[0]? = some s := ⟨_, List.getElem?_eq_getElem (by omega)⟩
  refine vcLoop_of (lv := [1, 14, 15]) (fun (_ : Unit) => [(16, .v (.int .i64 0))]) (fun k _ σ' => σ' = σ) 0 () ?_ rfl ?_
  · simp (config := {decide := true, maxSteps := 2000000}) only [↓bpre, bpost, ↓reduceIte, Nat.reduceEqDiff, aargs, aparts, targs, alit, loadOk, not_false_eq_true, Wone, cond_true, cond_false, dstOk, true_and, and_true, and_self, if_true, if_false, reduceCtorEq, Option.map_some, Option.map_none, Option.map_id', ares, aret, Nat.reduceAdd, Nat.reduceLT, Nat.reduceMul, Nat.zero_add, lenOf, alen, vcBuiltin, Option.isNone_none, Option.isNone_some, Option.isSome_none, Option.isSome_some, aun, aconv, padd, Nat.mul_one, ne_eq, not_false_eq_true, Option.bind_some, List.cons_append, List.nil_append, List.append_nil, abuild, afill, TP.place, List.set_cons_zero, List.set_cons_succ, List.drop_succ_cons, List.drop_zero, List.take_succ_cons, List.take_zero, List.getElem?_cons_zero, List.getElem?_cons_succ, List.length_cons, List.length_nil, List.length_map, implies_true, true_implies, false_implies, forall_const, decide_true, decide_false, Bool.true_eq_false, Bool.false_eq_true, or_false, or_true, false_or, true_or, List.all_cons, List.all_nil, Bool.and_true, Bool.and_self, tfo_58_1, tsz_55, und_55, und_67, tel_55, tsz_104, tzr_104, tel_67, tsz_111, isp_111, tfo_104_0, tsz_3, rob_vfits, ↓lv_vfits_9, ↓lv_vfits_8, ↓lv_vfits_7, ↓lv_vfits_6, ↓lv_vfits_5, ↓lv_vfits_4, ↓lv_vfits_3, ↓lv_vfits_2, ↓lv_vfits_1, ↓lv_vfits_0, ↓sg_vfits_9, ↓sg_vfits_8, ↓sg_vfits_7, ↓sg_vfits_5, ↓sg_vfits_4, ↓sg_vfits_3, ↓sg_vfits_2, ↓sg_vfits_1, ↓sg_vfits_0, ↓pl_vfits_6, ↓wl_vfits_6, stab_all wa_vfits_6, Wreg_all wa_vfits_6]
  intro k _ σ' hs
  subst hs
  simp (config := {decide := true, maxSteps := 2000000}) only [↓bpre, bpost, ↓reduceIte, Nat.reduceEqDiff, aargs, aparts, targs, alit, loadOk, not_false_eq_true, Wone, cond_true, cond_false, dstOk, true_and, and_true, and_self, if_true, if_false, reduceCtorEq, Option.map_some, Option.map_none, Option.map_id', ares, aret, Nat.reduceAdd, Nat.reduceLT, Nat.reduceMul, Nat.zero_add, lenOf, alen, vcBuiltin, Option.isNone_none, Option.isNone_some, Option.isSome_none, Option.isSome_some, aun, aconv, padd, Nat.mul_one, ne_eq, not_false_eq_true, Option.bind_some, List.cons_append, List.nil_append, List.append_nil, abuild, afill, TP.place, List.set_cons_zero, List.set_cons_succ, List.drop_succ_cons, List.drop_zero, List.take_succ_cons, List.take_zero, List.getElem?_cons_zero, List.getElem?_cons_succ, List.length_cons, List.length_nil, List.length_map, implies_true, true_implies, false_implies, forall_const, decide_true, decide_false, Bool.true_eq_false, Bool.false_eq_true, or_false, or_true, false_or, true_or, List.all_cons, List.all_nil, Bool.and_true, Bool.and_self, tfo_58_1, tsz_55, und_55, und_67, tel_55, tsz_104, tzr_104, tel_67, tsz_111, isp_111, tfo_104_0, tsz_3, rob_vfits, ↓lv_vfits_9, ↓lv_vfits_8, ↓lv_vfits_7, ↓lv_vfits_6, ↓lv_vfits_5, ↓lv_vfits_4, ↓lv_vfits_3, ↓lv_vfits_2, ↓lv_vfits_1, ↓lv_vfits_0, ↓sg_vfits_9, ↓sg_vfits_8, ↓sg_vfits_7, ↓sg_vfits_5, ↓sg_vfits_4, ↓sg_vfits_3, ↓sg_vfits_2, ↓sg_vfits_1, ↓sg_vfits_0, ↓pl_vfits_6, ↓wl_vfits_6, stab_all wa_vfits_6, Wreg_all wa_vfits_6]
  refine ⟨fun _ => ?_, fun hge => absurd hge (by omega)⟩
  refine aix_map (f := Shape.c) (x := s) hs0 rfl ?_
  simp only [Shape.c]
  simp (config := {decide := true, maxSteps := 2000000}) only [↓bpre, bpost, ↓reduceIte, Nat.reduceEqDiff, aargs, aparts, targs, alit, loadOk, not_false_eq_true, Wone, cond_true, cond_false, dstOk, true_and, and_true, and_self, if_true, if_false, reduceCtorEq, Option.map_some, Option.map_none, Option.map_id', ares, aret, Nat.reduceAdd, Nat.reduceLT, Nat.reduceMul, Nat.zero_add, lenOf, alen, vcBuiltin, Option.isNone_none, Option.isNone_some, Option.isSome_none, Option.isSome_some, aun, aconv, padd, Nat.mul_one, ne_eq, not_false_eq_true, Option.bind_some, List.cons_append, List.nil_append, List.append_nil, abuild, afill, TP.place, List.set_cons_zero, List.set_cons_succ, List.drop_succ_cons, List.drop_zero, List.take_succ_cons, List.take_zero, List.getElem?_cons_zero, List.getElem?_cons_succ, List.length_cons, List.length_nil, List.length_map, implies_true, true_implies, false_implies, forall_const, decide_true, decide_false, Bool.true_eq_false, Bool.false_eq_true, or_false, or_true, false_or, true_or, List.all_cons, List.all_nil, Bool.and_true, Bool.and_self, tfo_58_1, tsz_55, und_55, und_67, tel_55, tsz_104, tzr_104, tel_67, tsz_111, isp_111, tfo_104_0, tsz_3, rob_vfits, ↓lv_vfits_9, ↓lv_vfits_8, ↓lv_vfits_7, ↓lv_vfits_6, ↓lv_vfits_5, ↓lv_vfits_4, ↓lv_vfits_3, ↓lv_vfits_2, ↓lv_vfits_1, ↓lv_vfits_0, ↓sg_vfits_9, ↓sg_vfits_8, ↓sg_vfits_7, ↓sg_vfits_5, ↓sg_vfits_4, ↓sg_vfits_3, ↓sg_vfits_2, ↓sg_vfits_1, ↓sg_vfits_0, ↓pl_vfits_6, ↓wl_vfits_6, stab_all wa_vfits_6, Wreg_all wa_vfits_6]
  intro b hb
  refine aix_ro (r := [.v (.pointer none)]) rfl rfl ?_
  simp (config := {decide := true, maxSteps := 2000000}) only [↓bpre, bpost, ↓reduceIte, Nat.reduceEqDiff, aargs, aparts, targs, alit, loadOk, not_false_eq_true, Wone, cond_true, cond_false, dstOk, true_and, and_true, and_self, if_true, if_false, reduceCtorEq, Option.map_some, Option.map_none, Option.map_id', ares, aret, Nat.reduceAdd, Nat.reduceLT, Nat.reduceMul, Nat.zero_add, lenOf, alen, vcBuiltin, Option.isNone_none, Option.isNone_some, Option.isSome_none, Option.isSome_some, aun, aconv, padd, Nat.mul_one, ne_eq, not_false_eq_true, Option.bind_some, List.cons_append, List.nil_append, List.append_nil, abuild, afill, TP.place, List.set_cons_zero, List.set_cons_succ, List.drop_succ_cons, List.drop_zero, List.take_succ_cons, List.take_zero, List.getElem?_cons_zero, List.getElem?_cons_succ, List.length_cons, List.length_nil, List.length_map, implies_true, true_implies, false_implies, forall_const, decide_true, decide_false, Bool.true_eq_false, Bool.false_eq_true, or_false, or_true, false_or, true_or, List.all_cons, List.all_nil, Bool.and_true, Bool.and_self, tfo_58_1, tsz_55, und_55, und_67, tel_55, tsz_104, tzr_104, tel_67, tsz_111, isp_111, tfo_104_0, tsz_3, rob_vfits, ↓lv_vfits_9, ↓lv_vfits_8, ↓lv_vfits_7, ↓lv_vfits_6, ↓lv_vfits_5, ↓lv_vfits_4, ↓lv_vfits_3, ↓lv_vfits_2, ↓lv_vfits_1, ↓lv_vfits_0, ↓sg_vfits_9, ↓sg_vfits_8, ↓sg_vfits_7, ↓sg_vfits_5, ↓sg_vfits_4, ↓sg_vfits_3, ↓sg_vfits_2, ↓sg_vfits_1, ↓sg_vfits_0, ↓pl_vfits_6, ↓wl_vfits_6, stab_all wa_vfits_6, Wreg_all wa_vfits_6]
  exact gotRes_one_drop (sub_upd hb) ⟨rfl, rfl⟩
def pl_run : Nat → Plan
  | 3 => .first 0 [2, 3, 4] false (.alt 1 (.alt 2 (.first 3 [4] false (.alt 4 (.done) (.stop))) (.stop)) (.alt 2 (.first 1 [4] false (.first 3 [4] false (.alt 4 (.done) (.stop)))) (.stop)))
  | 10 => .first 0 [10, 11, 12] false (.first 1 [10, 11, 12] false (.first 2 [10, 11, 12] false (.first 3 [10, 11, 12] false (.first 4 [5, 6, 10, 11, 12] false (.first 5 [6, 10, 11, 12] false (.first 7 [8, 9, 10, 11, 12] false (.first 8 [9, 10, 11, 12] false (.alt 6 (.alt 9 (.first 10 [11, 12] false (.alt 11 (.first 12 [] false (.done)) (.stop))) (.stop)) (.alt 9 (.alt 6 (.first 10 [11, 12] false (.alt 11 (.first 12 [] false (.done)) (.stop))) (.stop)) (.stop))))))))))
  | _ => .stop
def lv_run : Nat → Option (List Tmp)
  | 12 => some [4, 8, 10, 12, 13, 14]
  | 18 => some [8, 9, 10]
  | 20 => some [8, 9, 10]
  | 22 => some [4, 8, 10, 12, 13, 14]
  | 21 => some [4, 8, 10, 12, 13, 14, 15, 94]
  | 19 => some [4, 8, 10, 12, 13, 14, 15, 16, 84]
  | 17 => some [4, 8, 10, 12, 13, 14, 15, 16, 17, 77]
  | 16 => some [4, 8, 10, 12, 13, 14, 15, 16, 17]
  | 15 => some [8, 9, 10]
  | 14 => some [4, 8, 10, 12, 13, 14, 15, 67]
  | 13 => some [4, 8, 10, 12, 13, 14, 15]
  | 11 => some [4, 8, 10, 12, 13, 14]
  | 10 => some [4, 8, 10, 12]
  | 9 => some [8, 9, 10]
  | 8 => some [1, 2, 3, 4, 8, 10, 41]
  | 7 => some [8, 9, 10]
  | 6 => some [1, 2, 3, 4, 8, 10, 33]
  | 5 => some [8, 9, 10]
  | 4 => some [1, 2, 3, 4, 8, 10, 28]
  | 3 => some [8, 9, 10]
  | 2 => some [1, 2, 3, 4, 8, 10, 11, 22]
  | 1 => some [1, 2, 3, 4, 8, 10, 11]
  | 0 => some [1, 2, 3, 4, 8, 10]
  | _ => none
def cf_run : Cfg := { pl := pl_run, rob := fun i => i != 8 && i != 10 && i != 11 && i != 15 && i != 55, wa := fun r => r == 3, lv := lv_run }
theorem lv_run_12 : cf_run.lv 12 = some [4, 8, 10, 12, 13, 14] := rfl
theorem lv_run_18 : cf_run.lv 18 = some [8, 9, 10] := rfl
theorem lv_run_20 : cf_run.lv 20 = some [8, 9, 10] := rfl
theorem lv_run_22 : cf_run.lv 22 = some [4, 8, 10, 12, 13, 14] := rfl
theorem lv_run_21 : cf_run.lv 21 = some [4, 8, 10, 12, 13, 14, 15, 94] := rfl
theorem lv_run_19 : cf_run.lv 19 = some [4, 8, 10, 12, 13, 14, 15, 16, 84] := rfl
theorem lv_run_17 : cf_run.lv 17 = some [4, 8, 10, 12, 13, 14, 15, 16, 17, 77] := rfl
theorem lv_run_16 : cf_run.lv 16 = some [4, 8, 10, 12, 13, 14, 15, 16, 17] := rfl
theorem lv_run_15 : cf_run.lv 15 = some [8, 9, 10] := rfl
theorem lv_run_14 : cf_run.lv 14 = some [4, 8, 10, 12, 13, 14, 15, 67] := rfl
theorem lv_run_13 : cf_run.lv 13 = some [4, 8, 10, 12, 13, 14, 15] := rfl
theorem lv_run_11 : cf_run.lv 11 = some [4, 8, 10, 12, 13, 14] := rfl
theorem lv_run_10 : cf_run.lv 10 = some [4, 8, 10, 12] := rfl
theorem lv_run_9 : cf_run.lv 9 = some [8, 9, 10] := rfl
theorem lv_run_8 : cf_run.lv 8 = some [1, 2, 3, 4, 8, 10, 41] := rfl
theorem lv_run_7 : cf_run.lv 7 = some [8, 9, 10] := rfl
theorem lv_run_6 : cf_run.lv 6 = some [1, 2, 3, 4, 8, 10, 33] := rfl
theorem lv_run_5 : cf_run.lv 5 = some [8, 9, 10] := rfl
theorem lv_run_4 : cf_run.lv 4 = some [1, 2, 3, 4, 8, 10, 28] := rfl
theorem lv_run_3 : cf_run.lv 3 = some [8, 9, 10] := rfl
theorem lv_run_2 : cf_run.lv 2 = some [1, 2, 3, 4, 8, 10, 11, 22] := rfl
theorem lv_run_1 : cf_run.lv 1 = some [1, 2, 3, 4, 8, 10, 11] := rfl
theorem lv_run_0 : cf_run.lv 0 = some [1, 2, 3, 4, 8, 10] := rfl
theorem sg_run_12 : cf_run.sg 12 = [] := rfl
theorem sg_run_18 : cf_run.sg 18 = [] := rfl
theorem sg_run_20 : cf_run.sg 20 = [] := rfl
theorem sg_run_22 : cf_run.sg 22 = [] := rfl
theorem sg_run_21 : cf_run.sg 21 = [] := rfl
theorem sg_run_19 : cf_run.sg 19 = [] := rfl
theorem sg_run_17 : cf_run.sg 17 = [] := rfl
theorem sg_run_16 : cf_run.sg 16 = [] := rfl
theorem sg_run_15 : cf_run.sg 15 = [] := rfl
theorem sg_run_14 : cf_run.sg 14 = [] := rfl
theorem sg_run_13 : cf_run.sg 13 = [] := rfl
theorem sg_run_11 : cf_run.sg 11 = [] := rfl
theorem sg_run_9 : cf_run.sg 9 = [] := rfl
theorem sg_run_8 : cf_run.sg 8 = [] := rfl
theorem sg_run_7 : cf_run.sg 7 = [] := rfl
theorem sg_run_6 : cf_run.sg 6 = [] := rfl
theorem sg_run_5 : cf_run.sg 5 = [] := rfl
theorem sg_run_4 : cf_run.sg 4 = [] := rfl
theorem sg_run_2 : cf_run.sg 2 = [] := rfl
theorem sg_run_1 : cf_run.sg 1 = [] := rfl
theorem sg_run_0 : cf_run.sg 0 = [] := rfl
theorem rob_run (i : Nat) : cf_run.rob i = ((i != 8 && i != 10 && i != 11 && i != 15 && i != 55)) := rfl
theorem pl_run_3 : cf_run.pl 3 = .first 0 [2, 3, 4] false (.alt 1 (.alt 2 (.first 3 [4] false (.alt 4 (.done) (.stop))) (.stop)) (.alt 2 (.first 1 [4] false (.first 3 [4] false (.alt 4 (.done) (.stop)))) (.stop))) := rfl
theorem pl_run_10 : cf_run.pl 10 = .first 0 [10, 11, 12] false (.first 1 [10, 11, 12] false (.first 2 [10, 11, 12] false (.first 3 [10, 11, 12] false (.first 4 [5, 6, 10, 11, 12] false (.first 5 [6, 10, 11, 12] false (.first 7 [8, 9, 10, 11, 12] false (.first 8 [9, 10, 11, 12] false (.alt 6 (.alt 9 (.first 10 [11, 12] false (.alt 11 (.first 12 [] false (.done)) (.stop))) (.stop)) (.alt 9 (.alt 6 (.first 10 [11, 12] false (.alt 11 (.first 12 [] false (.done)) (.stop))) (.stop)) (.stop)))))))))) := rfl
theorem wa_run_3 : cf_run.wa 3 = true := rfl
theorem wa_run_10 : cf_run.wa 10 = false := rfl
theorem wl_run_3 : cf_run.wl 3 = [] := rfl
theorem wl_run_10 : cf_run.wl 10 = [] := rfl
theorem ok_run : okCode cf_run.pl (Try.f27.body.get!) = true := by kernel_rfl
structure Res where
  port : Int
  bytes : List Int
  deriving DecidableEq
def Res.c (r : Res) : AV := .agg [.v (.int .i64 r.port), .ro (r.bytes.map u8r)]
def outC (o : Res × Int × (Int × Int)) : AV := .tup [o.1.c, .v (.int .i64 o.2.1), faultC o.2.2]
def runL (code : List Ins) : Nat → Nat → Int → VS → Res × Int × (Int × Int)
  | 0, _, _, _ => (⟨0, []⟩, 0, (0, 0))
  | k + 1, at_, n, s => match code[at_]? with
    | none => (⟨0, []⟩, 0, (0, 0))
    | some x => if x.op = 17 then (⟨-1, []⟩, n, (0, 0))
      else
        let r := leadsS s x
        if r.2.1 ≠ 0 then (⟨0, []⟩, 0, (r.2.1, at_))
        else if x.op = 16 then (⟨r.2.2.oport, r.2.2.out⟩, n, (0, 0))
        else runL code k (if r.1 then at_ + x.to.toNat + 1 else at_ + 1) (n + 1) r.2.2
def begin0 (p : Prog) (tabs : AV) (b : List Int) (port : Int) : VS :=
  { p := p, tabs := tabs, b := b, port := port, regs := List.replicate 10 0, hav := List.replicate 10 false, slot := List.replicate p.slots.toNat 0, set := List.replicate p.slots.toNat false, oport := 0, out := [] }
def runF0 (p : Prog) (b : List Int) (port : Int) : Res × Int × (Int × Int) :=
  if (checkF p).1 ≠ 0 then (⟨0, []⟩, 0, checkF p)
  else if p.tabs.length ≠ 0 then (⟨0, []⟩, 0, (2, -1))
  else if 600 < b.length then (⟨0, []⟩, 0, (14, -1))
  else if port < 0 ∨ 65535 < port then (⟨0, []⟩, 0, (1, -1))
  else runL p.code p.code.length 0 1 (begin0 p (.v (.slice none 0 0)) b port)
set_option maxRecDepth 100000 in
theorem c_run1 (p : Prog) (b : AV) (port : Int) (σ : H) (hl : p.code.length < 9223372036854775808) (ht : p.tabs.length < 9223372036854775808) (hn : ∀ x ∈ p.code, 0 ≤ x.n) : ACalls Try.prog 27 [.agg p.c, .ro [[.v (.pointer none)]], b, .v (.int .i64 port)] σ fun e σ' => e = .ret (outC (⟨0, []⟩, 0, if (checkF p).1 ≠ 0 then checkF p else (2, -1))) ∧ σ' = σ := by
  refine acalls_go cf_run 100 [.cell 8 62, .tmp 9, .cell 10 64] mix Try.func27 (by decide) rfl ok_run rfl (Nat.le_of_ble_eq_true rfl) rfl ?_
  have hc := fun σ => c_check p σ hl ht hn
  have hv := fun σ => c_vfits1 p σ ht
  simp only [Prog.c] at hc hv ⊢
  simp (config := {decide := true, maxSteps := 2000000}) only [↓bpre, bpost, ↓reduceIte, Nat.reduceEqDiff, aargs, aparts, targs, alit, loadOk, not_false_eq_true, Wone, cond_true, cond_false, dstOk, true_and, and_true, and_self, if_true, if_false, reduceCtorEq, Option.map_some, Option.map_none, Option.map_id', ares, aret, Nat.reduceAdd, Nat.reduceLT, Nat.reduceMul, Nat.zero_add, lenOf, alen, vcBuiltin, Option.isNone_none, Option.isNone_some, Option.isSome_none, Option.isSome_some, aun, aconv, padd, Nat.mul_one, ne_eq, not_false_eq_true, Option.bind_some, List.cons_append, List.nil_append, List.append_nil, abuild, afill, TP.place, List.set_cons_zero, List.set_cons_succ, List.drop_succ_cons, List.drop_zero, List.take_succ_cons, List.take_zero, List.getElem?_cons_zero, List.getElem?_cons_succ, List.length_cons, List.length_nil, List.length_map, implies_true, true_implies, false_implies, forall_const, decide_true, decide_false, Bool.true_eq_false, Bool.false_eq_true, or_false, or_true, false_or, true_or, List.all_cons, List.all_nil, Bool.and_true, Bool.and_self, tzr_62, tzr_64, tsz_58, tsz_64, tfo_64_0, tsz_3, tpl_62, tsz_62, tpl_64, und_59, tfo_58_0, tel_27, tby_27, und_27, tzr_70, tel_91, tby_91, und_91, tzr_4, tpl_95, tzr_95, tfo_58_2, tsz_56, tel_56, tsz_87, tzr_87, tfo_87_0, tfo_95_8, tfo_87_4, rob_run, ↓lv_run_12, ↓lv_run_18, ↓lv_run_20, ↓lv_run_22, ↓lv_run_21, ↓lv_run_19, ↓lv_run_17, ↓lv_run_16, ↓lv_run_15, ↓lv_run_14, ↓lv_run_13, ↓lv_run_11, ↓lv_run_10, ↓lv_run_9, ↓lv_run_8, ↓lv_run_7, ↓lv_run_6, ↓lv_run_5, ↓lv_run_4, ↓lv_run_3, ↓lv_run_2, ↓lv_run_1, ↓lv_run_0, ↓sg_run_12, ↓sg_run_18, ↓sg_run_20, ↓sg_run_22, ↓sg_run_21, ↓sg_run_19, ↓sg_run_17, ↓sg_run_16, ↓sg_run_15, ↓sg_run_14, ↓sg_run_13, ↓sg_run_11, ↓sg_run_9, ↓sg_run_8, ↓sg_run_7, ↓sg_run_6, ↓sg_run_5, ↓sg_run_4, ↓sg_run_2, ↓sg_run_1, ↓sg_run_0, ↓pl_run_3, ↓wl_run_3, stab_all wa_run_3, Wreg_all wa_run_3, ↓pl_run_10, ↓wl_run_10, Wreg_of wa_run_10]
  intro b1 hb1 b2 hb2
  refine (hc _).ret ?_
  simp only [faultC]
  simp (config := {decide := true, maxSteps := 2000000}) only [↓bpre, bpost, ↓reduceIte, Nat.reduceEqDiff, aargs, aparts, targs, alit, loadOk, not_false_eq_true, Wone, cond_true, cond_false, dstOk, true_and, and_true, and_self, if_true, if_false, reduceCtorEq, Option.map_some, Option.map_none, Option.map_id', ares, aret, Nat.reduceAdd, Nat.reduceLT, Nat.reduceMul, Nat.zero_add, lenOf, alen, vcBuiltin, Option.isNone_none, Option.isNone_some, Option.isSome_none, Option.isSome_some, aun, aconv, padd, Nat.mul_one, ne_eq, not_false_eq_true, Option.bind_some, List.cons_append, List.nil_append, List.append_nil, abuild, afill, TP.place, List.set_cons_zero, List.set_cons_succ, List.drop_succ_cons, List.drop_zero, List.take_succ_cons, List.take_zero, List.getElem?_cons_zero, List.getElem?_cons_succ, List.length_cons, List.length_nil, List.length_map, implies_true, true_implies, false_implies, forall_const, decide_true, decide_false, Bool.true_eq_false, Bool.false_eq_true, or_false, or_true, false_or, true_or, List.all_cons, List.all_nil, Bool.and_true, Bool.and_self, tzr_62, tzr_64, tsz_58, tsz_64, tfo_64_0, tsz_3, tpl_62, tsz_62, tpl_64, und_59, tfo_58_0, tel_27, tby_27, und_27, tzr_70, tel_91, tby_91, und_91, tzr_4, tpl_95, tzr_95, tfo_58_2, tsz_56, tel_56, tsz_87, tzr_87, tfo_87_0, tfo_95_8, tfo_87_4, rob_run, ↓lv_run_12, ↓lv_run_18, ↓lv_run_20, ↓lv_run_22, ↓lv_run_21, ↓lv_run_19, ↓lv_run_17, ↓lv_run_16, ↓lv_run_15, ↓lv_run_14, ↓lv_run_13, ↓lv_run_11, ↓lv_run_10, ↓lv_run_9, ↓lv_run_8, ↓lv_run_7, ↓lv_run_6, ↓lv_run_5, ↓lv_run_4, ↓lv_run_3, ↓lv_run_2, ↓lv_run_1, ↓lv_run_0, ↓sg_run_12, ↓sg_run_18, ↓sg_run_20, ↓sg_run_22, ↓sg_run_21, ↓sg_run_19, ↓sg_run_17, ↓sg_run_16, ↓sg_run_15, ↓sg_run_14, ↓sg_run_13, ↓sg_run_11, ↓sg_run_9, ↓sg_run_8, ↓sg_run_7, ↓sg_run_6, ↓sg_run_5, ↓sg_run_4, ↓sg_run_2, ↓sg_run_1, ↓sg_run_0, ↓pl_run_3, ↓wl_run_3, stab_all wa_run_3, Wreg_all wa_run_3, ↓pl_run_10, ↓wl_run_10, Wreg_of wa_run_10, hb1, hb2]
  intro b3 hb3
  simp (config := {decide := true, maxSteps := 2000000}) only [↓bpre, bpost, ↓reduceIte, Nat.reduceEqDiff, aargs, aparts, targs, alit, loadOk, not_false_eq_true, Wone, cond_true, cond_false, dstOk, true_and, and_true, and_self, if_true, if_false, reduceCtorEq, Option.map_some, Option.map_none, Option.map_id', ares, aret, Nat.reduceAdd, Nat.reduceLT, Nat.reduceMul, Nat.zero_add, lenOf, alen, vcBuiltin, Option.isNone_none, Option.isNone_some, Option.isSome_none, Option.isSome_some, aun, aconv, padd, Nat.mul_one, ne_eq, not_false_eq_true, Option.bind_some, List.cons_append, List.nil_append, List.append_nil, abuild, afill, TP.place, List.set_cons_zero, List.set_cons_succ, List.drop_succ_cons, List.drop_zero, List.take_succ_cons, List.take_zero, List.getElem?_cons_zero, List.getElem?_cons_succ, List.length_cons, List.length_nil, List.length_map, implies_true, true_implies, false_implies, forall_const, decide_true, decide_false, Bool.true_eq_false, Bool.false_eq_true, or_false, or_true, false_or, true_or, List.all_cons, List.all_nil, Bool.and_true, Bool.and_self, tzr_62, tzr_64, tsz_58, tsz_64, tfo_64_0, tsz_3, tpl_62, tsz_62, tpl_64, und_59, tfo_58_0, tel_27, tby_27, und_27, tzr_70, tel_91, tby_91, und_91, tzr_4, tpl_95, tzr_95, tfo_58_2, tsz_56, tel_56, tsz_87, tzr_87, tfo_87_0, tfo_95_8, tfo_87_4, rob_run, ↓lv_run_12, ↓lv_run_18, ↓lv_run_20, ↓lv_run_22, ↓lv_run_21, ↓lv_run_19, ↓lv_run_17, ↓lv_run_16, ↓lv_run_15, ↓lv_run_14, ↓lv_run_13, ↓lv_run_11, ↓lv_run_10, ↓lv_run_9, ↓lv_run_8, ↓lv_run_7, ↓lv_run_6, ↓lv_run_5, ↓lv_run_4, ↓lv_run_3, ↓lv_run_2, ↓lv_run_1, ↓lv_run_0, ↓sg_run_12, ↓sg_run_18, ↓sg_run_20, ↓sg_run_22, ↓sg_run_21, ↓sg_run_19, ↓sg_run_17, ↓sg_run_16, ↓sg_run_15, ↓sg_run_14, ↓sg_run_13, ↓sg_run_11, ↓sg_run_9, ↓sg_run_8, ↓sg_run_7, ↓sg_run_6, ↓sg_run_5, ↓sg_run_4, ↓sg_run_2, ↓sg_run_1, ↓sg_run_0, ↓pl_run_3, ↓wl_run_3, stab_all wa_run_3, Wreg_all wa_run_3, ↓pl_run_10, ↓wl_run_10, Wreg_of wa_run_10, hb1, hb2, hb3]
  refine ⟨fun heq => (hv _).ret ?_, fun hne => ?_⟩
  · simp (config := {decide := true, maxSteps := 2000000}) only [↓bpre, bpost, ↓reduceIte, Nat.reduceEqDiff, aargs, aparts, targs, alit, loadOk, not_false_eq_true, Wone, cond_true, cond_false, dstOk, true_and, and_true, and_self, if_true, if_false, reduceCtorEq, Option.map_some, Option.map_none, Option.map_id', ares, aret, Nat.reduceAdd, Nat.reduceLT, Nat.reduceMul, Nat.zero_add, lenOf, alen, vcBuiltin, Option.isNone_none, Option.isNone_some, Option.isSome_none, Option.isSome_some, aun, aconv, padd, Nat.mul_one, ne_eq, not_false_eq_true, Option.bind_some, List.cons_append, List.nil_append, List.append_nil, abuild, afill, TP.place, List.set_cons_zero, List.set_cons_succ, List.drop_succ_cons, List.drop_zero, List.take_succ_cons, List.take_zero, List.getElem?_cons_zero, List.getElem?_cons_succ, List.length_cons, List.length_nil, List.length_map, implies_true, true_implies, false_implies, forall_const, decide_true, decide_false, Bool.true_eq_false, Bool.false_eq_true, or_false, or_true, false_or, true_or, List.all_cons, List.all_nil, Bool.and_true, Bool.and_self, tzr_62, tzr_64, tsz_58, tsz_64, tfo_64_0, tsz_3, tpl_62, tsz_62, tpl_64, und_59, tfo_58_0, tel_27, tby_27, und_27, tzr_70, tel_91, tby_91, und_91, tzr_4, tpl_95, tzr_95, tfo_58_2, tsz_56, tel_56, tsz_87, tzr_87, tfo_87_0, tfo_95_8, tfo_87_4, rob_run, ↓lv_run_12, ↓lv_run_18, ↓lv_run_20, ↓lv_run_22, ↓lv_run_21, ↓lv_run_19, ↓lv_run_17, ↓lv_run_16, ↓lv_run_15, ↓lv_run_14, ↓lv_run_13, ↓lv_run_11, ↓lv_run_10, ↓lv_run_9, ↓lv_run_8, ↓lv_run_7, ↓lv_run_6, ↓lv_run_5, ↓lv_run_4, ↓lv_run_3, ↓lv_run_2, ↓lv_run_1, ↓lv_run_0, ↓sg_run_12, ↓sg_run_18, ↓sg_run_20, ↓sg_run_22, ↓sg_run_21, ↓sg_run_19, ↓sg_run_17, ↓sg_run_16, ↓sg_run_15, ↓sg_run_14, ↓sg_run_13, ↓sg_run_11, ↓sg_run_9, ↓sg_run_8, ↓sg_run_7, ↓sg_run_6, ↓sg_run_5, ↓sg_run_4, ↓sg_run_2, ↓sg_run_1, ↓sg_run_0, ↓pl_run_3, ↓wl_run_3, stab_all wa_run_3, Wreg_all wa_run_3, ↓pl_run_10, ↓wl_run_10, Wreg_of wa_run_10, hb1, hb2, hb3]
    refine gotRes_frz (σ' := σ) (FrzH.of_sub (by intro c_ x_ hc_; simp only [H.upd]; (repeat' split) <;> first | exact hc_ | (subst_vars; simp [hb1, hb2, hb3] at hc_))) (.tupL (.cons (.aggL (.cons (.refl _) (.cons .nil .nil))) (.refl _))) ⟨?_, rfl⟩
    simp [outC, Res.c, faultC, heq]
  · refine gotRes_frz (σ' := σ) (FrzH.of_sub (by intro c_ x_ hc_; simp only [H.upd]; (repeat' split) <;> first | exact hc_ | (subst_vars; simp [hb1, hb2, hb3] at hc_))) (.tupL (.cons (.aggL (.cons (.refl _) (.cons .nil .nil))) (.refl _))) ⟨?_, rfl⟩
    simp [outC, Res.c, faultC, hne]
end Y
