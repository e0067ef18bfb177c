/- A part of the proof: Y1. -/
import Derived.Test.YtlchnjgnfomiaaaY0
set_option linter.unusedSimpArgs false
set_option linter.unusedVariables false
open Go Go.Ag Go.Proofs
namespace Y
def lv_ends : Nat → Option (List Tmp)
  | 1 => some [2]
  | 0 => some [0]
  | _ => none
def cf_ends : Cfg := { pl := fun _ => .stop, lv := lv_ends }
theorem lv_ends_1 : cf_ends.lv 1 = some [2] := rfl
theorem lv_ends_0 : cf_ends.lv 0 = some [0] := rfl
theorem sg_ends_1 : cf_ends.sg 1 = [] := rfl
theorem sg_ends_0 : cf_ends.sg 0 = [] := rfl
theorem rob_ends (i : Nat) : cf_ends.rob i = (true) := rfl
theorem ok_ends : okCode cf_ends.pl (Try.f58.body.get!) = true := by kernel_rfl
theorem c_ends (k : Int) (σ : H) : ACalls Try.prog 58 [.v (.int .i64 k)] σ fun e σ' => e = .ret (.v (.bool (decide (k = 16 ∨ k = 17)))) ∧ σ' = σ := by
  refine acalls_go cf_ends 9 [.tmp 2] mix Try.func58 (by decide) rfl ok_ends rfl (Nat.le_of_ble_eq_true rfl) rfl ?_
  simp (config := {decide := true, maxSteps := 2000000}) only [↓bpre, bpost, ↓reduceIte, Nat.reduceEqDiff, aargs, aparts, targs, alit, loadOk, not_false_eq_true, Wone, cond_true, cond_false, dstOk, true_and, and_true, and_self, if_true, if_false, reduceCtorEq, Option.map_some, Option.map_none, Option.map_id', ares, aret, Nat.reduceAdd, Nat.reduceLT, Nat.reduceMul, Nat.zero_add, lenOf, alen, vcBuiltin, Option.isNone_none, Option.isNone_some, Option.isSome_none, Option.isSome_some, aun, aconv, padd, Nat.mul_one, ne_eq, not_false_eq_true, Option.bind_some, List.cons_append, List.nil_append, List.append_nil, abuild, afill, TP.place, List.set_cons_zero, List.set_cons_succ, List.drop_succ_cons, List.drop_zero, List.take_succ_cons, List.take_zero, List.getElem?_cons_zero, List.getElem?_cons_succ, List.length_cons, List.length_nil, List.length_map, implies_true, true_implies, false_implies, forall_const, decide_true, decide_false, Bool.true_eq_false, Bool.false_eq_true, or_false, or_true, false_or, true_or, List.all_cons, List.all_nil, Bool.and_true, Bool.and_self, rob_ends, ↓lv_ends_1, ↓lv_ends_0, ↓sg_ends_1, ↓sg_ends_0]
  refine ⟨fun h => gotRes_one ⟨by simp [h], rfl⟩, fun h => gotRes_one ⟨by simp [h], rfl⟩⟩
def lv_wreg : Nat → Option (List Tmp)
  | 1 => some [2]
  | 0 => some [0]
  | _ => none
def cf_wreg : Cfg := { pl := fun _ => .stop, lv := lv_wreg }
theorem lv_wreg_1 : cf_wreg.lv 1 = some [2] := rfl
theorem lv_wreg_0 : cf_wreg.lv 0 = some [0] := rfl
theorem sg_wreg_1 : cf_wreg.sg 1 = [] := rfl
theorem sg_wreg_0 : cf_wreg.sg 0 = [] := rfl
theorem rob_wreg (i : Nat) : cf_wreg.rob i = (true) := rfl
theorem ok_wreg : okCode cf_wreg.pl (Try.f74.body.get!) = true := by kernel_rfl
theorem c_wreg (k : Int) (σ : H) : ACalls Try.prog 74 [.v (.int .i64 k)] σ fun e σ' => e = .ret (.v (.bool (decide (0 ≤ k ∧ k < 10)))) ∧ σ' = σ := by
  refine acalls_go cf_wreg 9 [.tmp 2] mix Try.func74 (by decide) rfl ok_wreg rfl (Nat.le_of_ble_eq_true rfl) rfl ?_
  simp (config := {decide := true, maxSteps := 2000000}) only [↓bpre, bpost, ↓reduceIte, Nat.reduceEqDiff, aargs, aparts, targs, alit, loadOk, not_false_eq_true, Wone, cond_true, cond_false, dstOk, true_and, and_true, and_self, if_true, if_false, reduceCtorEq, Option.map_some, Option.map_none, Option.map_id', ares, aret, Nat.reduceAdd, Nat.reduceLT, Nat.reduceMul, Nat.zero_add, lenOf, alen, vcBuiltin, Option.isNone_none, Option.isNone_some, Option.isSome_none, Option.isSome_some, aun, aconv, padd, Nat.mul_one, ne_eq, not_false_eq_true, Option.bind_some, List.cons_append, List.nil_append, List.append_nil, abuild, afill, TP.place, List.set_cons_zero, List.set_cons_succ, List.drop_succ_cons, List.drop_zero, List.take_succ_cons, List.take_zero, List.getElem?_cons_zero, List.getElem?_cons_succ, List.length_cons, List.length_nil, List.length_map, implies_true, true_implies, false_implies, forall_const, decide_true, decide_false, Bool.true_eq_false, Bool.false_eq_true, or_false, or_true, false_or, true_or, List.all_cons, List.all_nil, Bool.and_true, Bool.and_self, rob_wreg, ↓lv_wreg_1, ↓lv_wreg_0, ↓sg_wreg_1, ↓sg_wreg_0]
  refine ⟨fun h => gotRes_one ⟨by simp [h], rfl⟩, fun h => gotRes_one ⟨by simp [h], rfl⟩⟩
def lv_wslots : Nat → Option (List Tmp)
  | 1 => some [6]
  | 0 => some [1, 2, 3]
  | _ => none
def cf_wslots : Cfg := { pl := fun _ => .stop, lv := lv_wslots }
theorem lv_wslots_1 : cf_wslots.lv 1 = some [6] := rfl
theorem lv_wslots_0 : cf_wslots.lv 0 = some [1, 2, 3] := rfl
theorem sg_wslots_1 : cf_wslots.sg 1 = [] := rfl
theorem sg_wslots_0 : cf_wslots.sg 0 = [] := rfl
theorem rob_wslots (i : Nat) : cf_wslots.rob i = (true) := rfl
theorem ok_wslots : okCode cf_wslots.pl (Try.f75.body.get!) = true := by kernel_rfl
theorem c_wslots (s : Int) (x y : AV) (at_ n : Int) (hx : x.one = true) (hy : y.one = true) (σ : H) : ACalls Try.prog 75 [.agg [.v (.int .i64 s), x, y], .v (.int .i64 at_), .v (.int .i64 n)] σ fun e σ' => e = .ret (.v (.bool (decide (0 ≤ at_ ∧ at_ ≤ IntKind.i64.wrap (s - n))))) ∧ σ' = σ := by
  refine acalls_go cf_wslots 18 [.tmp 6] mix Try.func75 (by decide) rfl ok_wslots rfl (Nat.le_of_ble_eq_true rfl) rfl ?_
  simp (config := {decide := true, maxSteps := 2000000}) only [↓bpre, bpost, ↓reduceIte, Nat.reduceEqDiff, aargs, aparts, targs, alit, loadOk, not_false_eq_true, Wone, cond_true, cond_false, dstOk, true_and, and_true, and_self, if_true, if_false, reduceCtorEq, Option.map_some, Option.map_none, Option.map_id', ares, aret, Nat.reduceAdd, Nat.reduceLT, Nat.reduceMul, Nat.zero_add, lenOf, alen, vcBuiltin, Option.isNone_none, Option.isNone_some, Option.isSome_none, Option.isSome_some, aun, aconv, padd, Nat.mul_one, ne_eq, not_false_eq_true, Option.bind_some, List.cons_append, List.nil_append, List.append_nil, abuild, afill, TP.place, List.set_cons_zero, List.set_cons_succ, List.drop_succ_cons, List.drop_zero, List.take_succ_cons, List.take_zero, List.getElem?_cons_zero, List.getElem?_cons_succ, List.length_cons, List.length_nil, List.length_map, implies_true, true_implies, false_implies, forall_const, decide_true, decide_false, Bool.true_eq_false, Bool.false_eq_true, or_false, or_true, false_or, true_or, List.all_cons, List.all_nil, Bool.and_true, Bool.and_self, tfo_106_0, tfo_58_0, tsz_3, rob_wslots, ↓lv_wslots_1, ↓lv_wslots_0, ↓sg_wslots_1, ↓sg_wslots_0, hx, hy]
  refine ⟨fun h => gotRes_one ⟨by simp [h], rfl⟩, fun h => gotRes_one ⟨by simp [h], rfl⟩⟩

def hasL : List (List UInt8) := [[], [114, 110], [114, 115], [114, 115, 107], [114], [114, 115], [114, 115, 107, 110], [114, 110], [114, 110], [114, 116, 110], [114, 115, 116], [114, 115, 116], [116], [114, 115, 107, 110], [114, 107], [114], [114], [], [114]]
def hasF (k : Int) : List UInt8 := if 1 ≤ k then (hasL[k.toNat]?).getD [63] else [63]
def lv_has : Nat → Option (List Tmp)
  | 3 => some [2]
  | 2 => some [2]
  | 1 => some [0, 8]
  | 0 => some [0]
  | _ => none
def cf_has : Cfg := { pl := fun _ => .stop, lv := lv_has }
theorem lv_has_3 : cf_has.lv 3 = some [2] := rfl
theorem lv_has_2 : cf_has.lv 2 = some [2] := rfl
theorem lv_has_1 : cf_has.lv 1 = some [0, 8] := rfl
theorem lv_has_0 : cf_has.lv 0 = some [0] := rfl
theorem sg_has_3 : cf_has.sg 3 = [] := rfl
theorem sg_has_2 : cf_has.sg 2 = [] := rfl
theorem sg_has_1 : cf_has.sg 1 = [] := rfl
theorem sg_has_0 : cf_has.sg 0 = [] := rfl
theorem rob_has (i : Nat) : cf_has.rob i = (true) := rfl
theorem ok_has : okCode cf_has.pl (Try.f57.body.get!) = true := by kernel_rfl
theorem c_has (k : Int) (σ : H) : ACalls Try.prog 57 [.v (.int .i64 k)] σ fun e σ' => e = .ret (.v (.string ⟨(hasF k).toArray⟩)) ∧ σ' = σ := by
  refine acalls_go cf_has 12 [.tmp 2] mix Try.func57 (by decide) rfl ok_has rfl (Nat.le_of_ble_eq_true rfl) rfl ?_
  simp (config := {decide := true, maxSteps := 2000000}) only [↓bpre, bpost, ↓reduceIte, Nat.reduceEqDiff, aargs, aparts, targs, alit, loadOk, not_false_eq_true, Wone, cond_true, cond_false, dstOk, true_and, and_true, and_self, if_true, if_false, reduceCtorEq, Option.map_some, Option.map_none, Option.map_id', ares, aret, Nat.reduceAdd, Nat.reduceLT, Nat.reduceMul, Nat.zero_add, lenOf, alen, vcBuiltin, Option.isNone_none, Option.isNone_some, Option.isSome_none, Option.isSome_some, aun, aconv, padd, Nat.mul_one, ne_eq, not_false_eq_true, Option.bind_some, List.cons_append, List.nil_append, List.append_nil, abuild, afill, TP.place, List.set_cons_zero, List.set_cons_succ, List.drop_succ_cons, List.drop_zero, List.take_succ_cons, List.take_zero, List.getElem?_cons_zero, List.getElem?_cons_succ, List.length_cons, List.length_nil, List.length_map, implies_true, true_implies, false_implies, forall_const, decide_true, decide_false, Bool.true_eq_false, Bool.false_eq_true, or_false, or_true, false_or, true_or, List.all_cons, List.all_nil, Bool.and_true, Bool.and_self, tpl_127, tzr_127, und_127, tsz_9, rob_has, ↓lv_has_3, ↓lv_has_2, ↓lv_has_1, ↓lv_has_0, ↓sg_has_3, ↓sg_has_2, ↓sg_has_1, ↓sg_has_0]
  refine ⟨fun h => gotRes_same ⟨?_, rfl⟩, fun h => ⟨fun h' => gotRes_same ⟨?_, rfl⟩, fun h' => ?_⟩⟩
  · simp [aret, hasF, show ¬ 1 ≤ k by omega]
  · rw [hasF, List.getElem?_eq_none (show hasL.length ≤ k.toNat by show 19 ≤ _; omega)]
    simp [aret]
  · have hlt : k.toNat < hasL.length := by show _ < 19; omega
    have key := aidx_arr1 (P := Try.prog) und_127 tsz_9 (hasL.map fun x => .v (.string ⟨x.toArray⟩)) .i64 k _ (by rw [List.getElem?_map, List.getElem?_eq_getElem hlt]; rfl)
    simp only [hasL, List.map] at key
    rw [key]
    refine ⟨by omega, gotRes_one ⟨?_, rfl⟩⟩
    rw [hasF, if_pos (by omega), List.getElem?_eq_getElem hlt]; rfl
def withF (b : List UInt8) (c : Int) : Bool := b.any fun x => decide ((x.toNat : Int) = c)
def lv_with : Nat → Option (List Tmp)
  | 7 => some [4]
  | 6 => some [0, 1, 7, 8]
  | 5 => some [4]
  | 4 => some [0, 1, 7, 8, 15]
  | 3 => some [0, 1, 5, 7, 8]
  | 2 => some [0, 1, 7, 8, 9]
  | 1 => some [0, 1, 7, 8]
  | 0 => some [0, 1]
  | _ => none
def cf_with : Cfg := { pl := fun _ => .stop, lv := lv_with }
theorem lv_with_7 : cf_with.lv 7 = some [4] := rfl
theorem lv_with_6 : cf_with.lv 6 = some [0, 1, 7, 8] := rfl
theorem lv_with_5 : cf_with.lv 5 = some [4] := rfl
theorem lv_with_4 : cf_with.lv 4 = some [0, 1, 7, 8, 15] := rfl
theorem lv_with_3 : cf_with.lv 3 = some [0, 1, 5, 7, 8] := rfl
theorem lv_with_2 : cf_with.lv 2 = some [0, 1, 7, 8, 9] := rfl
theorem lv_with_1 : cf_with.lv 1 = some [0, 1, 7, 8] := rfl
theorem lv_with_0 : cf_with.lv 0 = some [0, 1] := rfl
theorem sg_with_7 : cf_with.sg 7 = [] := rfl
theorem sg_with_6 : cf_with.sg 6 = [] := rfl
theorem sg_with_5 : cf_with.sg 5 = [] := rfl
theorem sg_with_4 : cf_with.sg 4 = [] := rfl
theorem sg_with_3 : cf_with.sg 3 = [] := rfl
theorem sg_with_2 : cf_with.sg 2 = [] := rfl
theorem sg_with_1 : cf_with.sg 1 = [] := rfl
theorem sg_with_0 : cf_with.sg 0 = [] := rfl
theorem rob_with (i : Nat) : cf_with.rob i = (true) := rfl
theorem ok_with : okCode cf_with.pl (Try.f56.body.get!) = true := by kernel_rfl
theorem c_with (b : ByteArray) (c : Int) (σ : H) (hb : b.size < 9223372036854775807) : ACalls Try.prog 56 [.v (.string b), .v (.int .u8 c)] σ fun e σ' => e = .ret (.v (.bool (withF b.data.toList c))) ∧ σ' = σ := by
  refine acalls_go cf_with 17 [.tmp 4] mix Try.func56 (by decide) rfl ok_with rfl (Nat.le_of_ble_eq_true rfl) rfl ?_
  simp (config := {decide := true, maxSteps := 2000000}) only [↓bpre, bpost, ↓reduceIte, Nat.reduceEqDiff, aargs, aparts, targs, alit, loadOk, not_false_eq_true, Wone, cond_true, cond_false, dstOk, true_and, and_true, and_self, if_true, if_false, reduceCtorEq, Option.map_some, Option.map_none, Option.map_id', ares, aret, Nat.reduceAdd, Nat.reduceLT, Nat.reduceMul, Nat.zero_add, lenOf, alen, vcBuiltin, Option.isNone_none, Option.isNone_some, Option.isSome_none, Option.isSome_some, aun, aconv, padd, Nat.mul_one, ne_eq, not_false_eq_true, Option.bind_some, List.cons_append, List.nil_append, List.append_nil, abuild, afill, TP.place, List.set_cons_zero, List.set_cons_succ, List.drop_succ_cons, List.drop_zero, List.take_succ_cons, List.take_zero, List.getElem?_cons_zero, List.getElem?_cons_succ, List.length_cons, List.length_nil, List.length_map, implies_true, true_implies, false_implies, forall_const, decide_true, decide_false, Bool.true_eq_false, Bool.false_eq_true, or_false, or_true, false_or, true_or, List.all_cons, List.all_nil, Bool.and_true, Bool.and_self, und_9, rob_with, ↓lv_with_7, ↓lv_with_6, ↓lv_with_5, ↓lv_with_4, ↓lv_with_3, ↓lv_with_2, ↓lv_with_1, ↓lv_with_0, ↓sg_with_7, ↓sg_with_6, ↓sg_with_5, ↓sg_with_4, ↓sg_with_3, ↓sg_with_2, ↓sg_with_1, ↓sg_with_0]
  refine vcLoop_of (lv := [0, 1, 7]) (fun i : Nat => [(8, .v (.int .i64 i))]) (fun k i σ' => i + k = b.size ∧ σ' = σ ∧ ∀ j, j < i → ((b.data.getD j 0).toNat : Int) ≠ c) b.size 0 ?_ ⟨by omega, rfl, by omega⟩ ?_
  · simp (config := {decide := true, maxSteps := 2000000}) only [↓bpre, bpost, ↓reduceIte, Nat.reduceEqDiff, aargs, aparts, targs, alit, loadOk, not_false_eq_true, Wone, cond_true, cond_false, dstOk, true_and, and_true, and_self, if_true, if_false, reduceCtorEq, Option.map_some, Option.map_none, Option.map_id', ares, aret, Nat.reduceAdd, Nat.reduceLT, Nat.reduceMul, Nat.zero_add, lenOf, alen, vcBuiltin, Option.isNone_none, Option.isNone_some, Option.isSome_none, Option.isSome_some, aun, aconv, padd, Nat.mul_one, ne_eq, not_false_eq_true, Option.bind_some, List.cons_append, List.nil_append, List.append_nil, abuild, afill, TP.place, List.set_cons_zero, List.set_cons_succ, List.drop_succ_cons, List.drop_zero, List.take_succ_cons, List.take_zero, List.getElem?_cons_zero, List.getElem?_cons_succ, List.length_cons, List.length_nil, List.length_map, implies_true, true_implies, false_implies, forall_const, decide_true, decide_false, Bool.true_eq_false, Bool.false_eq_true, or_false, or_true, false_or, true_or, List.all_cons, List.all_nil, Bool.and_true, Bool.and_self, und_9, rob_with, ↓lv_with_7, ↓lv_with_6, ↓lv_with_5, ↓lv_with_4, ↓lv_with_3, ↓lv_with_2, ↓lv_with_1, ↓lv_with_0, ↓sg_with_7, ↓sg_with_6, ↓sg_with_5, ↓sg_with_4, ↓sg_with_3, ↓sg_with_2, ↓sg_with_1, ↓sg_with_0]
    trivial
  intro k i σ' ⟨hi, hs, hj⟩
  subst hs
  simp (config := {decide := true, maxSteps := 2000000}) only [↓bpre, bpost, ↓reduceIte, Nat.reduceEqDiff, aargs, aparts, targs, alit, loadOk, not_false_eq_true, Wone, cond_true, cond_false, dstOk, true_and, and_true, and_self, if_true, if_false, reduceCtorEq, Option.map_some, Option.map_none, Option.map_id', ares, aret, Nat.reduceAdd, Nat.reduceLT, Nat.reduceMul, Nat.zero_add, lenOf, alen, vcBuiltin, Option.isNone_none, Option.isNone_some, Option.isSome_none, Option.isSome_some, aun, aconv, padd, Nat.mul_one, ne_eq, not_false_eq_true, Option.bind_some, List.cons_append, List.nil_append, List.append_nil, abuild, afill, TP.place, List.set_cons_zero, List.set_cons_succ, List.drop_succ_cons, List.drop_zero, List.take_succ_cons, List.take_zero, List.getElem?_cons_zero, List.getElem?_cons_succ, List.length_cons, List.length_nil, List.length_map, implies_true, true_implies, false_implies, forall_const, decide_true, decide_false, Bool.true_eq_false, Bool.false_eq_true, or_false, or_true, false_or, true_or, List.all_cons, List.all_nil, Bool.and_true, Bool.and_self, und_9, rob_with, ↓lv_with_7, ↓lv_with_6, ↓lv_with_5, ↓lv_with_4, ↓lv_with_3, ↓lv_with_2, ↓lv_with_1, ↓lv_with_0, ↓sg_with_7, ↓sg_with_6, ↓sg_with_5, ↓sg_with_4, ↓sg_with_3, ↓sg_with_2, ↓sg_with_1, ↓sg_with_0]
  refine ⟨fun h => ⟨⟨by omega, by omega⟩, fun h2 => gotRes_one ⟨?_, rfl⟩, fun h2 => ⟨k - 1, by omega, i + 1, σ', by rw [wrap_i64 (by omega) (by omega)]; rfl, FrzH.refl _, by omega, rfl, fun j hj2 => ?_⟩⟩, fun h => gotRes_one ⟨?_, rfl⟩⟩
  · congr 3
    symm
    refine List.any_eq_true.2 ⟨b.data.getD i 0, ?_, by simpa using h2⟩
    have : i < b.data.size := by have : b.data.size = b.size := rfl; omega
    simp [Array.getElem?_eq_getElem this]
  · rcases Nat.lt_or_ge j i with h3 | h3
    · exact hj j h3
    · obtain rfl : j = i := by omega
      simpa using h2
  · congr 3
    symm
    refine List.any_eq_false.2 fun x hx => ?_
    obtain ⟨j, hj2, rfl⟩ := List.mem_iff_getElem.1 hx
    have h3 : b.data.toList.length = b.size := rfl
    have := hj j (by omega)
    have h4 : j < b.data.size := by have : b.data.size = b.size := rfl; omega
    simpa [Array.getElem?_eq_getElem h4] using this
end Y
