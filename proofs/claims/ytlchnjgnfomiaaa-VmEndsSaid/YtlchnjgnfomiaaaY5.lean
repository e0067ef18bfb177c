/- A part of the proof: Y5. -/
import Derived.Test.YtlchnjgnfomiaaaY4
set_option linter.unusedSimpArgs false
set_option linter.unusedVariables false
open Go Go.Ag Go.Proofs
namespace Y
def lv_truth : Nat → Option (List Tmp)
  | 3 => some [2]
  | 2 => some [2]
  | 1 => some [3]
  | 0 => some [0]
  | _ => none
def cf_truth : Cfg := { pl := fun _ => .stop, lv := lv_truth }
theorem lv_truth_3 : cf_truth.lv 3 = some [2] := rfl
theorem lv_truth_2 : cf_truth.lv 2 = some [2] := rfl
theorem lv_truth_1 : cf_truth.lv 1 = some [3] := rfl
theorem lv_truth_0 : cf_truth.lv 0 = some [0] := rfl
theorem sg_truth_3 : cf_truth.sg 3 = [] := rfl
theorem sg_truth_2 : cf_truth.sg 2 = [] := rfl
theorem sg_truth_1 : cf_truth.sg 1 = [] := rfl
theorem sg_truth_0 : cf_truth.sg 0 = [] := rfl
theorem rob_truth (i : Nat) : cf_truth.rob i = (true) := rfl
theorem ok_truth : okCode cf_truth.pl (Try.f88.body.get!) = true := by kernel_rfl
theorem c_truth (q : Bool) (σ : H) : ACalls Try.prog 88 [.v (.bool q)] σ fun e σ' => e = .ret (.v (.int .u64 (if q then 1 else 0))) ∧ σ' = σ := by
  refine acalls_go cf_truth 4 [.tmp 2] mix Try.func88 (by decide) rfl ok_truth rfl (Nat.le_of_ble_eq_true rfl) rfl ?_
  simp (config := {decide := true, maxSteps := 2000000}) only [↓bpre, bpost, ↓reduceIte, Nat.reduceEqDiff, aargs, aparts, targs, alit, loadOk, not_false_eq_true, Wone, cond_true, cond_false, dstOk, true_and, and_true, and_self, if_true, if_false, reduceCtorEq, Option.map_some, Option.map_none, Option.map_id', ares, aret, Nat.reduceAdd, Nat.reduceLT, Nat.reduceMul, Nat.zero_add, lenOf, alen, vcBuiltin, Option.isNone_none, Option.isNone_some, Option.isSome_none, Option.isSome_some, aun, aconv, padd, Nat.mul_one, ne_eq, not_false_eq_true, Option.bind_some, List.cons_append, List.nil_append, List.append_nil, abuild, afill, TP.place, List.set_cons_zero, List.set_cons_succ, List.drop_succ_cons, List.drop_zero, List.take_succ_cons, List.take_zero, List.getElem?_cons_zero, List.getElem?_cons_succ, List.length_cons, List.length_nil, List.length_map, implies_true, true_implies, false_implies, forall_const, decide_true, decide_false, Bool.true_eq_false, Bool.false_eq_true, or_false, or_true, false_or, true_or, List.all_cons, List.all_nil, Bool.and_true, Bool.and_self, rob_truth, ↓lv_truth_3, ↓lv_truth_2, ↓lv_truth_1, ↓lv_truth_0, ↓sg_truth_3, ↓sg_truth_2, ↓sg_truth_1, ↓sg_truth_0]
  exact onB_intro (fun h => gotRes_one ⟨by simp [h], rfl⟩) (fun h => gotRes_one ⟨by simp [h], rfl⟩)
def applyF (k a b : Int) : Int :=
  if k = 3 then IntKind.u64.wrap (a + b) else if k = 4 then IntKind.u64.wrap (a - b) else if k = 5 then IntKind.u64.wrap (a * b)
  else if k = 6 then andF a b
  else if k = 7 then IntKind.u64.wrap (BitVec.ofInt IntKind.u64.bits a ||| BitVec.ofInt IntKind.u64.bits b).toNat
  else if k = 8 then IntKind.u64.wrap (BitVec.ofInt IntKind.u64.bits a ^^^ BitVec.ofInt IntKind.u64.bits b).toNat
  else if k = 9 then IntKind.u64.wrap (a * 2 ^ min b.toNat IntKind.u64.bits)
  else if k = 10 then a.fdiv (2 ^ min b.toNat IntKind.u64.bits)
  else if k = 11 then (if a < b then 1 else 0) else if k = 12 then (if a = b then 1 else 0) else 0
def lv_apply : Nat → Option (List Tmp)
  | 22 => some [6]
  | 3 => some [6]
  | 5 => some [6]
  | 7 => some [6]
  | 9 => some [6]
  | 11 => some [6]
  | 13 => some [6]
  | 15 => some [6]
  | 17 => some [6]
  | 19 => some [6]
  | 21 => some [6]
  | 20 => some [1, 2, 54]
  | 18 => some [1, 2, 7, 48]
  | 16 => some [1, 2, 7, 43]
  | 14 => some [1, 2, 7, 38]
  | 12 => some [1, 2, 7, 33]
  | 10 => some [1, 2, 7, 28]
  | 8 => some [1, 2, 7, 23]
  | 6 => some [1, 2, 7, 18]
  | 4 => some [1, 2, 7, 13]
  | 2 => some [1, 2, 7, 8]
  | 1 => some [1, 2, 7]
  | 0 => some [0, 1, 2]
  | _ => none
def cf_apply : Cfg := { pl := fun _ => .stop, lv := lv_apply }
theorem lv_apply_22 : cf_apply.lv 22 = some [6] := rfl
theorem lv_apply_3 : cf_apply.lv 3 = some [6] := rfl
theorem lv_apply_5 : cf_apply.lv 5 = some [6] := rfl
theorem lv_apply_7 : cf_apply.lv 7 = some [6] := rfl
theorem lv_apply_9 : cf_apply.lv 9 = some [6] := rfl
theorem lv_apply_11 : cf_apply.lv 11 = some [6] := rfl
theorem lv_apply_13 : cf_apply.lv 13 = some [6] := rfl
theorem lv_apply_15 : cf_apply.lv 15 = some [6] := rfl
theorem lv_apply_17 : cf_apply.lv 17 = some [6] := rfl
theorem lv_apply_19 : cf_apply.lv 19 = some [6] := rfl
theorem lv_apply_21 : cf_apply.lv 21 = some [6] := rfl
theorem lv_apply_20 : cf_apply.lv 20 = some [1, 2, 54] := rfl
theorem lv_apply_18 : cf_apply.lv 18 = some [1, 2, 7, 48] := rfl
theorem lv_apply_16 : cf_apply.lv 16 = some [1, 2, 7, 43] := rfl
theorem lv_apply_14 : cf_apply.lv 14 = some [1, 2, 7, 38] := rfl
theorem lv_apply_12 : cf_apply.lv 12 = some [1, 2, 7, 33] := rfl
theorem lv_apply_10 : cf_apply.lv 10 = some [1, 2, 7, 28] := rfl
theorem lv_apply_8 : cf_apply.lv 8 = some [1, 2, 7, 23] := rfl
theorem lv_apply_6 : cf_apply.lv 6 = some [1, 2, 7, 18] := rfl
theorem lv_apply_4 : cf_apply.lv 4 = some [1, 2, 7, 13] := rfl
theorem lv_apply_2 : cf_apply.lv 2 = some [1, 2, 7, 8] := rfl
theorem lv_apply_1 : cf_apply.lv 1 = some [1, 2, 7] := rfl
theorem lv_apply_0 : cf_apply.lv 0 = some [0, 1, 2] := rfl
theorem sg_apply_22 : cf_apply.sg 22 = [] := rfl
theorem sg_apply_3 : cf_apply.sg 3 = [] := rfl
theorem sg_apply_5 : cf_apply.sg 5 = [] := rfl
theorem sg_apply_7 : cf_apply.sg 7 = [] := rfl
theorem sg_apply_9 : cf_apply.sg 9 = [] := rfl
theorem sg_apply_11 : cf_apply.sg 11 = [] := rfl
theorem sg_apply_13 : cf_apply.sg 13 = [] := rfl
theorem sg_apply_15 : cf_apply.sg 15 = [] := rfl
theorem sg_apply_17 : cf_apply.sg 17 = [] := rfl
theorem sg_apply_19 : cf_apply.sg 19 = [] := rfl
theorem sg_apply_21 : cf_apply.sg 21 = [] := rfl
theorem sg_apply_20 : cf_apply.sg 20 = [] := rfl
theorem sg_apply_18 : cf_apply.sg 18 = [] := rfl
theorem sg_apply_16 : cf_apply.sg 16 = [] := rfl
theorem sg_apply_14 : cf_apply.sg 14 = [] := rfl
theorem sg_apply_12 : cf_apply.sg 12 = [] := rfl
theorem sg_apply_10 : cf_apply.sg 10 = [] := rfl
theorem sg_apply_8 : cf_apply.sg 8 = [] := rfl
theorem sg_apply_6 : cf_apply.sg 6 = [] := rfl
theorem sg_apply_4 : cf_apply.sg 4 = [] := rfl
theorem sg_apply_2 : cf_apply.sg 2 = [] := rfl
theorem sg_apply_1 : cf_apply.sg 1 = [] := rfl
theorem sg_apply_0 : cf_apply.sg 0 = [] := rfl
theorem rob_apply (i : Nat) : cf_apply.rob i = (true) := rfl
theorem ok_apply : okCode cf_apply.pl (Try.f80.body.get!) = true := by kernel_rfl
set_option maxRecDepth 100000 in
theorem c_apply (k a b : Int) (hb : 0 ≤ b) (σ : H) : ACalls Try.prog 80 [.v (.int .i64 k), .v (.int .u64 a), .v (.int .u64 b)] σ fun e σ' => e = .ret (.v (.int .u64 (applyF k a b))) ∧ σ' = σ := by
  have ht : ∀ q : Prop, ∀ [Decidable q], (if decide q = true then (1 : Int) else 0) = if q then 1 else 0 := by intro q _; by_cases h : q <;> simp [h]
  refine acalls_go cf_apply 60 [.tmp 6] mix Try.func80 (by decide) rfl ok_apply rfl (Nat.le_of_ble_eq_true rfl) rfl ?_
  simp (config := {decide := true, maxSteps := 2000000}) only [↓bpre, bpost, ↓reduceIte, Nat.reduceEqDiff, aargs, aparts, targs, alit, loadOk, not_false_eq_true, Wone, cond_true, cond_false, dstOk, true_and, and_true, and_self, if_true, if_false, reduceCtorEq, Option.map_some, Option.map_none, Option.map_id', ares, aret, Nat.reduceAdd, Nat.reduceLT, Nat.reduceMul, Nat.zero_add, lenOf, alen, vcBuiltin, Option.isNone_none, Option.isNone_some, Option.isSome_none, Option.isSome_some, aun, aconv, padd, Nat.mul_one, ne_eq, not_false_eq_true, Option.bind_some, List.cons_append, List.nil_append, List.append_nil, abuild, afill, TP.place, List.set_cons_zero, List.set_cons_succ, List.drop_succ_cons, List.drop_zero, List.take_succ_cons, List.take_zero, List.getElem?_cons_zero, List.getElem?_cons_succ, List.length_cons, List.length_nil, List.length_map, implies_true, true_implies, false_implies, forall_const, decide_true, decide_false, Bool.true_eq_false, Bool.false_eq_true, or_false, or_true, false_or, true_or, List.all_cons, List.all_nil, Bool.and_true, Bool.and_self, rob_apply, ↓lv_apply_22, ↓lv_apply_3, ↓lv_apply_5, ↓lv_apply_7, ↓lv_apply_9, ↓lv_apply_11, ↓lv_apply_13, ↓lv_apply_15, ↓lv_apply_17, ↓lv_apply_19, ↓lv_apply_21, ↓lv_apply_20, ↓lv_apply_18, ↓lv_apply_16, ↓lv_apply_14, ↓lv_apply_12, ↓lv_apply_10, ↓lv_apply_8, ↓lv_apply_6, ↓lv_apply_4, ↓lv_apply_2, ↓lv_apply_1, ↓lv_apply_0, ↓sg_apply_22, ↓sg_apply_3, ↓sg_apply_5, ↓sg_apply_7, ↓sg_apply_9, ↓sg_apply_11, ↓sg_apply_13, ↓sg_apply_15, ↓sg_apply_17, ↓sg_apply_19, ↓sg_apply_21, ↓sg_apply_20, ↓sg_apply_18, ↓sg_apply_16, ↓sg_apply_14, ↓sg_apply_12, ↓sg_apply_10, ↓sg_apply_8, ↓sg_apply_6, ↓sg_apply_4, ↓sg_apply_2, ↓sg_apply_1, ↓sg_apply_0]
  repeat' first | with_reducible refine And.intro ?_ ?_ | (with_reducible intro _)
  all_goals first
    | exact hb
    | exact gotRes_one ⟨by simp only [applyF, *, if_true, if_false]; rfl, rfl⟩
    | exact gotRes_one ⟨by simp only [applyF, *, if_true, if_false], rfl⟩
    | (refine (c_truth _ _).ret ?_
       simp (config := {decide := true, maxSteps := 2000000}) only [↓bpre, bpost, ↓reduceIte, Nat.reduceEqDiff, aargs, aparts, targs, alit, loadOk, not_false_eq_true, Wone, cond_true, cond_false, dstOk, true_and, and_true, and_self, if_true, if_false, reduceCtorEq, Option.map_some, Option.map_none, Option.map_id', ares, aret, Nat.reduceAdd, Nat.reduceLT, Nat.reduceMul, Nat.zero_add, lenOf, alen, vcBuiltin, Option.isNone_none, Option.isNone_some, Option.isSome_none, Option.isSome_some, aun, aconv, padd, Nat.mul_one, ne_eq, not_false_eq_true, Option.bind_some, List.cons_append, List.nil_append, List.append_nil, abuild, afill, TP.place, List.set_cons_zero, List.set_cons_succ, List.drop_succ_cons, List.drop_zero, List.take_succ_cons, List.take_zero, List.getElem?_cons_zero, List.getElem?_cons_succ, List.length_cons, List.length_nil, List.length_map, implies_true, true_implies, false_implies, forall_const, decide_true, decide_false, Bool.true_eq_false, Bool.false_eq_true, or_false, or_true, false_or, true_or, List.all_cons, List.all_nil, Bool.and_true, Bool.and_self, rob_apply, ↓lv_apply_22, ↓lv_apply_3, ↓lv_apply_5, ↓lv_apply_7, ↓lv_apply_9, ↓lv_apply_11, ↓lv_apply_13, ↓lv_apply_15, ↓lv_apply_17, ↓lv_apply_19, ↓lv_apply_21, ↓lv_apply_20, ↓lv_apply_18, ↓lv_apply_16, ↓lv_apply_14, ↓lv_apply_12, ↓lv_apply_10, ↓lv_apply_8, ↓lv_apply_6, ↓lv_apply_4, ↓lv_apply_2, ↓lv_apply_1, ↓lv_apply_0, ↓sg_apply_22, ↓sg_apply_3, ↓sg_apply_5, ↓sg_apply_7, ↓sg_apply_9, ↓sg_apply_11, ↓sg_apply_13, ↓sg_apply_15, ↓sg_apply_17, ↓sg_apply_19, ↓sg_apply_21, ↓sg_apply_20, ↓sg_apply_18, ↓sg_apply_16, ↓sg_apply_14, ↓sg_apply_12, ↓sg_apply_10, ↓sg_apply_8, ↓sg_apply_6, ↓sg_apply_4, ↓sg_apply_2, ↓sg_apply_1, ↓sg_apply_0]
       exact gotRes_one ⟨by simp [applyF, *], rfl⟩)
def loadF (b : List Int) (at_ : Nat) : Nat → Int → Int
  | 0, v => v
  | n + 1, v => loadF b (at_ + 1) n (IntKind.u64.wrap (BitVec.ofInt IntKind.u64.bits (IntKind.u64.wrap (v * 2 ^ 8)) ||| BitVec.ofInt IntKind.u64.bits (b.getD at_ 0)).toNat)
def putS (s : VS) (r v : Int) : VS := { s with regs := s.regs.set r.toNat v, hav := s.hav.set r.toNat true }
def loadS (s : VS) (x : Ins) : Int × VS :=
  let a := s.regs.getD x.s.toNat 0
  if withinF s.b a (x.n + x.k) then (0, putS s x.r (loadF s.b (a.toNat + x.n.toNat) x.k.toNat 0)) else (16, s)
def pl_load : Nat → Plan
  | 1 => .first 0 [3, 4, 5, 6, 7] false (.first 1 [2, 5, 6, 7] false (.first 2 [5, 6, 7] false (.first 3 [4, 5, 6, 7] false (.first 4 [5, 6, 7] false (.first 5 [6, 7] false (.first 6 [7] false (.first 7 [] false (.done))))))))
  | 8 => .first 0 [1, 16, 17] false (.first 1 [16, 17] false (.first 2 [3, 4, 5, 13, 14, 15, 16, 17] false (.first 3 [4, 5, 13, 14, 15, 16, 17] false (.first 4 [5, 13, 14, 15, 16, 17] false (.first 5 [13, 14, 15, 16, 17] false (.first 6 [9, 10, 12, 13, 14, 15, 16, 17] false (.first 7 [8, 9, 10, 12, 13, 14, 15, 16, 17] false (.first 8 [9, 10, 12, 13, 14, 15, 16, 17] false (.first 9 [10, 12, 13, 14, 15, 16, 17] false (.first 10 [12, 13, 14, 15, 16, 17] false (.first 11 [12, 13, 14, 15, 16, 17] false (.first 12 [13, 14, 15, 16, 17] false (.first 13 [14, 15, 16, 17] false (.first 14 [15, 16, 17] false (.first 15 [16, 17] false (.first 16 [17] false (.first 17 [] false (.done))))))))))))))))))
  | _ => .stop
def lv_load : Nat → Option (List Tmp)
  | 10 => some [4]
  | 9 => some [0, 3, 5, 6, 26, 27]
  | 8 => some [0, 3, 5, 6, 26, 27]
  | 7 => some [0, 3, 5, 6, 7, 26, 27]
  | 6 => some [0, 3, 5, 6, 26, 27, 28]
  | 5 => some [0, 3, 5, 6, 26, 27]
  | 4 => some [0, 3, 5, 6]
  | 3 => some [4]
  | 2 => some [0, 3, 5, 24]
  | 1 => some [0, 3, 5]
  | 0 => some [0, 3]
  | _ => none
def cf_load : Cfg := { pl := pl_load, lv := lv_load }
theorem lv_load_10 : cf_load.lv 10 = some [4] := rfl
theorem lv_load_9 : cf_load.lv 9 = some [0, 3, 5, 6, 26, 27] := rfl
theorem lv_load_8 : cf_load.lv 8 = some [0, 3, 5, 6, 26, 27] := rfl
theorem lv_load_7 : cf_load.lv 7 = some [0, 3, 5, 6, 7, 26, 27] := rfl
theorem lv_load_6 : cf_load.lv 6 = some [0, 3, 5, 6, 26, 27, 28] := rfl
theorem lv_load_5 : cf_load.lv 5 = some [0, 3, 5, 6, 26, 27] := rfl
theorem lv_load_4 : cf_load.lv 4 = some [0, 3, 5, 6] := rfl
theorem lv_load_3 : cf_load.lv 3 = some [4] := rfl
theorem lv_load_2 : cf_load.lv 2 = some [0, 3, 5, 24] := rfl
theorem lv_load_1 : cf_load.lv 1 = some [0, 3, 5] := rfl
theorem lv_load_0 : cf_load.lv 0 = some [0, 3] := rfl
theorem sg_load_10 : cf_load.sg 10 = [] := rfl
theorem sg_load_9 : cf_load.sg 9 = [] := rfl
theorem sg_load_7 : cf_load.sg 7 = [] := rfl
theorem sg_load_6 : cf_load.sg 6 = [] := rfl
theorem sg_load_5 : cf_load.sg 5 = [] := rfl
theorem sg_load_4 : cf_load.sg 4 = [] := rfl
theorem sg_load_3 : cf_load.sg 3 = [] := rfl
theorem sg_load_2 : cf_load.sg 2 = [] := rfl
theorem sg_load_0 : cf_load.sg 0 = [] := rfl
theorem rob_load (i : Nat) : cf_load.rob i = (true) := rfl
theorem pl_load_1 : cf_load.pl 1 = .first 0 [3, 4, 5, 6, 7] false (.first 1 [2, 5, 6, 7] false (.first 2 [5, 6, 7] false (.first 3 [4, 5, 6, 7] false (.first 4 [5, 6, 7] false (.first 5 [6, 7] false (.first 6 [7] false (.first 7 [] false (.done)))))))) := rfl
theorem pl_load_8 : cf_load.pl 8 = .first 0 [1, 16, 17] false (.first 1 [16, 17] false (.first 2 [3, 4, 5, 13, 14, 15, 16, 17] false (.first 3 [4, 5, 13, 14, 15, 16, 17] false (.first 4 [5, 13, 14, 15, 16, 17] false (.first 5 [13, 14, 15, 16, 17] false (.first 6 [9, 10, 12, 13, 14, 15, 16, 17] false (.first 7 [8, 9, 10, 12, 13, 14, 15, 16, 17] false (.first 8 [9, 10, 12, 13, 14, 15, 16, 17] false (.first 9 [10, 12, 13, 14, 15, 16, 17] false (.first 10 [12, 13, 14, 15, 16, 17] false (.first 11 [12, 13, 14, 15, 16, 17] false (.first 12 [13, 14, 15, 16, 17] false (.first 13 [14, 15, 16, 17] false (.first 14 [15, 16, 17] false (.first 15 [16, 17] false (.first 16 [17] false (.first 17 [] false (.done)))))))))))))))))) := rfl
theorem wa_load_1 : cf_load.wa 1 = false := rfl
theorem wa_load_8 : cf_load.wa 8 = false := rfl
theorem wl_load_1 : cf_load.wl 1 = [] := rfl
theorem wl_load_8 : cf_load.wl 8 = [] := rfl
theorem ok_load : okCode cf_load.pl (Try.f78.body.get!) = true := by kernel_rfl
set_option maxRecDepth 100000 in
theorem c_load {σ0 σ : H} {bm bs bt : Nat} {y : AV} {s : VS} (h : VH σ0 σ bm bs bt y s) (x : Ins) (hS : 0 ≤ x.s ∧ x.s < 10) (hR : 0 ≤ x.r ∧ x.r < 10) (hK : 1 ≤ x.k ∧ x.k ≤ 8) (hN : 0 ≤ x.n ∧ x.n ≤ 600) (hb : s.b.length < 9223372036854775807) (hv : ∀ r ∈ s.regs, 0 ≤ r ∧ r < 18446744073709551616) (hby : ∀ r ∈ s.b, 0 ≤ r ∧ r < 256) :
    ACalls Try.prog 78 [.v (.pointer (some ⟨bm, 0, none⟩)), .agg x.c] σ fun e σ' => e = .ret (.v (.int .i64 (loadS s x).1)) ∧ VH σ0 σ' bm bs bt y (loadS s x).2 := by
  have hm := h.m
  have hk : x.s.toNat < s.regs.length := by rw [h.ok.1]; omega
  have hg := mC_reg (x := .sl bs s.slot.length 1 70) (y := .sl bt s.set.length 1 4) (z := y) h.ok hk
  have hg4 : (mC s (.sl bs s.slot.length 1 70) (.sl bt s.set.length 1 4) y)[4]? = some (.ro (s.b.map u8r)) := by rw [mC_left h.ok (by omega)]; rfl
  refine acalls_go cf_load 53 [.tmp 4] mix Try.func78 (by decide) rfl ok_load rfl (Nat.le_of_ble_eq_true rfl) rfl ?_
  simp only [Ins.c]
  simp (config := {decide := true, maxSteps := 2000000}) only [↓bpre, bpost, ↓reduceIte, Nat.reduceEqDiff, aargs, aparts, targs, alit, loadOk, not_false_eq_true, Wone, cond_true, cond_false, dstOk, true_and, and_true, and_self, if_true, if_false, reduceCtorEq, Option.map_some, Option.map_none, Option.map_id', ares, aret, Nat.reduceAdd, Nat.reduceLT, Nat.reduceMul, Nat.zero_add, lenOf, alen, vcBuiltin, Option.isNone_none, Option.isNone_some, Option.isSome_none, Option.isSome_some, aun, aconv, padd, Nat.mul_one, ne_eq, not_false_eq_true, Option.bind_some, List.cons_append, List.nil_append, List.append_nil, abuild, afill, TP.place, List.set_cons_zero, List.set_cons_succ, List.drop_succ_cons, List.drop_zero, List.take_succ_cons, List.take_zero, List.getElem?_cons_zero, List.getElem?_cons_succ, List.length_cons, List.length_nil, List.length_map, implies_true, true_implies, false_implies, forall_const, decide_true, decide_false, Bool.true_eq_false, Bool.false_eq_true, or_false, or_true, false_or, true_or, List.all_cons, List.all_nil, Bool.and_true, Bool.and_self, tfo_87_2, tsz_3, tfo_95_4, tel_92, tsz_70, tfo_87_5, tfo_87_3, uis_3, und_70, tfo_95_2, tsz_59, uis_70, und_3, tel_59, tsz_5, uis_5, tfo_87_1, rob_load, ↓lv_load_10, ↓lv_load_9, ↓lv_load_8, ↓lv_load_7, ↓lv_load_6, ↓lv_load_5, ↓lv_load_4, ↓lv_load_3, ↓lv_load_2, ↓lv_load_1, ↓lv_load_0, ↓sg_load_10, ↓sg_load_9, ↓sg_load_7, ↓sg_load_6, ↓sg_load_5, ↓sg_load_4, ↓sg_load_3, ↓sg_load_2, ↓sg_load_0, ↓pl_load_1, ↓wl_load_1, Wreg_of wa_load_1, ↓pl_load_8, ↓wl_load_8, Wreg_of wa_load_8, hm, List.getElem?_drop, Nat.add_zero, hg, hg4]
  have hrv := hv _ (List.getElem_mem hk)
  have hw : IntKind.u64.wrap (x.n + IntKind.u64.wrap x.k) = x.n + x.k := by rw [wrap_u64 (n := x.k) (by omega) (by omega), wrap_u64 (by omega) (by omega)]
  rw [hw]
  refine ⟨hS.1, by omega, (c_within h (by omega) _ _ hrv.1).ret ?_⟩
  simp (config := {decide := true, maxSteps := 2000000}) only [↓bpre, bpost, ↓reduceIte, Nat.reduceEqDiff, aargs, aparts, targs, alit, loadOk, not_false_eq_true, Wone, cond_true, cond_false, dstOk, true_and, and_true, and_self, if_true, if_false, reduceCtorEq, Option.map_some, Option.map_none, Option.map_id', ares, aret, Nat.reduceAdd, Nat.reduceLT, Nat.reduceMul, Nat.zero_add, lenOf, alen, vcBuiltin, Option.isNone_none, Option.isNone_some, Option.isSome_none, Option.isSome_some, aun, aconv, padd, Nat.mul_one, ne_eq, not_false_eq_true, Option.bind_some, List.cons_append, List.nil_append, List.append_nil, abuild, afill, TP.place, List.set_cons_zero, List.set_cons_succ, List.drop_succ_cons, List.drop_zero, List.take_succ_cons, List.take_zero, List.getElem?_cons_zero, List.getElem?_cons_succ, List.length_cons, List.length_nil, List.length_map, implies_true, true_implies, false_implies, forall_const, decide_true, decide_false, Bool.true_eq_false, Bool.false_eq_true, or_false, or_true, false_or, true_or, List.all_cons, List.all_nil, Bool.and_true, Bool.and_self, tfo_87_2, tsz_3, tfo_95_4, tel_92, tsz_70, tfo_87_5, tfo_87_3, uis_3, und_70, tfo_95_2, tsz_59, uis_70, und_3, tel_59, tsz_5, uis_5, tfo_87_1, rob_load, ↓lv_load_10, ↓lv_load_9, ↓lv_load_8, ↓lv_load_7, ↓lv_load_6, ↓lv_load_5, ↓lv_load_4, ↓lv_load_3, ↓lv_load_2, ↓lv_load_1, ↓lv_load_0, ↓sg_load_10, ↓sg_load_9, ↓sg_load_7, ↓sg_load_6, ↓sg_load_5, ↓sg_load_4, ↓sg_load_3, ↓sg_load_2, ↓sg_load_0, ↓pl_load_1, ↓wl_load_1, Wreg_of wa_load_1, ↓pl_load_8, ↓wl_load_8, Wreg_of wa_load_8, hm, List.getElem?_drop, Nat.add_zero, hg, hg4]
  refine ⟨fun hin => ?_, fun hin => ?_⟩
  · refine vcLoop_of (lv := [0, 3, 5, 26]) (fun (p : Nat × Int) => [(27, .v (.int .i64 p.1)), (6, .v (.int .u64 p.2))]) (fun k p σ' => p.1 + k = x.k.toNat ∧ σ' = σ ∧ loadF s.b (s.regs[x.s.toNat].toNat + x.n.toNat + p.1) k p.2 = loadF s.b (s.regs[x.s.toNat].toNat + x.n.toNat) x.k.toNat 0) x.k.toNat (0, 0) ?_ ⟨by omega, rfl, rfl⟩ ?_
    · simp (config := {decide := true, maxSteps := 2000000}) only [↓bpre, bpost, ↓reduceIte, Nat.reduceEqDiff, aargs, aparts, targs, alit, loadOk, not_false_eq_true, Wone, cond_true, cond_false, dstOk, true_and, and_true, and_self, if_true, if_false, reduceCtorEq, Option.map_some, Option.map_none, Option.map_id', ares, aret, Nat.reduceAdd, Nat.reduceLT, Nat.reduceMul, Nat.zero_add, lenOf, alen, vcBuiltin, Option.isNone_none, Option.isNone_some, Option.isSome_none, Option.isSome_some, aun, aconv, padd, Nat.mul_one, ne_eq, not_false_eq_true, Option.bind_some, List.cons_append, List.nil_append, List.append_nil, abuild, afill, TP.place, List.set_cons_zero, List.set_cons_succ, List.drop_succ_cons, List.drop_zero, List.take_succ_cons, List.take_zero, List.getElem?_cons_zero, List.getElem?_cons_succ, List.length_cons, List.length_nil, List.length_map, implies_true, true_implies, false_implies, forall_const, decide_true, decide_false, Bool.true_eq_false, Bool.false_eq_true, or_false, or_true, false_or, true_or, List.all_cons, List.all_nil, Bool.and_true, Bool.and_self, tfo_87_2, tsz_3, tfo_95_4, tel_92, tsz_70, tfo_87_5, tfo_87_3, uis_3, und_70, tfo_95_2, tsz_59, uis_70, und_3, tel_59, tsz_5, uis_5, tfo_87_1, rob_load, ↓lv_load_10, ↓lv_load_9, ↓lv_load_8, ↓lv_load_7, ↓lv_load_6, ↓lv_load_5, ↓lv_load_4, ↓lv_load_3, ↓lv_load_2, ↓lv_load_1, ↓lv_load_0, ↓sg_load_10, ↓sg_load_9, ↓sg_load_7, ↓sg_load_6, ↓sg_load_5, ↓sg_load_4, ↓sg_load_3, ↓sg_load_2, ↓sg_load_0, ↓pl_load_1, ↓wl_load_1, Wreg_of wa_load_1, ↓pl_load_8, ↓wl_load_8, Wreg_of wa_load_8]
      trivial
    intro k p σ' ⟨hi, hs, hj⟩
    subst hs
    simp (config := {decide := true, maxSteps := 2000000}) only [↓bpre, bpost, ↓reduceIte, Nat.reduceEqDiff, aargs, aparts, targs, alit, loadOk, not_false_eq_true, Wone, cond_true, cond_false, dstOk, true_and, and_true, and_self, if_true, if_false, reduceCtorEq, Option.map_some, Option.map_none, Option.map_id', ares, aret, Nat.reduceAdd, Nat.reduceLT, Nat.reduceMul, Nat.zero_add, lenOf, alen, vcBuiltin, Option.isNone_none, Option.isNone_some, Option.isSome_none, Option.isSome_some, aun, aconv, padd, Nat.mul_one, ne_eq, not_false_eq_true, Option.bind_some, List.cons_append, List.nil_append, List.append_nil, abuild, afill, TP.place, List.set_cons_zero, List.set_cons_succ, List.drop_succ_cons, List.drop_zero, List.take_succ_cons, List.take_zero, List.getElem?_cons_zero, List.getElem?_cons_succ, List.length_cons, List.length_nil, List.length_map, implies_true, true_implies, false_implies, forall_const, decide_true, decide_false, Bool.true_eq_false, Bool.false_eq_true, or_false, or_true, false_or, true_or, List.all_cons, List.all_nil, Bool.and_true, Bool.and_self, tfo_87_2, tsz_3, tfo_95_4, tel_92, tsz_70, tfo_87_5, tfo_87_3, uis_3, und_70, tfo_95_2, tsz_59, uis_70, und_3, tel_59, tsz_5, uis_5, tfo_87_1, rob_load, ↓lv_load_10, ↓lv_load_9, ↓lv_load_8, ↓lv_load_7, ↓lv_load_6, ↓lv_load_5, ↓lv_load_4, ↓lv_load_3, ↓lv_load_2, ↓lv_load_1, ↓lv_load_0, ↓sg_load_10, ↓sg_load_9, ↓sg_load_7, ↓sg_load_6, ↓sg_load_5, ↓sg_load_4, ↓sg_load_3, ↓sg_load_2, ↓sg_load_0, ↓pl_load_1, ↓wl_load_1, Wreg_of wa_load_1, ↓pl_load_8, ↓wl_load_8, Wreg_of wa_load_8, hm, List.getElem?_drop, Nat.add_zero, hg, hg4]
    have hr : s.regs.getD x.s.toNat 0 = s.regs[x.s.toNat] := by simp [hk]
    refine ⟨fun hlt => ?_, fun hge => ?_⟩
    · have hw2 : IntKind.i64.wrap (IntKind.i64.wrap (IntKind.u64.wrap (s.regs[x.s.toNat] + x.n)) + p.1) = ((s.regs[x.s.toNat].toNat + x.n.toNat + p.1 : Nat) : Int) := by
        obtain ⟨h1, h2⟩ := hin
        rw [wrap_u64 (n := s.regs[x.s.toNat] + x.n) (by omega) (by omega), wrap_i64 (n := s.regs[x.s.toNat] + x.n) (by omega) (by omega), wrap_i64 (by omega) (by omega)]
        omega
      rw [hw2]
      have hlt2 : s.regs[x.s.toNat].toNat + x.n.toNat + p.1 < s.b.length := by obtain ⟨h1, h2⟩ := hin; omega
      have hbv := hby _ (List.getElem_mem hlt2)
      refine ⟨by omega, aix_map (f := u8r) (List.getElem?_eq_getElem hlt2) rfl ?_⟩
      simp only [u8r]
      simp (config := {decide := true, maxSteps := 2000000}) only [↓bpre, bpost, ↓reduceIte, Nat.reduceEqDiff, aargs, aparts, targs, alit, loadOk, not_false_eq_true, Wone, cond_true, cond_false, dstOk, true_and, and_true, and_self, if_true, if_false, reduceCtorEq, Option.map_some, Option.map_none, Option.map_id', ares, aret, Nat.reduceAdd, Nat.reduceLT, Nat.reduceMul, Nat.zero_add, lenOf, alen, vcBuiltin, Option.isNone_none, Option.isNone_some, Option.isSome_none, Option.isSome_some, aun, aconv, padd, Nat.mul_one, ne_eq, not_false_eq_true, Option.bind_some, List.cons_append, List.nil_append, List.append_nil, abuild, afill, TP.place, List.set_cons_zero, List.set_cons_succ, List.drop_succ_cons, List.drop_zero, List.take_succ_cons, List.take_zero, List.getElem?_cons_zero, List.getElem?_cons_succ, List.length_cons, List.length_nil, List.length_map, implies_true, true_implies, false_implies, forall_const, decide_true, decide_false, Bool.true_eq_false, Bool.false_eq_true, or_false, or_true, false_or, true_or, List.all_cons, List.all_nil, Bool.and_true, Bool.and_self, tfo_87_2, tsz_3, tfo_95_4, tel_92, tsz_70, tfo_87_5, tfo_87_3, uis_3, und_70, tfo_95_2, tsz_59, uis_70, und_3, tel_59, tsz_5, uis_5, tfo_87_1, rob_load, ↓lv_load_10, ↓lv_load_9, ↓lv_load_8, ↓lv_load_7, ↓lv_load_6, ↓lv_load_5, ↓lv_load_4, ↓lv_load_3, ↓lv_load_2, ↓lv_load_1, ↓lv_load_0, ↓sg_load_10, ↓sg_load_9, ↓sg_load_7, ↓sg_load_6, ↓sg_load_5, ↓sg_load_4, ↓sg_load_3, ↓sg_load_2, ↓sg_load_0, ↓pl_load_1, ↓wl_load_1, Wreg_of wa_load_1, ↓pl_load_8, ↓wl_load_8, Wreg_of wa_load_8]
      refine ⟨k - 1, by omega, (p.1 + 1, _), _, ⟨by rw [wrap_i64 (by omega) (by omega)]; rfl, rfl⟩, FrzH.refl _, by simp only; omega, rfl, ?_⟩
      rw [← hj]
      obtain ⟨m, rfl⟩ : ∃ m, k = m + 1 := ⟨k - 1, by omega⟩
      simp only [loadF, Nat.add_sub_cancel]
      rw [show s.b.getD (s.regs[x.s.toNat].toNat + x.n.toNat + p.1) 0 = s.b[s.regs[x.s.toNat].toNat + x.n.toNat + p.1] by simp [hlt2], wrap_u64 (n := s.b[s.regs[x.s.toNat].toNat + x.n.toNat + p.1]) (by omega) (by omega)]
      rfl
    · obtain rfl : k = 0 := by omega
      have he : loadS s x = (0, putS s x.r p.2) := by
        simp only [loadS, hr, if_pos hin, ← hj, loadF]
      rw [he]
      refine (c_put h x.r p.2 hR).mono ?_
      rintro e σ2 ⟨rfl, h2⟩
      show endK _ _ _ _
      simp (config := {decide := true, maxSteps := 2000000}) only [↓bpre, bpost, ↓reduceIte, Nat.reduceEqDiff, aargs, aparts, targs, alit, loadOk, not_false_eq_true, Wone, cond_true, cond_false, dstOk, true_and, and_true, and_self, if_true, if_false, reduceCtorEq, Option.map_some, Option.map_none, Option.map_id', ares, aret, Nat.reduceAdd, Nat.reduceLT, Nat.reduceMul, Nat.zero_add, lenOf, alen, vcBuiltin, Option.isNone_none, Option.isNone_some, Option.isSome_none, Option.isSome_some, aun, aconv, padd, Nat.mul_one, ne_eq, not_false_eq_true, Option.bind_some, List.cons_append, List.nil_append, List.append_nil, abuild, afill, TP.place, List.set_cons_zero, List.set_cons_succ, List.drop_succ_cons, List.drop_zero, List.take_succ_cons, List.take_zero, List.getElem?_cons_zero, List.getElem?_cons_succ, List.length_cons, List.length_nil, List.length_map, implies_true, true_implies, false_implies, forall_const, decide_true, decide_false, Bool.true_eq_false, Bool.false_eq_true, or_false, or_true, false_or, true_or, List.all_cons, List.all_nil, Bool.and_true, Bool.and_self, tfo_87_2, tsz_3, tfo_95_4, tel_92, tsz_70, tfo_87_5, tfo_87_3, uis_3, und_70, tfo_95_2, tsz_59, uis_70, und_3, tel_59, tsz_5, uis_5, tfo_87_1, rob_load, ↓lv_load_10, ↓lv_load_9, ↓lv_load_8, ↓lv_load_7, ↓lv_load_6, ↓lv_load_5, ↓lv_load_4, ↓lv_load_3, ↓lv_load_2, ↓lv_load_1, ↓lv_load_0, ↓sg_load_10, ↓sg_load_9, ↓sg_load_7, ↓sg_load_6, ↓sg_load_5, ↓sg_load_4, ↓sg_load_3, ↓sg_load_2, ↓sg_load_0, ↓pl_load_1, ↓wl_load_1, Wreg_of wa_load_1, ↓pl_load_8, ↓wl_load_8, Wreg_of wa_load_8]
      exact gotRes_one ⟨rfl, h2⟩
  · have hr : s.regs.getD x.s.toNat 0 = s.regs[x.s.toNat] := by simp [hk]
    have he : loadS s x = (16, s) := by simp only [loadS, hr, if_neg hin]
    rw [he]
    exact gotRes_one ⟨rfl, h⟩
end Y
