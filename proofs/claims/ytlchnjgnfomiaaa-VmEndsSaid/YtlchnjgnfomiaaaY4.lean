/- A part of the proof: Y4. -/
import Derived.Test.YtlchnjgnfomiaaaY3
set_option linter.unusedSimpArgs false
set_option linter.unusedVariables false
open Go Go.Ag Go.Proofs
namespace Y
/-- A machine's state. -/
structure VS where
  p : Prog
  tabs : AV
  b : List Int
  port : Int
  regs : List Int
  hav : List Bool
  slot : List Int
  set : List Bool
  oport : Int
  out : List Int
def u64r (x : Int) : List AV := [.v (.int .u64 x)]
def u8r (x : Int) : List AV := [.v (.int .u8 x)]
def boolr (x : Bool) : List AV := [.v (.bool x)]
/-- A machine's cells. -/
def mP (s : VS) : List AV :=
  .v (.int .i64 s.p.slots) :: .ro (s.p.tabs.map Shape.c) :: .ro (s.p.code.map Ins.c) :: s.tabs :: .ro (s.b.map u8r) :: .v (.int .i64 s.port) ::
    (s.regs.map (fun x => AV.v (.int .u64 x)) ++ s.hav.map (fun x => AV.v (.bool x)))
def mC (s : VS) (slot set ob : AV) : List AV := mP s ++ [slot, set, .v (.int .i64 s.oport), ob]
def VS.ok (s : VS) : Prop := s.regs.length = 10 ∧ s.hav.length = 10 ∧ s.slot.length = s.set.length
section
variable {s : VS} {x y z : AV}
theorem mP_len (h : s.ok) : (mP s).length = 26 := by simp [mP, h.1, h.2.1]
theorem mC_len (h : s.ok) : (mC s x y z).length = 30 := by simp [mC, mP_len h]
theorem mP_reg {k : Nat} (hk : k < s.regs.length) : (mP s)[6 + k]? = some (.v (.int .u64 s.regs[k])) := by
  rw [mP, show 6 + k = k + 1 + 1 + 1 + 1 + 1 + 1 by omega]
  simp only [List.getElem?_cons_succ]
  rw [List.getElem?_append_left (by simpa using hk)]
  simp [hk]
theorem mP_hav (h : s.ok) {k : Nat} (hk : k < s.hav.length) : (mP s)[16 + k]? = some (.v (.bool s.hav[k])) := by
  rw [mP, show 16 + k = 10 + k + 1 + 1 + 1 + 1 + 1 + 1 by omega]
  simp only [List.getElem?_cons_succ]
  rw [List.getElem?_append_right (by simp [h.1])]
  simp [h.1, hk]
theorem mC_left (h : s.ok) {k : Nat} (hk : k < 26) : (mC s x y z)[k]? = (mP s)[k]? := List.getElem?_append_left (by rw [mP_len h]; exact hk)
theorem mC_tail (h : s.ok) (k : Nat) : (mC s x y z)[26 + k]? = [x, y, .v (.int .i64 s.oport), z][k]? := by
  rw [mC, List.getElem?_append_right (by rw [mP_len h]; omega), mP_len h, show 26 + k - 26 = k by omega]
theorem mC_reg (h : s.ok) {k : Nat} (hk : k < s.regs.length) : (mC s x y z)[6 + k]? = some (.v (.int .u64 s.regs[k])) := by
  rw [mC_left h (by have := h.1; omega), mP_reg hk]
theorem mC_hav (h : s.ok) {k : Nat} (hk : k < s.hav.length) : (mC s x y z)[16 + k]? = some (.v (.bool s.hav[k])) := by
  rw [mC_left h (by have := h.2.1; omega), mP_hav h hk]
theorem mC_setReg (h : s.ok) {k : Nat} (hk : k < s.regs.length) (v : Int) : (mC s x y z).set (6 + k) (.v (.int .u64 v)) = mC { s with regs := s.regs.set k v } x y z := by
  rw [mC, List.set_append_left _ _ (by rw [mP_len h]; have := h.1; omega), mP, show 6 + k = k + 1 + 1 + 1 + 1 + 1 + 1 by omega]
  simp only [List.set_cons_succ]
  rw [List.set_append_left _ _ (by simpa using hk)]
  simp [mC, mP, List.map_set]
theorem mC_setHav (h : s.ok) {k : Nat} (hk : k < s.hav.length) (v : Bool) : (mC s x y z).set (16 + k) (.v (.bool v)) = mC { s with hav := s.hav.set k v } x y z := by
  rw [mC, List.set_append_left _ _ (by rw [mP_len h]; have := h.2.1; omega), mP, show 16 + k = 10 + k + 1 + 1 + 1 + 1 + 1 + 1 by omega]
  simp only [List.set_cons_succ]
  rw [List.set_append_right _ _ (by simp [h.1])]
  simp [mC, mP, List.map_set, h.1]
theorem mC_setTail (h : s.ok) (k : Nat) (v : AV) : (mC s x y z).set (26 + k) v = mP s ++ [x, y, .v (.int .i64 s.oport), z].set k v := by
  rw [mC, List.set_append_right _ _ (by rw [mP_len h]; omega), mP_len h, show 26 + k - 26 = k by omega]
end
/-- The heap with a machine in it. -/
def VH (σ0 σ : H) (bm bs bt : Nat) (y : AV) (s : VS) : Prop :=
  s.ok ∧ σ0 bs = none ∧ σ0 bt = none ∧ σ0 bm = none ∧ bs ≠ bt ∧ bs ≠ bm ∧ bt ≠ bm ∧ ∃ σ1, σ1 bm = none ∧ OS 5 1 ((σ0.upd bs (.rows 70 1 (s.slot.map u64r))).upd bt (.rows 4 1 (s.set.map boolr))) σ1 y (s.out.map u8r) ∧
    σ = σ1.upd bm (.st (mC s (.sl bs s.slot.length 1 70) (.sl bt s.set.length 1 4) y))
theorem VH.m {σ0 σ : H} {bm bs bt : Nat} {y : AV} {s : VS} (h : VH σ0 σ bm bs bt y s) : σ bm = some (.st (mC s (.sl bs s.slot.length 1 70) (.sl bt s.set.length 1 4) y)) := by
  obtain ⟨_, _, _, _, _, _, _, σ1, _, _, rfl⟩ := h; exact upd_same _ _ _
theorem VH.ok {σ0 σ : H} {bm bs bt : Nat} {y : AV} {s : VS} (h : VH σ0 σ bm bs bt y s) : s.ok := h.1
/-- The machine's own cells are other ones. -/
theorem VH.upd {σ0 σ : H} {bm bs bt : Nat} {y : AV} {s s' : VS} (h : VH σ0 σ bm bs bt y s) (hs : s'.slot = s.slot) (ht : s'.set = s.set) (ho : s'.out = s.out) (hok : s'.ok) :
    VH σ0 (σ.upd bm (.st (mC s' (.sl bs s.slot.length 1 70) (.sl bt s.set.length 1 4) y))) bm bs bt y s' := by
  obtain ⟨_, h1, h2, h3, h4, h5, h6, σ1, h7, h8, rfl⟩ := h
  refine ⟨hok, h1, h2, h3, h4, h5, h6, σ1, h7, by rw [hs, ht, ho]; exact h8, ?_⟩
  rw [upd_upd, hs, ht]
/-! leaf functions of the machine -/
def lv_within : Nat → Option (List Tmp)
  | 2 => some [6]
  | 1 => some [1, 2, 7]
  | 0 => some [0, 1, 2]
  | _ => none
def cf_within : Cfg := { pl := fun _ => .stop, lv := lv_within }
theorem lv_within_2 : cf_within.lv 2 = some [6] := rfl
theorem lv_within_1 : cf_within.lv 1 = some [1, 2, 7] := rfl
theorem lv_within_0 : cf_within.lv 0 = some [0, 1, 2] := rfl
theorem sg_within_2 : cf_within.sg 2 = [] := rfl
theorem sg_within_1 : cf_within.sg 1 = [] := rfl
theorem sg_within_0 : cf_within.sg 0 = [] := rfl
theorem rob_within (i : Nat) : cf_within.rob i = (true) := rfl
theorem ok_within : okCode cf_within.pl (Try.f60.body.get!) = true := by kernel_rfl
def withinF (b : List Int) (at_ n : Int) : Prop := at_ ≤ b.length ∧ n ≤ b.length - at_
instance (b : List Int) (a n : Int) : Decidable (withinF b a n) := by unfold withinF; infer_instance
set_option maxRecDepth 100000 in
theorem c_within {σ0 σ : H} {bm bs bt : Nat} {y : AV} {s : VS} (h : VH σ0 σ bm bs bt y s) (hb : s.b.length < 9223372036854775808) (at_ n : Int) (ha : 0 ≤ at_) : ACalls Try.prog 60 [.v (.pointer (some ⟨bm, 0, none⟩)), .v (.int .u64 at_), .v (.int .u64 n)] σ fun e σ' => e = .ret (.v (.bool (decide (withinF s.b at_ n)))) ∧ σ' = σ := by
  have hm := h.m
  have hg : (mC s (.sl bs s.slot.length 1 70) (.sl bt s.set.length 1 4) y)[4]? = some (.ro (s.b.map u8r)) := by rw [mC_left h.ok (by omega)]; rfl
  refine acalls_go cf_within 24 [.tmp 6] mix Try.func60 (by decide) rfl ok_within rfl (Nat.le_of_ble_eq_true rfl) rfl ?_
  simp (config := {decide := true, maxSteps := 2000000}) only [↓bpre, bpost, ↓reduceIte, Nat.reduceEqDiff, aargs, aparts, targs, alit, loadOk, not_false_eq_true, Wone, cond_true, cond_false, dstOk, true_and, and_true, and_self, if_true, if_false, reduceCtorEq, Option.map_some, Option.map_none, Option.map_id', ares, aret, Nat.reduceAdd, Nat.reduceLT, Nat.reduceMul, Nat.zero_add, lenOf, alen, vcBuiltin, Option.isNone_none, Option.isNone_some, Option.isSome_none, Option.isSome_some, aun, aconv, padd, Nat.mul_one, ne_eq, not_false_eq_true, Option.bind_some, List.cons_append, List.nil_append, List.append_nil, abuild, afill, TP.place, List.set_cons_zero, List.set_cons_succ, List.drop_succ_cons, List.drop_zero, List.take_succ_cons, List.take_zero, List.getElem?_cons_zero, List.getElem?_cons_succ, List.length_cons, List.length_nil, List.length_map, implies_true, true_implies, false_implies, forall_const, decide_true, decide_false, Bool.true_eq_false, Bool.false_eq_true, or_false, or_true, false_or, true_or, List.all_cons, List.all_nil, Bool.and_true, Bool.and_self, tfo_95_2, tsz_59, und_59, uis_3, und_70, rob_within, ↓lv_within_2, ↓lv_within_1, ↓lv_within_0, ↓sg_within_2, ↓sg_within_1, ↓sg_within_0, hm, List.getElem?_drop, hg]
  rw [wrap_u64 (n := (s.b.length : Int)) (by omega) (by omega)]
  refine ⟨fun h1 => gotRes_one ⟨?_, rfl⟩, fun h1 => gotRes_one ⟨?_, rfl⟩⟩
  · rw [wrap_u64 (by omega) (by omega)]; simp [withinF, h1]
  · simp [withinF, h1]
def i64r (x : Int) : List AV := [.v (.int .i64 x)]
def regF (s : VS) (l : List Int) : Prop := ∀ r ∈ l, s.hav[r.toNat]? = some true
instance (s : VS) (l : List Int) : Decidable (regF s l) := by unfold regF; infer_instance
def lv_reg : Nat → Option (List Tmp)
  | 7 => some [4]
  | 6 => some [0, 7, 8, 9]
  | 5 => some [4]
  | 4 => some [0, 7, 8, 9, 19]
  | 3 => some [0, 6, 7, 8, 9]
  | 2 => some [0, 7, 8, 9, 10]
  | 1 => some [0, 7, 8, 9]
  | 0 => some [0, 1]
  | _ => none
def cf_reg : Cfg := { pl := fun _ => .stop, lv := lv_reg }
theorem lv_reg_7 : cf_reg.lv 7 = some [4] := rfl
theorem lv_reg_6 : cf_reg.lv 6 = some [0, 7, 8, 9] := rfl
theorem lv_reg_5 : cf_reg.lv 5 = some [4] := rfl
theorem lv_reg_4 : cf_reg.lv 4 = some [0, 7, 8, 9, 19] := rfl
theorem lv_reg_3 : cf_reg.lv 3 = some [0, 6, 7, 8, 9] := rfl
theorem lv_reg_2 : cf_reg.lv 2 = some [0, 7, 8, 9, 10] := rfl
theorem lv_reg_1 : cf_reg.lv 1 = some [0, 7, 8, 9] := rfl
theorem lv_reg_0 : cf_reg.lv 0 = some [0, 1] := rfl
theorem sg_reg_7 : cf_reg.sg 7 = [] := rfl
theorem sg_reg_6 : cf_reg.sg 6 = [] := rfl
theorem sg_reg_5 : cf_reg.sg 5 = [] := rfl
theorem sg_reg_4 : cf_reg.sg 4 = [] := rfl
theorem sg_reg_3 : cf_reg.sg 3 = [] := rfl
theorem sg_reg_2 : cf_reg.sg 2 = [] := rfl
theorem sg_reg_1 : cf_reg.sg 1 = [] := rfl
theorem sg_reg_0 : cf_reg.sg 0 = [] := rfl
theorem rob_reg (i : Nat) : cf_reg.rob i = (true) := rfl
theorem ok_reg : okCode cf_reg.pl (Try.f61.body.get!) = true := by kernel_rfl
set_option maxRecDepth 100000 in
theorem c_reg {σ0 σ : H} {bm bs bt : Nat} {y : AV} {s : VS} (h : VH σ0 σ bm bs bt y s) (l : List Int) (hl : ∀ r ∈ l, 0 ≤ r ∧ r < 10) (hlen : l.length < 9223372036854775807) : ACalls Try.prog 61 [.v (.pointer (some ⟨bm, 0, none⟩)), .ro (l.map i64r)] σ fun e σ' => e = .ret (.v (.int .i64 (if regF s l then 0 else 15))) ∧ σ' = σ := by
  have hm := h.m
  refine acalls_go cf_reg 21 [.tmp 4] mix Try.func61 (by decide) rfl ok_reg rfl (Nat.le_of_ble_eq_true rfl) rfl ?_
  simp (config := {decide := true, maxSteps := 2000000}) only [↓bpre, bpost, ↓reduceIte, Nat.reduceEqDiff, aargs, aparts, targs, alit, loadOk, not_false_eq_true, Wone, cond_true, cond_false, dstOk, true_and, and_true, and_self, if_true, if_false, reduceCtorEq, Option.map_some, Option.map_none, Option.map_id', ares, aret, Nat.reduceAdd, Nat.reduceLT, Nat.reduceMul, Nat.zero_add, lenOf, alen, vcBuiltin, Option.isNone_none, Option.isNone_some, Option.isSome_none, Option.isSome_some, aun, aconv, padd, Nat.mul_one, ne_eq, not_false_eq_true, Option.bind_some, List.cons_append, List.nil_append, List.append_nil, abuild, afill, TP.place, List.set_cons_zero, List.set_cons_succ, List.drop_succ_cons, List.drop_zero, List.take_succ_cons, List.take_zero, List.getElem?_cons_zero, List.getElem?_cons_succ, List.length_cons, List.length_nil, List.length_map, implies_true, true_implies, false_implies, forall_const, decide_true, decide_false, Bool.true_eq_false, Bool.false_eq_true, or_false, or_true, false_or, true_or, List.all_cons, List.all_nil, Bool.and_true, Bool.and_self, und_131, tel_131, tsz_3, tfo_95_5, tel_93, tsz_4, rob_reg, ↓lv_reg_7, ↓lv_reg_6, ↓lv_reg_5, ↓lv_reg_4, ↓lv_reg_3, ↓lv_reg_2, ↓lv_reg_1, ↓lv_reg_0, ↓sg_reg_7, ↓sg_reg_6, ↓sg_reg_5, ↓sg_reg_4, ↓sg_reg_3, ↓sg_reg_2, ↓sg_reg_1, ↓sg_reg_0]
  refine vcLoop_of (lv := [0, 7, 8]) (fun i : Nat => [(9, .v (.int .i64 i))]) (fun k i σ' => i + k = l.length ∧ σ' = σ ∧ ∀ j r, j < i → l[j]? = some r → s.hav[r.toNat]? = some true) l.length 0 ?_ ⟨by omega, rfl, by omega⟩ ?_
  · simp (config := {decide := true, maxSteps := 2000000}) only [↓bpre, bpost, ↓reduceIte, Nat.reduceEqDiff, aargs, aparts, targs, alit, loadOk, not_false_eq_true, Wone, cond_true, cond_false, dstOk, true_and, and_true, and_self, if_true, if_false, reduceCtorEq, Option.map_some, Option.map_none, Option.map_id', ares, aret, Nat.reduceAdd, Nat.reduceLT, Nat.reduceMul, Nat.zero_add, lenOf, alen, vcBuiltin, Option.isNone_none, Option.isNone_some, Option.isSome_none, Option.isSome_some, aun, aconv, padd, Nat.mul_one, ne_eq, not_false_eq_true, Option.bind_some, List.cons_append, List.nil_append, List.append_nil, abuild, afill, TP.place, List.set_cons_zero, List.set_cons_succ, List.drop_succ_cons, List.drop_zero, List.take_succ_cons, List.take_zero, List.getElem?_cons_zero, List.getElem?_cons_succ, List.length_cons, List.length_nil, List.length_map, implies_true, true_implies, false_implies, forall_const, decide_true, decide_false, Bool.true_eq_false, Bool.false_eq_true, or_false, or_true, false_or, true_or, List.all_cons, List.all_nil, Bool.and_true, Bool.and_self, und_131, tel_131, tsz_3, tfo_95_5, tel_93, tsz_4, rob_reg, ↓lv_reg_7, ↓lv_reg_6, ↓lv_reg_5, ↓lv_reg_4, ↓lv_reg_3, ↓lv_reg_2, ↓lv_reg_1, ↓lv_reg_0, ↓sg_reg_7, ↓sg_reg_6, ↓sg_reg_5, ↓sg_reg_4, ↓sg_reg_3, ↓sg_reg_2, ↓sg_reg_1, ↓sg_reg_0]
    trivial
  intro k i σ' ⟨hi, hs, hj⟩
  subst hs
  simp (config := {decide := true, maxSteps := 2000000}) only [↓bpre, bpost, ↓reduceIte, Nat.reduceEqDiff, aargs, aparts, targs, alit, loadOk, not_false_eq_true, Wone, cond_true, cond_false, dstOk, true_and, and_true, and_self, if_true, if_false, reduceCtorEq, Option.map_some, Option.map_none, Option.map_id', ares, aret, Nat.reduceAdd, Nat.reduceLT, Nat.reduceMul, Nat.zero_add, lenOf, alen, vcBuiltin, Option.isNone_none, Option.isNone_some, Option.isSome_none, Option.isSome_some, aun, aconv, padd, Nat.mul_one, ne_eq, not_false_eq_true, Option.bind_some, List.cons_append, List.nil_append, List.append_nil, abuild, afill, TP.place, List.set_cons_zero, List.set_cons_succ, List.drop_succ_cons, List.drop_zero, List.take_succ_cons, List.take_zero, List.getElem?_cons_zero, List.getElem?_cons_succ, List.length_cons, List.length_nil, List.length_map, implies_true, true_implies, false_implies, forall_const, decide_true, decide_false, Bool.true_eq_false, Bool.false_eq_true, or_false, or_true, false_or, true_or, List.all_cons, List.all_nil, Bool.and_true, Bool.and_self, und_131, tel_131, tsz_3, tfo_95_5, tel_93, tsz_4, rob_reg, ↓lv_reg_7, ↓lv_reg_6, ↓lv_reg_5, ↓lv_reg_4, ↓lv_reg_3, ↓lv_reg_2, ↓lv_reg_1, ↓lv_reg_0, ↓sg_reg_7, ↓sg_reg_6, ↓sg_reg_5, ↓sg_reg_4, ↓sg_reg_3, ↓sg_reg_2, ↓sg_reg_1, ↓sg_reg_0]
  refine ⟨fun hlt => ⟨by omega, ?_⟩, fun hge => gotRes_one ⟨?_, rfl⟩⟩
  · obtain ⟨r, hr⟩ : ∃ r, l[i]? = some r := ⟨_, List.getElem?_eq_getElem (by omega)⟩
    refine aix_map (f := i64r) (x := r) (by simpa using hr) rfl ?_
    simp only [i64r]
    obtain ⟨hr0, hr1⟩ := hl r (List.mem_of_getElem? hr)
    have hk : r.toNat < s.hav.length := by rw [h.ok.2.1]; omega
    have hg := mC_hav (x := .sl bs s.slot.length 1 70) (y := .sl bt s.set.length 1 4) (z := y) h.ok hk
    simp (config := {decide := true, maxSteps := 2000000}) only [↓bpre, bpost, ↓reduceIte, Nat.reduceEqDiff, aargs, aparts, targs, alit, loadOk, not_false_eq_true, Wone, cond_true, cond_false, dstOk, true_and, and_true, and_self, if_true, if_false, reduceCtorEq, Option.map_some, Option.map_none, Option.map_id', ares, aret, Nat.reduceAdd, Nat.reduceLT, Nat.reduceMul, Nat.zero_add, lenOf, alen, vcBuiltin, Option.isNone_none, Option.isNone_some, Option.isSome_none, Option.isSome_some, aun, aconv, padd, Nat.mul_one, ne_eq, not_false_eq_true, Option.bind_some, List.cons_append, List.nil_append, List.append_nil, abuild, afill, TP.place, List.set_cons_zero, List.set_cons_succ, List.drop_succ_cons, List.drop_zero, List.take_succ_cons, List.take_zero, List.getElem?_cons_zero, List.getElem?_cons_succ, List.length_cons, List.length_nil, List.length_map, implies_true, true_implies, false_implies, forall_const, decide_true, decide_false, Bool.true_eq_false, Bool.false_eq_true, or_false, or_true, false_or, true_or, List.all_cons, List.all_nil, Bool.and_true, Bool.and_self, und_131, tel_131, tsz_3, tfo_95_5, tel_93, tsz_4, rob_reg, ↓lv_reg_7, ↓lv_reg_6, ↓lv_reg_5, ↓lv_reg_4, ↓lv_reg_3, ↓lv_reg_2, ↓lv_reg_1, ↓lv_reg_0, ↓sg_reg_7, ↓sg_reg_6, ↓sg_reg_5, ↓sg_reg_4, ↓sg_reg_3, ↓sg_reg_2, ↓sg_reg_1, ↓sg_reg_0, hm, List.getElem?_drop, hg, Nat.add_zero, Nat.mul_one]
    refine ⟨hr0, by omega, onB_intro (fun hh => ?_) (fun hh => gotRes_one ⟨?_, rfl⟩)⟩
    · refine ⟨k - 1, by omega, i + 1, _, by rw [wrap_i64 (by omega) (by omega)]; rfl, FrzH.refl _, by omega, rfl, fun j r' hj2 hr' => ?_⟩
      rcases Nat.lt_or_ge j i with h3 | h3
      · exact hj j r' h3 hr'
      · obtain rfl : j = i := by omega
        rw [hr] at hr'; cases hr'
        rw [List.getElem?_eq_getElem hk, hh]
    · have : ¬ regF s l := fun hf => by
        have := hf r (List.mem_of_getElem? hr)
        rw [List.getElem?_eq_getElem hk, hh] at this; simp at this
      simp [this]
  · have : regF s l := fun r hr => by
      obtain ⟨j, hj2, rfl⟩ := List.mem_iff_getElem.1 hr
      exact hj j _ (by omega) (List.getElem?_eq_getElem hj2)
    simp [this]
def pl_put : Nat → Plan
  | 1 => .first 0 [5, 6, 7, 8, 11, 12] false (.first 1 [7, 8, 11, 12] false (.first 2 [9, 10, 11, 12] true (.first 3 [11, 12] true (.first 4 [7, 8, 11, 12] false (.first 5 [6, 7, 8, 11, 12] false (.first 6 [7, 8, 11, 12] false (.first 7 [8, 11, 12] false (.first 9 [10, 11, 12] true (.first 10 [11, 12] true (.alt 8 (.first 11 [12] false (.alt 12 (.done) (.stop))) (.stop)))))))))))
  | _ => .stop
def lv_put : Nat → Option (List Tmp)
  | 2 => some [6]
  | 1 => some []
  | 0 => some [0, 1, 2]
  | _ => none
def cf_put : Cfg := { pl := pl_put, wa := fun r => r == 1, lv := lv_put }
theorem lv_put_2 : cf_put.lv 2 = some [6] := rfl
theorem lv_put_1 : cf_put.lv 1 = some [] := rfl
theorem lv_put_0 : cf_put.lv 0 = some [0, 1, 2] := rfl
theorem sg_put_2 : cf_put.sg 2 = [] := rfl
theorem sg_put_0 : cf_put.sg 0 = [] := rfl
theorem rob_put (i : Nat) : cf_put.rob i = (true) := rfl
theorem pl_put_1 : cf_put.pl 1 = .first 0 [5, 6, 7, 8, 11, 12] false (.first 1 [7, 8, 11, 12] false (.first 2 [9, 10, 11, 12] true (.first 3 [11, 12] true (.first 4 [7, 8, 11, 12] false (.first 5 [6, 7, 8, 11, 12] false (.first 6 [7, 8, 11, 12] false (.first 7 [8, 11, 12] false (.first 9 [10, 11, 12] true (.first 10 [11, 12] true (.alt 8 (.first 11 [12] false (.alt 12 (.done) (.stop))) (.stop))))))))))) := rfl
theorem wa_put_1 : cf_put.wa 1 = true := rfl
theorem wl_put_1 : cf_put.wl 1 = [] := rfl
theorem ok_put : okCode cf_put.pl (Try.f76.body.get!) = true := by kernel_rfl
set_option maxRecDepth 100000 in
theorem c_put {σ0 σ : H} {bm bs bt : Nat} {y : AV} {s : VS} (h : VH σ0 σ bm bs bt y s) (r v : Int) (hr : 0 ≤ r ∧ r < 10) : ACalls Try.prog 76 [.v (.pointer (some ⟨bm, 0, none⟩)), .v (.int .i64 r), .v (.int .u64 v)] σ fun e σ' => e = .ret (.v (.int .i64 0)) ∧ VH σ0 σ' bm bs bt y { s with regs := s.regs.set r.toNat v, hav := s.hav.set r.toNat true } := by
  have hm := h.m
  have hlen := mC_len (x := .sl bs s.slot.length 1 70) (y := .sl bt s.set.length 1 4) (z := y) h.ok
  have hr1 : 6 + r.toNat + 1 ≤ 30 := by omega
  have hr2 : 16 + r.toNat + 1 ≤ 30 := by omega
  have hrl : r.toNat < s.regs.length := by rw [h.ok.1]; omega
  have hs := mC_setReg (x := .sl bs s.slot.length 1 70) (y := .sl bt s.set.length 1 4) (z := y) h.ok hrl v
  have hlen2 : (mC { s with regs := s.regs.set r.toNat v } (.sl bs s.slot.length 1 70) (.sl bt s.set.length 1 4) y).length = 30 := mC_len ⟨by simp [h.ok.1], h.ok.2⟩
  have hs2 := mC_setHav (s := { s with regs := s.regs.set r.toNat v }) (x := .sl bs s.slot.length 1 70) (y := .sl bt s.set.length 1 4) (z := y) ⟨by simp [h.ok.1], h.ok.2⟩ (k := r.toNat) (by show r.toNat < s.hav.length; rw [h.ok.2.1]; omega) true
  refine acalls_go cf_put 18 [.tmp 6] mix Try.func76 (by decide) rfl ok_put rfl (Nat.le_of_ble_eq_true rfl) rfl ?_
  simp (config := {decide := true, maxSteps := 2000000}) only [↓bpre, bpost, ↓reduceIte, Nat.reduceEqDiff, aargs, aparts, targs, alit, loadOk, not_false_eq_true, Wone, cond_true, cond_false, dstOk, true_and, and_true, and_self, if_true, if_false, reduceCtorEq, Option.map_some, Option.map_none, Option.map_id', ares, aret, Nat.reduceAdd, Nat.reduceLT, Nat.reduceMul, Nat.zero_add, lenOf, alen, vcBuiltin, Option.isNone_none, Option.isNone_some, Option.isSome_none, Option.isSome_some, aun, aconv, padd, Nat.mul_one, ne_eq, not_false_eq_true, Option.bind_some, List.cons_append, List.nil_append, List.append_nil, abuild, afill, TP.place, List.set_cons_zero, List.set_cons_succ, List.drop_succ_cons, List.drop_zero, List.take_succ_cons, List.take_zero, List.getElem?_cons_zero, List.getElem?_cons_succ, List.length_cons, List.length_nil, List.length_map, implies_true, true_implies, false_implies, forall_const, decide_true, decide_false, Bool.true_eq_false, Bool.false_eq_true, or_false, or_true, false_or, true_or, List.all_cons, List.all_nil, Bool.and_true, Bool.and_self, tfo_95_4, tel_92, tsz_70, tfo_95_5, tel_93, tsz_4, rob_put, ↓lv_put_2, ↓lv_put_1, ↓lv_put_0, ↓sg_put_2, ↓sg_put_0, ↓pl_put_1, ↓wl_put_1, stab_all wa_put_1, Wreg_all wa_put_1, hm, List.getElem?_drop, Nat.add_zero, hlen, hr1, hr2, hs, hlen2, hs2]
  refine ⟨hr.1, by omega, hr.1, by omega, gotRes_one ⟨rfl, ?_⟩⟩
  exact h.upd rfl rfl rfl ⟨by simp [h.ok.1], by simp [h.ok.2.1], h.ok.2.2⟩
def andF (a b : Int) : Int := IntKind.u64.wrap (BitVec.ofInt IntKind.u64.bits a &&& BitVec.ofInt IntKind.u64.bits b).toNat
def onesF (a b : Int) : Int := IntKind.u64.wrap (andF (IntKind.u64.wrap (andF a 65535 + andF b 65535)) 65535 + (IntKind.u64.wrap (andF a 65535 + andF b 65535)).fdiv (2 ^ min (Int.toNat 16) IntKind.u64.bits))
def lv_ones : Nat → Option (List Tmp)
  | 2 => some [4]
  | 1 => some [5]
  | 0 => some [0, 1]
  | _ => none
def cf_ones : Cfg := { pl := fun _ => .stop, lv := lv_ones }
theorem lv_ones_2 : cf_ones.lv 2 = some [4] := rfl
theorem lv_ones_1 : cf_ones.lv 1 = some [5] := rfl
theorem lv_ones_0 : cf_ones.lv 0 = some [0, 1] := rfl
theorem sg_ones_2 : cf_ones.sg 2 = [] := rfl
theorem sg_ones_1 : cf_ones.sg 1 = [] := rfl
theorem sg_ones_0 : cf_ones.sg 0 = [] := rfl
theorem rob_ones (i : Nat) : cf_ones.rob i = (true) := rfl
theorem ok_ones : okCode cf_ones.pl (Try.f79.body.get!) = true := by kernel_rfl
theorem c_ones (a b : Int) (σ : H) : ACalls Try.prog 79 [.v (.int .u64 a), .v (.int .u64 b)] σ fun e σ' => e = .ret (.v (.int .u64 (onesF a b))) ∧ σ' = σ := by
  refine acalls_go cf_ones 16 [.tmp 4] mix Try.func79 (by decide) rfl ok_ones rfl (Nat.le_of_ble_eq_true rfl) rfl ?_
  simp (config := {decide := true, maxSteps := 2000000}) only [↓bpre, bpost, ↓reduceIte, Nat.reduceEqDiff, aargs, aparts, targs, alit, loadOk, not_false_eq_true, Wone, cond_true, cond_false, dstOk, true_and, and_true, and_self, if_true, if_false, reduceCtorEq, Option.map_some, Option.map_none, Option.map_id', ares, aret, Nat.reduceAdd, Nat.reduceLT, Nat.reduceMul, Nat.zero_add, lenOf, alen, vcBuiltin, Option.isNone_none, Option.isNone_some, Option.isSome_none, Option.isSome_some, aun, aconv, padd, Nat.mul_one, ne_eq, not_false_eq_true, Option.bind_some, List.cons_append, List.nil_append, List.append_nil, abuild, afill, TP.place, List.set_cons_zero, List.set_cons_succ, List.drop_succ_cons, List.drop_zero, List.take_succ_cons, List.take_zero, List.getElem?_cons_zero, List.getElem?_cons_succ, List.length_cons, List.length_nil, List.length_map, implies_true, true_implies, false_implies, forall_const, decide_true, decide_false, Bool.true_eq_false, Bool.false_eq_true, or_false, or_true, false_or, true_or, List.all_cons, List.all_nil, Bool.and_true, Bool.and_self, rob_ones, ↓lv_ones_2, ↓lv_ones_1, ↓lv_ones_0, ↓sg_ones_2, ↓sg_ones_1, ↓sg_ones_0]
  exact gotRes_one ⟨rfl, rfl⟩
end Y
