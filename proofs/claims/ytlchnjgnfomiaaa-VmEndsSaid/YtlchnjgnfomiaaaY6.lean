/- A part of the proof: Y6. -/
import Derived.Test.YtlchnjgnfomiaaaY5
set_option linter.unusedSimpArgs false
set_option linter.unusedVariables false
open Go Go.Ag Go.Proofs
namespace Y
/-- What is known of a machine's numbers. -/
structure VS.rg (s : VS) : Prop where
  regs : ∀ r ∈ s.regs, 0 ≤ r ∧ r < 18446744073709551616
  slot : ∀ r ∈ s.slot, 0 ≤ r ∧ r < 18446744073709551616
  bytes : ∀ r ∈ s.b, 0 ≤ r ∧ r < 256
  blen : s.b.length ≤ 1000000
  port : 0 ≤ s.port ∧ s.port < 65536
theorem VH.slots {σ0 σ : H} {bm bs bt : Nat} {y : AV} {s : VS} (h : VH σ0 σ bm bs bt y s) : σ bs = some (.rows 70 1 (s.slot.map u64r)) := by
  obtain ⟨_, h1, h2, h3, h4, h5, h6, σ1, h7, h8, rfl⟩ := h
  rw [upd_ne _ _ h5]
  rcases h8 with ⟨_, _, rfl⟩ | ⟨bo, h9, _, rfl⟩
  · rw [upd_ne _ _ h4, upd_same]
  · rw [upd_none_iff, upd_none_iff] at h9
    rw [upd_ne _ _ (Ne.symm h9.2.1), upd_ne _ _ h4, upd_same]
theorem VH.sets {σ0 σ : H} {bm bs bt : Nat} {y : AV} {s : VS} (h : VH σ0 σ bm bs bt y s) : σ bt = some (.rows 4 1 (s.set.map boolr)) := by
  obtain ⟨_, h1, h2, h3, h4, h5, h6, σ1, h7, h8, rfl⟩ := h
  rw [upd_ne _ _ h6]
  rcases h8 with ⟨_, _, rfl⟩ | ⟨bo, h9, _, rfl⟩
  · rw [upd_same]
  · rw [upd_none_iff, upd_none_iff] at h9
    rw [upd_ne _ _ (Ne.symm h9.1), upd_same]
theorem VH.put2 {σ0 σ : H} {bm bs bt : Nat} {y : AV} {s : VS} (h : VH σ0 σ bm bs bt y s) (sl : List Int) (st : List Bool) (hl : sl.length = s.slot.length) (ht : st.length = s.set.length) :
    VH σ0 ((σ.upd bs (.rows 70 1 (sl.map u64r))).upd bt (.rows 4 1 (st.map boolr))) bm bs bt y { s with slot := sl, set := st } := by
  obtain ⟨hok, h1, h2, h3, h4, h5, h6, σ1, h7, h8, rfl⟩ := h
  have hM : mC { s with slot := sl, set := st } (.sl bs sl.length 1 70) (.sl bt st.length 1 4) y = mC s (.sl bs s.slot.length 1 70) (.sl bt s.set.length 1 4) y := by rw [hl, ht]; rfl
  refine ⟨⟨hok.1, hok.2.1, by show sl.length = st.length; rw [hl, ht]; exact hok.2.2⟩, h1, h2, h3, h4, h5, h6, ?_⟩
  show ∃ σ1', _ ∧ OS _ _ ((σ0.upd bs (.rows 70 1 (sl.map u64r))).upd bt (.rows 4 1 (st.map boolr))) σ1' y (s.out.map u8r) ∧ _ = σ1'.upd bm (.st (mC { s with slot := sl, set := st } (.sl bs sl.length 1 70) (.sl bt st.length 1 4) y))
  rw [hM]
  generalize hMM : AObj.st (mC s (.sl bs s.slot.length 1 70) (.sl bt s.set.length 1 4) y) = M
  rcases h8 with ⟨hy, ho, rfl⟩ | ⟨bo, h9, hy, rfl⟩
  · refine ⟨_, ?_, .inl ⟨hy, ho, rfl⟩, ?_⟩
    · rw [upd_none_iff, upd_none_iff]; exact ⟨Ne.symm h6, Ne.symm h5, h3⟩
    · funext c
      simp only [H.upd]
      by_cases c1 : c = bm <;> by_cases c2 : c = bs <;> by_cases c3 : c = bt <;> simp_all
  · rw [upd_none_iff, upd_none_iff] at h9
    have h10 : bm ≠ bo := by rintro rfl; rw [upd_same] at h7; cases h7
    refine ⟨((σ0.upd bs (.rows 70 1 (sl.map u64r))).upd bt (.rows 4 1 (st.map boolr))).upd bo (.rows 5 1 (s.out.map u8r)), ?_, .inr ⟨bo, ?_, hy, rfl⟩, ?_⟩
    · rw [upd_none_iff, upd_none_iff, upd_none_iff]; exact ⟨h10, Ne.symm h6, Ne.symm h5, h3⟩
    · rw [upd_none_iff, upd_none_iff]; exact h9
    · funext c
      simp only [H.upd]
      by_cases c1 : c = bm <;> by_cases c2 : c = bs <;> by_cases c3 : c = bt <;> by_cases c4 : c = bo <;> simp_all
/-- The bytes that go out become longer. -/
theorem VH.app {σ0 σ : H} {bm bs bt : Nat} {y : AV} {s : VS} (h : VH σ0 σ bm bs bt y s) : ∃ σ2, OS 5 1 σ2 σ y (s.out.map u8r) ∧
    ∀ (σ' : H) (x' : AV) (rs : List Int), OS 5 1 σ2 σ' x' (s.out.map u8r ++ rs.map u8r) → σ' bm = some (.st (mC s (.sl bs s.slot.length 1 70) (.sl bt s.set.length 1 4) y)) ∧
      VH σ0 (σ'.upd bm (.st (mC s (.sl bs s.slot.length 1 70) (.sl bt s.set.length 1 4) x'))) bm bs bt x' { s with out := s.out ++ rs } := by
  obtain ⟨hok, h1, h2, h3, h4, h5, h6, σ1, h7, h8, rfl⟩ := h
  have hb : ((σ0.upd bs (.rows 70 1 (s.slot.map u64r))).upd bt (.rows 4 1 (s.set.map boolr))) bm = none := by
    rw [upd_none_iff, upd_none_iff]; exact ⟨Ne.symm h6, Ne.symm h5, h3⟩
  show ∃ σ2, _ ∧ ∀ (σ' : H) (x' : AV) (rs : List Int), _ → _ ∧ (_ ∧ _ ∧ _ ∧ _ ∧ _ ∧ _ ∧ _ ∧ ∃ σ1', σ1' bm = none ∧ OS 5 1 ((σ0.upd bs (.rows 70 1 (s.slot.map u64r))).upd bt (.rows 4 1 (s.set.map boolr))) σ1' x' ((s.out ++ rs).map u8r) ∧ _)
  generalize (σ0.upd bs (.rows 70 1 (s.slot.map u64r))).upd bt (.rows 4 1 (s.set.map boolr)) = σb at h8 hb ⊢
  refine ⟨σb.upd bm (.st (mC s (.sl bs s.slot.length 1 70) (.sl bt s.set.length 1 4) y)), h8.over h7, ?_⟩
  intro σ' x' rs hos
  rw [← List.map_append] at hos
  obtain ⟨σ1', h9, h10, rfl⟩ := hos.back hb
  exact ⟨upd_same _ _ _, ⟨hok.1, hok.2⟩, h1, h2, h3, h4, h5, h6, σ1', h10, h9, by rw [upd_upd]; rfl⟩
def notF (v : Int) : Int := IntKind.u64.wrap (BitVec.ofInt IntKind.u64.bits IntKind.u64.max ^^^ BitVec.ofInt IntKind.u64.bits v).toNat
/-- The lowest so many bytes, the highest first. -/
def putB (v : Int) : Nat → List Int
  | 0 => []
  | k + 1 => IntKind.u8.wrap (v.fdiv (2 ^ min (IntKind.i64.wrap (8 * (k : Int))).toNat IntKind.u64.bits)) :: putB v k
def oneS (s : VS) (x : Ins) : Int × VS :=
  let v := s.regs.getD x.r.toNat 0
  if regF s [x.r] then
    if x.op = 4 then (0, putS s x.r (notF v))
    else if x.op = 8 then (0, { s with slot := s.slot.set x.n.toNat v, set := s.set.set x.n.toNat true })
    else if x.op = 14 then (0, { s with out := s.out ++ putB v x.k.toNat })
    else if x.op = 15 then (if withinF s.b v 0 then (0, { s with out := s.out ++ s.b.drop v.toNat }) else (16, s))
    else if x.op = 16 then (0, { s with oport := IntKind.i64.wrap (andF v 65535) })
    else (0, s)
  else (15, s)
def pl_one : Nat → Plan
  | 4 => .first 0 [3, 4, 5, 6, 7] false (.first 1 [2, 5, 6, 7] false (.first 2 [5, 6, 7] false (.first 3 [4, 5, 6, 7] false (.first 4 [5, 6, 7] false (.first 5 [6, 7] false (.first 6 [7] false (.first 7 [] false (.done))))))))
  | 9 => .first 0 [1, 2, 3, 13, 14, 15, 16] false (.first 1 [2, 3, 13, 14, 15, 16] false (.first 2 [3, 13, 14, 15, 16] false (.first 3 [13, 14, 15, 16] false (.first 4 [5, 13, 14, 15, 16] false (.first 5 [13, 14, 15, 16] false (.first 6 [7, 8, 9, 13, 14, 15, 16] false (.first 7 [8, 9, 13, 14, 15, 16] false (.first 8 [9, 13, 14, 15, 16] false (.first 9 [13, 14, 15, 16] false (.first 10 [11, 15, 16] true (.first 11 [15, 16] true (.first 12 [13, 14, 15, 16] false (.first 13 [14, 15, 16] false (.alt 14 (.first 15 [16] false (.alt 16 (.done) (.stop))) (.stop)))))))))))))))
  | 14 => .first 0 [13, 14, 15, 16] true (.first 1 [2, 3, 4, 5, 12, 13, 14, 15, 16] false (.first 2 [3, 4, 5, 12, 13, 14, 15, 16] false (.first 3 [4, 5, 12, 13, 14, 15, 16] false (.first 4 [5, 12, 13, 14, 15, 16] false (.first 5 [12, 13, 14, 15, 16] false (.first 6 [9, 10, 11, 12, 13, 14, 15, 16] false (.first 7 [8, 9, 10, 11, 12, 13, 14, 15, 16] false (.first 8 [9, 10, 11, 12, 13, 14, 15, 16] false (.first 9 [10, 11, 12, 13, 14, 15, 16] false (.first 10 [11, 12, 13, 14, 15, 16] false (.alt 11 (.alt 12 (.first 13 [14, 15, 16] false (.first 14 [15, 16] false (.first 15 [16] false (.alt 16 (.done) (.stop))))) (.stop)) (.stop))))))))))))
  | 18 => .first 0 [13, 14, 15, 16] true (.first 1 [2, 3, 4, 5, 12, 13, 14, 15, 16] false (.first 2 [3, 4, 5, 12, 13, 14, 15, 16] false (.first 3 [4, 5, 12, 13, 14, 15, 16] false (.first 4 [5, 12, 13, 14, 15, 16] false (.first 5 [12, 13, 14, 15, 16] false (.first 6 [7, 8, 9, 11, 12, 13, 14, 15, 16] false (.first 7 [8, 9, 11, 12, 13, 14, 15, 16] false (.first 8 [9, 11, 12, 13, 14, 15, 16] false (.first 9 [11, 12, 13, 14, 15, 16] false (.first 10 [11, 12, 13, 14, 15, 16] false (.first 11 [12, 13, 14, 15, 16] false (.alt 12 (.first 13 [14, 15, 16] false (.first 14 [15, 16] false (.first 15 [16] false (.alt 16 (.done) (.stop))))) (.stop)))))))))))))
  | _ => .stop
def lv_one : Nat → Option (List Tmp)
  | 22 => some [4]
  | 7 => some [4]
  | 9 => some []
  | 13 => some [0, 6, 7]
  | 14 => some [0, 6, 7]
  | 12 => some [0, 6, 7, 56]
  | 11 => some [0, 6, 7]
  | 18 => some []
  | 17 => some [4]
  | 16 => some [0, 6, 80]
  | 20 => some []
  | 21 => some [106]
  | 19 => some [0, 6, 24, 97]
  | 15 => some [0, 6, 24, 75]
  | 10 => some [0, 3, 6, 24, 50]
  | 8 => some [0, 3, 6, 24, 33]
  | 6 => some [0, 3, 6, 24, 25]
  | 5 => some [0, 3, 6, 24]
  | 4 => some [0, 3, 6]
  | 3 => some [4]
  | 2 => some [0, 3, 5, 14]
  | 1 => some [0, 3, 5]
  | 0 => some [0, 3]
  | _ => none
def cf_one : Cfg := { pl := pl_one, wa := fun r => r == 9 || r == 14 || r == 18, lv := lv_one }
theorem lv_one_22 : cf_one.lv 22 = some [4] := rfl
theorem lv_one_7 : cf_one.lv 7 = some [4] := rfl
theorem lv_one_9 : cf_one.lv 9 = some [] := rfl
theorem lv_one_13 : cf_one.lv 13 = some [0, 6, 7] := rfl
theorem lv_one_14 : cf_one.lv 14 = some [0, 6, 7] := rfl
theorem lv_one_12 : cf_one.lv 12 = some [0, 6, 7, 56] := rfl
theorem lv_one_11 : cf_one.lv 11 = some [0, 6, 7] := rfl
theorem lv_one_18 : cf_one.lv 18 = some [] := rfl
theorem lv_one_17 : cf_one.lv 17 = some [4] := rfl
theorem lv_one_16 : cf_one.lv 16 = some [0, 6, 80] := rfl
theorem lv_one_20 : cf_one.lv 20 = some [] := rfl
theorem lv_one_21 : cf_one.lv 21 = some [106] := rfl
theorem lv_one_19 : cf_one.lv 19 = some [0, 6, 24, 97] := rfl
theorem lv_one_15 : cf_one.lv 15 = some [0, 6, 24, 75] := rfl
theorem lv_one_10 : cf_one.lv 10 = some [0, 3, 6, 24, 50] := rfl
theorem lv_one_8 : cf_one.lv 8 = some [0, 3, 6, 24, 33] := rfl
theorem lv_one_6 : cf_one.lv 6 = some [0, 3, 6, 24, 25] := rfl
theorem lv_one_5 : cf_one.lv 5 = some [0, 3, 6, 24] := rfl
theorem lv_one_4 : cf_one.lv 4 = some [0, 3, 6] := rfl
theorem lv_one_3 : cf_one.lv 3 = some [4] := rfl
theorem lv_one_2 : cf_one.lv 2 = some [0, 3, 5, 14] := rfl
theorem lv_one_1 : cf_one.lv 1 = some [0, 3, 5] := rfl
theorem lv_one_0 : cf_one.lv 0 = some [0, 3] := rfl
theorem sg_one_22 : cf_one.sg 22 = [] := rfl
theorem sg_one_7 : cf_one.sg 7 = [] := rfl
theorem sg_one_13 : cf_one.sg 13 = [] := rfl
theorem sg_one_12 : cf_one.sg 12 = [] := rfl
theorem sg_one_11 : cf_one.sg 11 = [] := rfl
theorem sg_one_17 : cf_one.sg 17 = [] := rfl
theorem sg_one_16 : cf_one.sg 16 = [] := rfl
theorem sg_one_20 : cf_one.sg 20 = [] := rfl
theorem sg_one_21 : cf_one.sg 21 = [] := rfl
theorem sg_one_19 : cf_one.sg 19 = [] := rfl
theorem sg_one_15 : cf_one.sg 15 = [] := rfl
theorem sg_one_10 : cf_one.sg 10 = [] := rfl
theorem sg_one_8 : cf_one.sg 8 = [] := rfl
theorem sg_one_6 : cf_one.sg 6 = [] := rfl
theorem sg_one_5 : cf_one.sg 5 = [] := rfl
theorem sg_one_3 : cf_one.sg 3 = [] := rfl
theorem sg_one_2 : cf_one.sg 2 = [] := rfl
theorem sg_one_1 : cf_one.sg 1 = [] := rfl
theorem sg_one_0 : cf_one.sg 0 = [] := rfl
theorem rob_one (i : Nat) : cf_one.rob i = (true) := rfl
theorem pl_one_4 : cf_one.pl 4 = .first 0 [3, 4, 5, 6, 7] false (.first 1 [2, 5, 6, 7] false (.first 2 [5, 6, 7] false (.first 3 [4, 5, 6, 7] false (.first 4 [5, 6, 7] false (.first 5 [6, 7] false (.first 6 [7] false (.first 7 [] false (.done)))))))) := rfl
theorem pl_one_9 : cf_one.pl 9 = .first 0 [1, 2, 3, 13, 14, 15, 16] false (.first 1 [2, 3, 13, 14, 15, 16] false (.first 2 [3, 13, 14, 15, 16] false (.first 3 [13, 14, 15, 16] false (.first 4 [5, 13, 14, 15, 16] false (.first 5 [13, 14, 15, 16] false (.first 6 [7, 8, 9, 13, 14, 15, 16] false (.first 7 [8, 9, 13, 14, 15, 16] false (.first 8 [9, 13, 14, 15, 16] false (.first 9 [13, 14, 15, 16] false (.first 10 [11, 15, 16] true (.first 11 [15, 16] true (.first 12 [13, 14, 15, 16] false (.first 13 [14, 15, 16] false (.alt 14 (.first 15 [16] false (.alt 16 (.done) (.stop))) (.stop))))))))))))))) := rfl
theorem pl_one_14 : cf_one.pl 14 = .first 0 [13, 14, 15, 16] true (.first 1 [2, 3, 4, 5, 12, 13, 14, 15, 16] false (.first 2 [3, 4, 5, 12, 13, 14, 15, 16] false (.first 3 [4, 5, 12, 13, 14, 15, 16] false (.first 4 [5, 12, 13, 14, 15, 16] false (.first 5 [12, 13, 14, 15, 16] false (.first 6 [9, 10, 11, 12, 13, 14, 15, 16] false (.first 7 [8, 9, 10, 11, 12, 13, 14, 15, 16] false (.first 8 [9, 10, 11, 12, 13, 14, 15, 16] false (.first 9 [10, 11, 12, 13, 14, 15, 16] false (.first 10 [11, 12, 13, 14, 15, 16] false (.alt 11 (.alt 12 (.first 13 [14, 15, 16] false (.first 14 [15, 16] false (.first 15 [16] false (.alt 16 (.done) (.stop))))) (.stop)) (.stop)))))))))))) := rfl
theorem pl_one_18 : cf_one.pl 18 = .first 0 [13, 14, 15, 16] true (.first 1 [2, 3, 4, 5, 12, 13, 14, 15, 16] false (.first 2 [3, 4, 5, 12, 13, 14, 15, 16] false (.first 3 [4, 5, 12, 13, 14, 15, 16] false (.first 4 [5, 12, 13, 14, 15, 16] false (.first 5 [12, 13, 14, 15, 16] false (.first 6 [7, 8, 9, 11, 12, 13, 14, 15, 16] false (.first 7 [8, 9, 11, 12, 13, 14, 15, 16] false (.first 8 [9, 11, 12, 13, 14, 15, 16] false (.first 9 [11, 12, 13, 14, 15, 16] false (.first 10 [11, 12, 13, 14, 15, 16] false (.first 11 [12, 13, 14, 15, 16] false (.alt 12 (.first 13 [14, 15, 16] false (.first 14 [15, 16] false (.first 15 [16] false (.alt 16 (.done) (.stop))))) (.stop))))))))))))) := rfl
theorem wa_one_4 : cf_one.wa 4 = false := rfl
theorem wa_one_9 : cf_one.wa 9 = true := rfl
theorem wa_one_14 : cf_one.wa 14 = true := rfl
theorem wa_one_18 : cf_one.wa 18 = true := rfl
theorem wl_one_4 : cf_one.wl 4 = [] := rfl
theorem wl_one_9 : cf_one.wl 9 = [] := rfl
theorem wl_one_14 : cf_one.wl 14 = [] := rfl
theorem wl_one_18 : cf_one.wl 18 = [] := rfl
theorem ok_one : okCode cf_one.pl (Try.f81.body.get!) = true := by kernel_rfl
set_option maxRecDepth 100000 in
theorem c_one {σ0 σ : H} {bm bs bt : Nat} {y : AV} {s : VS} (h : VH σ0 σ bm bs bt y s) (x : Ins) (hR : 0 ≤ x.r ∧ x.r < 10) (hrg : s.rg) (hN : x.op = 8 → 0 ≤ x.n ∧ x.n < s.slot.length) (hK : x.op = 14 → 1 ≤ x.k ∧ x.k ≤ 8) (hout : s.out.length ≤ 1000000000000) :
    ACalls Try.prog 81 [.v (.pointer (some ⟨bm, 0, none⟩)), .agg x.c] σ fun e σ' => ∃ y', e = .ret (.v (.int .i64 (oneS s x).1)) ∧ VH σ0 σ' bm bs bt y' (oneS s x).2 := by
  have hr : s.regs.getD x.r.toNat 0 = s.regs[x.r.toNat]'(by rw [h.ok.1]; omega) := by rw [List.getD_eq_getElem?_getD, List.getElem?_eq_getElem]; rfl
  have hm := h.m
  have hk : x.r.toNat < s.regs.length := by rw [h.ok.1]; omega
  have hg := mC_reg (x := .sl bs s.slot.length 1 70) (y := .sl bt s.set.length 1 4) (z := y) h.ok hk
  have hg4 : (mC s (.sl bs s.slot.length 1 70) (.sl bt s.set.length 1 4) y)[4]? = some (.ro (s.b.map u8r)) := by rw [mC_left h.ok (by omega)]; rfl
  have ht := fun k => mC_tail (x := .sl bs s.slot.length 1 70) (y := .sl bt s.set.length 1 4) (z := y) h.ok k
  have ht0 := ht 0
  have ht1 := ht 1
  have ht2 := ht 2
  have ht3 := ht 3
  simp only [Nat.add_zero, Nat.reduceAdd, List.getElem?_cons_zero, List.getElem?_cons_succ] at ht0 ht1 ht2 ht3
  refine acalls_go cf_one 108 [.tmp 4] mix Try.func81 (by decide) rfl ok_one rfl (Nat.le_of_ble_eq_true rfl) rfl ?_
  simp only [Ins.c]
  simp (config := {decide := true, maxSteps := 2000000}) only [↓bpre, bpost, ↓reduceIte, Nat.reduceEqDiff, aargs, aparts, targs, alit, loadOk, not_false_eq_true, Wone, cond_true, cond_false, dstOk, true_and, and_true, and_self, if_true, if_false, reduceCtorEq, Option.map_some, Option.map_none, Option.map_id', ares, aret, Nat.reduceAdd, Nat.reduceLT, Nat.reduceMul, Nat.zero_add, lenOf, alen, vcBuiltin, Option.isNone_none, Option.isNone_some, Option.isSome_none, Option.isSome_some, aun, aconv, padd, Nat.mul_one, ne_eq, not_false_eq_true, Option.bind_some, List.cons_append, List.nil_append, List.append_nil, abuild, afill, TP.place, List.set_cons_zero, List.set_cons_succ, List.drop_succ_cons, List.drop_zero, List.take_succ_cons, List.take_zero, List.getElem?_cons_zero, List.getElem?_cons_succ, List.length_cons, List.length_nil, List.length_map, implies_true, true_implies, false_implies, forall_const, decide_true, decide_false, Bool.true_eq_false, Bool.false_eq_true, or_false, or_true, false_or, true_or, List.all_cons, List.all_nil, Bool.and_true, Bool.and_self, tfo_87_1, tsz_3, tel_131, tby_131, und_131, tzr_3, tfo_95_4, tel_92, tsz_70, tfo_87_0, tfo_95_6, tsz_27, tfo_87_5, tfo_95_7, tsz_91, tel_27, tel_91, tsz_4, tfo_87_3, tfo_95_8, tfo_62_1, tsz_59, uis_70, und_5, tel_59, tby_59, und_59, tzr_5, tfo_95_2, und_3, tfo_62_0, rob_one, ↓lv_one_22, ↓lv_one_7, ↓lv_one_9, ↓lv_one_13, ↓lv_one_14, ↓lv_one_12, ↓lv_one_11, ↓lv_one_18, ↓lv_one_17, ↓lv_one_16, ↓lv_one_20, ↓lv_one_21, ↓lv_one_19, ↓lv_one_15, ↓lv_one_10, ↓lv_one_8, ↓lv_one_6, ↓lv_one_5, ↓lv_one_4, ↓lv_one_3, ↓lv_one_2, ↓lv_one_1, ↓lv_one_0, ↓sg_one_22, ↓sg_one_7, ↓sg_one_13, ↓sg_one_12, ↓sg_one_11, ↓sg_one_17, ↓sg_one_16, ↓sg_one_20, ↓sg_one_21, ↓sg_one_19, ↓sg_one_15, ↓sg_one_10, ↓sg_one_8, ↓sg_one_6, ↓sg_one_5, ↓sg_one_3, ↓sg_one_2, ↓sg_one_1, ↓sg_one_0, ↓pl_one_4, ↓wl_one_4, Wreg_of wa_one_4, ↓pl_one_9, ↓wl_one_9, stab_all wa_one_9, Wreg_all wa_one_9, ↓pl_one_14, ↓wl_one_14, stab_all wa_one_14, Wreg_all wa_one_14, ↓pl_one_18, ↓wl_one_18, stab_all wa_one_18, Wreg_all wa_one_18, hm, List.getElem?_drop, Nat.add_zero, hg, hg4, ht0, ht1, ht2, ht3]
  have := c_reg h [x.r] (by simpa using hR) (by simp)
  have hbs := h.slots
  have hbt := h.sets
  have h45 : bs ≠ bt := h.2.2.2.2.1
  have h5 : bt ≠ bs := Ne.symm h45
  have hlen := mC_len (x := .sl bs s.slot.length 1 70) (y := .sl bt s.set.length 1 4) (z := y) h.ok
  refine this.ret ?_
  by_cases hreg : regF s [x.r]
  case neg =>
    simp only [if_neg hreg]
    simp (config := {decide := true, maxSteps := 2000000}) only [↓bpre, bpost, ↓reduceIte, Nat.reduceEqDiff, aargs, aparts, targs, alit, loadOk, not_false_eq_true, Wone, cond_true, cond_false, dstOk, true_and, and_true, and_self, if_true, if_false, reduceCtorEq, Option.map_some, Option.map_none, Option.map_id', ares, aret, Nat.reduceAdd, Nat.reduceLT, Nat.reduceMul, Nat.zero_add, lenOf, alen, vcBuiltin, Option.isNone_none, Option.isNone_some, Option.isSome_none, Option.isSome_some, aun, aconv, padd, Nat.mul_one, ne_eq, not_false_eq_true, Option.bind_some, List.cons_append, List.nil_append, List.append_nil, abuild, afill, TP.place, List.set_cons_zero, List.set_cons_succ, List.drop_succ_cons, List.drop_zero, List.take_succ_cons, List.take_zero, List.getElem?_cons_zero, List.getElem?_cons_succ, List.length_cons, List.length_nil, List.length_map, implies_true, true_implies, false_implies, forall_const, decide_true, decide_false, Bool.true_eq_false, Bool.false_eq_true, or_false, or_true, false_or, true_or, List.all_cons, List.all_nil, Bool.and_true, Bool.and_self, tfo_87_1, tsz_3, tel_131, tby_131, und_131, tzr_3, tfo_95_4, tel_92, tsz_70, tfo_87_0, tfo_95_6, tsz_27, tfo_87_5, tfo_95_7, tsz_91, tel_27, tel_91, tsz_4, tfo_87_3, tfo_95_8, tfo_62_1, tsz_59, uis_70, und_5, tel_59, tby_59, und_59, tzr_5, tfo_95_2, und_3, tfo_62_0, rob_one, ↓lv_one_22, ↓lv_one_7, ↓lv_one_9, ↓lv_one_13, ↓lv_one_14, ↓lv_one_12, ↓lv_one_11, ↓lv_one_18, ↓lv_one_17, ↓lv_one_16, ↓lv_one_20, ↓lv_one_21, ↓lv_one_19, ↓lv_one_15, ↓lv_one_10, ↓lv_one_8, ↓lv_one_6, ↓lv_one_5, ↓lv_one_4, ↓lv_one_3, ↓lv_one_2, ↓lv_one_1, ↓lv_one_0, ↓sg_one_22, ↓sg_one_7, ↓sg_one_13, ↓sg_one_12, ↓sg_one_11, ↓sg_one_17, ↓sg_one_16, ↓sg_one_20, ↓sg_one_21, ↓sg_one_19, ↓sg_one_15, ↓sg_one_10, ↓sg_one_8, ↓sg_one_6, ↓sg_one_5, ↓sg_one_3, ↓sg_one_2, ↓sg_one_1, ↓sg_one_0, ↓pl_one_4, ↓wl_one_4, Wreg_of wa_one_4, ↓pl_one_9, ↓wl_one_9, stab_all wa_one_9, Wreg_all wa_one_9, ↓pl_one_14, ↓wl_one_14, stab_all wa_one_14, Wreg_all wa_one_14, ↓pl_one_18, ↓wl_one_18, stab_all wa_one_18, Wreg_all wa_one_18]
    refine gotRes_one ⟨y, ?_, ?_⟩ <;> simp only [oneS, if_neg hreg]
    exact h
  simp only [if_pos hreg]
  simp (config := {decide := true, maxSteps := 2000000}) only [↓bpre, bpost, ↓reduceIte, Nat.reduceEqDiff, aargs, aparts, targs, alit, loadOk, not_false_eq_true, Wone, cond_true, cond_false, dstOk, true_and, and_true, and_self, if_true, if_false, reduceCtorEq, Option.map_some, Option.map_none, Option.map_id', ares, aret, Nat.reduceAdd, Nat.reduceLT, Nat.reduceMul, Nat.zero_add, lenOf, alen, vcBuiltin, Option.isNone_none, Option.isNone_some, Option.isSome_none, Option.isSome_some, aun, aconv, padd, Nat.mul_one, ne_eq, not_false_eq_true, Option.bind_some, List.cons_append, List.nil_append, List.append_nil, abuild, afill, TP.place, List.set_cons_zero, List.set_cons_succ, List.drop_succ_cons, List.drop_zero, List.take_succ_cons, List.take_zero, List.getElem?_cons_zero, List.getElem?_cons_succ, List.length_cons, List.length_nil, List.length_map, implies_true, true_implies, false_implies, forall_const, decide_true, decide_false, Bool.true_eq_false, Bool.false_eq_true, or_false, or_true, false_or, true_or, List.all_cons, List.all_nil, Bool.and_true, Bool.and_self, tfo_87_1, tsz_3, tel_131, tby_131, und_131, tzr_3, tfo_95_4, tel_92, tsz_70, tfo_87_0, tfo_95_6, tsz_27, tfo_87_5, tfo_95_7, tsz_91, tel_27, tel_91, tsz_4, tfo_87_3, tfo_95_8, tfo_62_1, tsz_59, uis_70, und_5, tel_59, tby_59, und_59, tzr_5, tfo_95_2, und_3, tfo_62_0, rob_one, ↓lv_one_22, ↓lv_one_7, ↓lv_one_9, ↓lv_one_13, ↓lv_one_14, ↓lv_one_12, ↓lv_one_11, ↓lv_one_18, ↓lv_one_17, ↓lv_one_16, ↓lv_one_20, ↓lv_one_21, ↓lv_one_19, ↓lv_one_15, ↓lv_one_10, ↓lv_one_8, ↓lv_one_6, ↓lv_one_5, ↓lv_one_4, ↓lv_one_3, ↓lv_one_2, ↓lv_one_1, ↓lv_one_0, ↓sg_one_22, ↓sg_one_7, ↓sg_one_13, ↓sg_one_12, ↓sg_one_11, ↓sg_one_17, ↓sg_one_16, ↓sg_one_20, ↓sg_one_21, ↓sg_one_19, ↓sg_one_15, ↓sg_one_10, ↓sg_one_8, ↓sg_one_6, ↓sg_one_5, ↓sg_one_3, ↓sg_one_2, ↓sg_one_1, ↓sg_one_0, ↓pl_one_4, ↓wl_one_4, Wreg_of wa_one_4, ↓pl_one_9, ↓wl_one_9, stab_all wa_one_9, Wreg_all wa_one_9, ↓pl_one_14, ↓wl_one_14, stab_all wa_one_14, Wreg_all wa_one_14, ↓pl_one_18, ↓wl_one_18, stab_all wa_one_18, Wreg_all wa_one_18, hm, List.getElem?_drop, Nat.add_zero, hg, hg4, ht0, ht1, ht2, ht3]
  refine ⟨hR.1, by omega, fun h4 => ?_, fun h4 => ⟨fun h8 => ?_, fun h8 => ⟨fun h14 => ?_, fun h14 => ⟨fun h15 => ?_, fun h15 => ⟨fun h16 => ?_, fun h16 => ?_⟩⟩⟩⟩⟩
  · have he : oneS s x = (0, putS s x.r (notF s.regs[x.r.toNat])) := by simp only [oneS, if_pos hreg, if_pos h4, hr]
    rw [he]
    refine (c_put h x.r _ hR).mono ?_
    rintro e σ2 ⟨rfl, h2⟩
    show endK _ _ _ _
    simp (config := {decide := true, maxSteps := 2000000}) only [↓bpre, bpost, ↓reduceIte, Nat.reduceEqDiff, aargs, aparts, targs, alit, loadOk, not_false_eq_true, Wone, cond_true, cond_false, dstOk, true_and, and_true, and_self, if_true, if_false, reduceCtorEq, Option.map_some, Option.map_none, Option.map_id', ares, aret, Nat.reduceAdd, Nat.reduceLT, Nat.reduceMul, Nat.zero_add, lenOf, alen, vcBuiltin, Option.isNone_none, Option.isNone_some, Option.isSome_none, Option.isSome_some, aun, aconv, padd, Nat.mul_one, ne_eq, not_false_eq_true, Option.bind_some, List.cons_append, List.nil_append, List.append_nil, abuild, afill, TP.place, List.set_cons_zero, List.set_cons_succ, List.drop_succ_cons, List.drop_zero, List.take_succ_cons, List.take_zero, List.getElem?_cons_zero, List.getElem?_cons_succ, List.length_cons, List.length_nil, List.length_map, implies_true, true_implies, false_implies, forall_const, decide_true, decide_false, Bool.true_eq_false, Bool.false_eq_true, or_false, or_true, false_or, true_or, List.all_cons, List.all_nil, Bool.and_true, Bool.and_self, tfo_87_1, tsz_3, tel_131, tby_131, und_131, tzr_3, tfo_95_4, tel_92, tsz_70, tfo_87_0, tfo_95_6, tsz_27, tfo_87_5, tfo_95_7, tsz_91, tel_27, tel_91, tsz_4, tfo_87_3, tfo_95_8, tfo_62_1, tsz_59, uis_70, und_5, tel_59, tby_59, und_59, tzr_5, tfo_95_2, und_3, tfo_62_0, rob_one, ↓lv_one_22, ↓lv_one_7, ↓lv_one_9, ↓lv_one_13, ↓lv_one_14, ↓lv_one_12, ↓lv_one_11, ↓lv_one_18, ↓lv_one_17, ↓lv_one_16, ↓lv_one_20, ↓lv_one_21, ↓lv_one_19, ↓lv_one_15, ↓lv_one_10, ↓lv_one_8, ↓lv_one_6, ↓lv_one_5, ↓lv_one_4, ↓lv_one_3, ↓lv_one_2, ↓lv_one_1, ↓lv_one_0, ↓sg_one_22, ↓sg_one_7, ↓sg_one_13, ↓sg_one_12, ↓sg_one_11, ↓sg_one_17, ↓sg_one_16, ↓sg_one_20, ↓sg_one_21, ↓sg_one_19, ↓sg_one_15, ↓sg_one_10, ↓sg_one_8, ↓sg_one_6, ↓sg_one_5, ↓sg_one_3, ↓sg_one_2, ↓sg_one_1, ↓sg_one_0, ↓pl_one_4, ↓wl_one_4, Wreg_of wa_one_4, ↓pl_one_9, ↓wl_one_9, stab_all wa_one_9, Wreg_all wa_one_9, ↓pl_one_14, ↓wl_one_14, stab_all wa_one_14, Wreg_all wa_one_14, ↓pl_one_18, ↓wl_one_18, stab_all wa_one_18, Wreg_all wa_one_18]
    exact gotRes_one ⟨y, rfl, h2⟩
  · obtain ⟨hn0, hn1⟩ := hN h8
    have hns : x.n.toNat < s.slot.length := by omega
    have hnt : x.n.toNat < s.set.length := by rw [← h.ok.2.2]; exact hns
    have hx1 : (s.slot.map u64r)[x.n.toNat]? = some (u64r s.slot[x.n.toNat]) := by simp [hns]
    have hx2 : (s.set.map boolr)[x.n.toNat]? = some (boolr s.set[x.n.toNat]) := by simp [hnt]
    refine ⟨hn0, hns, ?_⟩
    simp (config := {decide := true, maxSteps := 2000000}) only [↓bpre, bpost, ↓reduceIte, Nat.reduceEqDiff, aargs, aparts, targs, alit, loadOk, not_false_eq_true, Wone, cond_true, cond_false, dstOk, true_and, and_true, and_self, if_true, if_false, reduceCtorEq, Option.map_some, Option.map_none, Option.map_id', ares, aret, Nat.reduceAdd, Nat.reduceLT, Nat.reduceMul, Nat.zero_add, lenOf, alen, vcBuiltin, Option.isNone_none, Option.isNone_some, Option.isSome_none, Option.isSome_some, aun, aconv, padd, Nat.mul_one, ne_eq, not_false_eq_true, Option.bind_some, List.cons_append, List.nil_append, List.append_nil, abuild, afill, TP.place, List.set_cons_zero, List.set_cons_succ, List.drop_succ_cons, List.drop_zero, List.take_succ_cons, List.take_zero, List.getElem?_cons_zero, List.getElem?_cons_succ, List.length_cons, List.length_nil, List.length_map, implies_true, true_implies, false_implies, forall_const, decide_true, decide_false, Bool.true_eq_false, Bool.false_eq_true, or_false, or_true, false_or, true_or, List.all_cons, List.all_nil, Bool.and_true, Bool.and_self, tfo_87_1, tsz_3, tel_131, tby_131, und_131, tzr_3, tfo_95_4, tel_92, tsz_70, tfo_87_0, tfo_95_6, tsz_27, tfo_87_5, tfo_95_7, tsz_91, tel_27, tel_91, tsz_4, tfo_87_3, tfo_95_8, tfo_62_1, tsz_59, uis_70, und_5, tel_59, tby_59, und_59, tzr_5, tfo_95_2, und_3, tfo_62_0, rob_one, ↓lv_one_22, ↓lv_one_7, ↓lv_one_9, ↓lv_one_13, ↓lv_one_14, ↓lv_one_12, ↓lv_one_11, ↓lv_one_18, ↓lv_one_17, ↓lv_one_16, ↓lv_one_20, ↓lv_one_21, ↓lv_one_19, ↓lv_one_15, ↓lv_one_10, ↓lv_one_8, ↓lv_one_6, ↓lv_one_5, ↓lv_one_4, ↓lv_one_3, ↓lv_one_2, ↓lv_one_1, ↓lv_one_0, ↓sg_one_22, ↓sg_one_7, ↓sg_one_13, ↓sg_one_12, ↓sg_one_11, ↓sg_one_17, ↓sg_one_16, ↓sg_one_20, ↓sg_one_21, ↓sg_one_19, ↓sg_one_15, ↓sg_one_10, ↓sg_one_8, ↓sg_one_6, ↓sg_one_5, ↓sg_one_3, ↓sg_one_2, ↓sg_one_1, ↓sg_one_0, ↓pl_one_4, ↓wl_one_4, Wreg_of wa_one_4, ↓pl_one_9, ↓wl_one_9, stab_all wa_one_9, Wreg_all wa_one_9, ↓pl_one_14, ↓wl_one_14, stab_all wa_one_14, Wreg_all wa_one_14, ↓pl_one_18, ↓wl_one_18, stab_all wa_one_18, Wreg_all wa_one_18, hbs, hbt, hx1, hx2, u64r, boolr, h5]
    refine ⟨hn0, hnt, gotRes_one ⟨y, ?_, ?_⟩⟩
    · simp only [oneS, if_pos hreg, if_neg h4, if_pos h8]
    · have e1 : (s.slot.map u64r).set x.n.toNat [AV.v (.int .u64 s.regs[x.r.toNat])] = (s.slot.set x.n.toNat s.regs[x.r.toNat]).map u64r := by rw [List.map_set]; rfl
      have e2 : (s.set.map boolr).set x.n.toNat [AV.v (.bool true)] = (s.set.set x.n.toNat true).map boolr := by rw [List.map_set]; rfl
      simp only [oneS, if_pos hreg, if_neg h4, if_pos h8, hr]
      have := h.put2 (s.slot.set x.n.toNat s.regs[x.r.toNat]) (s.set.set x.n.toNat true) (by simp) (by simp)
      rw [← e1, ← e2] at this
      exact this
  · obtain ⟨hkA, hkB⟩ := hK h14
    refine vcLoop_of (lv := [0, 6]) (fun (p : Int) => [(7, .v (.int .i64 p))]) (fun k p σ' => p = (k : Int) - 1 ∧ k ≤ x.k.toNat ∧ ∃ y' o, VH σ0 σ' bm bs bt y' { s with out := o } ∧ o ++ putB s.regs[x.r.toNat] k = s.out ++ putB s.regs[x.r.toNat] x.k.toNat ∧ o.length + k = s.out.length + x.k.toNat) x.k.toNat (x.k - 1) ?_ ⟨by omega, Nat.le_refl _, y, s.out, h, rfl, rfl⟩ ?_
    · simp (config := {decide := true, maxSteps := 2000000}) only [↓bpre, bpost, ↓reduceIte, Nat.reduceEqDiff, aargs, aparts, targs, alit, loadOk, not_false_eq_true, Wone, cond_true, cond_false, dstOk, true_and, and_true, and_self, if_true, if_false, reduceCtorEq, Option.map_some, Option.map_none, Option.map_id', ares, aret, Nat.reduceAdd, Nat.reduceLT, Nat.reduceMul, Nat.zero_add, lenOf, alen, vcBuiltin, Option.isNone_none, Option.isNone_some, Option.isSome_none, Option.isSome_some, aun, aconv, padd, Nat.mul_one, ne_eq, not_false_eq_true, Option.bind_some, List.cons_append, List.nil_append, List.append_nil, abuild, afill, TP.place, List.set_cons_zero, List.set_cons_succ, List.drop_succ_cons, List.drop_zero, List.take_succ_cons, List.take_zero, List.getElem?_cons_zero, List.getElem?_cons_succ, List.length_cons, List.length_nil, List.length_map, implies_true, true_implies, false_implies, forall_const, decide_true, decide_false, Bool.true_eq_false, Bool.false_eq_true, or_false, or_true, false_or, true_or, List.all_cons, List.all_nil, Bool.and_true, Bool.and_self, tfo_87_1, tsz_3, tel_131, tby_131, und_131, tzr_3, tfo_95_4, tel_92, tsz_70, tfo_87_0, tfo_95_6, tsz_27, tfo_87_5, tfo_95_7, tsz_91, tel_27, tel_91, tsz_4, tfo_87_3, tfo_95_8, tfo_62_1, tsz_59, uis_70, und_5, tel_59, tby_59, und_59, tzr_5, tfo_95_2, und_3, tfo_62_0, rob_one, ↓lv_one_22, ↓lv_one_7, ↓lv_one_9, ↓lv_one_13, ↓lv_one_14, ↓lv_one_12, ↓lv_one_11, ↓lv_one_18, ↓lv_one_17, ↓lv_one_16, ↓lv_one_20, ↓lv_one_21, ↓lv_one_19, ↓lv_one_15, ↓lv_one_10, ↓lv_one_8, ↓lv_one_6, ↓lv_one_5, ↓lv_one_4, ↓lv_one_3, ↓lv_one_2, ↓lv_one_1, ↓lv_one_0, ↓sg_one_22, ↓sg_one_7, ↓sg_one_13, ↓sg_one_12, ↓sg_one_11, ↓sg_one_17, ↓sg_one_16, ↓sg_one_20, ↓sg_one_21, ↓sg_one_19, ↓sg_one_15, ↓sg_one_10, ↓sg_one_8, ↓sg_one_6, ↓sg_one_5, ↓sg_one_3, ↓sg_one_2, ↓sg_one_1, ↓sg_one_0, ↓pl_one_4, ↓wl_one_4, Wreg_of wa_one_4, ↓pl_one_9, ↓wl_one_9, stab_all wa_one_9, Wreg_all wa_one_9, ↓pl_one_14, ↓wl_one_14, stab_all wa_one_14, Wreg_all wa_one_14, ↓pl_one_18, ↓wl_one_18, stab_all wa_one_18, Wreg_all wa_one_18]
      rw [wrap_i64 (by omega) (by omega)]
    rintro k p σ' ⟨rfl, hkl, y', o, hv, ho, hol⟩
    have hm' := hv.m
    have ht3' := mC_tail (x := .sl bs s.slot.length 1 70) (y := .sl bt s.set.length 1 4) (z := y') hv.ok 3
    simp only [Nat.reduceAdd, List.getElem?_cons_zero, List.getElem?_cons_succ] at ht3'
    simp (config := {decide := true, maxSteps := 2000000}) only [↓bpre, bpost, ↓reduceIte, Nat.reduceEqDiff, aargs, aparts, targs, alit, loadOk, not_false_eq_true, Wone, cond_true, cond_false, dstOk, true_and, and_true, and_self, if_true, if_false, reduceCtorEq, Option.map_some, Option.map_none, Option.map_id', ares, aret, Nat.reduceAdd, Nat.reduceLT, Nat.reduceMul, Nat.zero_add, lenOf, alen, vcBuiltin, Option.isNone_none, Option.isNone_some, Option.isSome_none, Option.isSome_some, aun, aconv, padd, Nat.mul_one, ne_eq, not_false_eq_true, Option.bind_some, List.cons_append, List.nil_append, List.append_nil, abuild, afill, TP.place, List.set_cons_zero, List.set_cons_succ, List.drop_succ_cons, List.drop_zero, List.take_succ_cons, List.take_zero, List.getElem?_cons_zero, List.getElem?_cons_succ, List.length_cons, List.length_nil, List.length_map, implies_true, true_implies, false_implies, forall_const, decide_true, decide_false, Bool.true_eq_false, Bool.false_eq_true, or_false, or_true, false_or, true_or, List.all_cons, List.all_nil, Bool.and_true, Bool.and_self, tfo_87_1, tsz_3, tel_131, tby_131, und_131, tzr_3, tfo_95_4, tel_92, tsz_70, tfo_87_0, tfo_95_6, tsz_27, tfo_87_5, tfo_95_7, tsz_91, tel_27, tel_91, tsz_4, tfo_87_3, tfo_95_8, tfo_62_1, tsz_59, uis_70, und_5, tel_59, tby_59, und_59, tzr_5, tfo_95_2, und_3, tfo_62_0, rob_one, ↓lv_one_22, ↓lv_one_7, ↓lv_one_9, ↓lv_one_13, ↓lv_one_14, ↓lv_one_12, ↓lv_one_11, ↓lv_one_18, ↓lv_one_17, ↓lv_one_16, ↓lv_one_20, ↓lv_one_21, ↓lv_one_19, ↓lv_one_15, ↓lv_one_10, ↓lv_one_8, ↓lv_one_6, ↓lv_one_5, ↓lv_one_4, ↓lv_one_3, ↓lv_one_2, ↓lv_one_1, ↓lv_one_0, ↓sg_one_22, ↓sg_one_7, ↓sg_one_13, ↓sg_one_12, ↓sg_one_11, ↓sg_one_17, ↓sg_one_16, ↓sg_one_20, ↓sg_one_21, ↓sg_one_19, ↓sg_one_15, ↓sg_one_10, ↓sg_one_8, ↓sg_one_6, ↓sg_one_5, ↓sg_one_3, ↓sg_one_2, ↓sg_one_1, ↓sg_one_0, ↓pl_one_4, ↓wl_one_4, Wreg_of wa_one_4, ↓pl_one_9, ↓wl_one_9, stab_all wa_one_9, Wreg_all wa_one_9, ↓pl_one_14, ↓wl_one_14, stab_all wa_one_14, Wreg_all wa_one_14, ↓pl_one_18, ↓wl_one_18, stab_all wa_one_18, Wreg_all wa_one_18, hm', List.getElem?_drop, Nat.add_zero, ht3']
    have hset := fun v => mC_setTail (s := { s with out := o }) (x := .sl bs s.slot.length 1 70) (y := .sl bt s.set.length 1 4) (z := y') hv.ok 3 v
    have hlen' := mC_len (s := { s with out := o }) (x := .sl bs s.slot.length 1 70) (y := .sl bt s.set.length 1 4) (z := y') hv.ok
    simp only [Nat.reduceAdd, List.set_cons_zero, List.set_cons_succ] at hset
    refine ⟨fun hge => ?_, fun hlt => ?_⟩
    · obtain ⟨m, rfl⟩ : ∃ m, k = m + 1 := ⟨k - 1, by omega⟩
      have e1 : ((m + 1 : Nat) : Int) - 1 = m := by omega
      rw [e1]
      refine ⟨by rw [wrap_i64 (by omega) (by omega)]; omega, ?_⟩
      obtain ⟨σ2, hos, happ⟩ := hv.app
      have hol2 : o.length ≤ 1000000000010 := by omega
      refine AAppend_of tel_59 tby_59 tzr_5 rfl (by decide) σ2 hos (arows_ro _ _) (by simp) (by simp only [List.length_map, List.length_cons, List.length_nil]; omega) (by simp only [List.length_map, List.length_cons, List.length_nil]; omega) (fun x' σ3 h3 => ?_)
      obtain ⟨hm3, hv3⟩ := happ σ3 x' [IntKind.u8.wrap (s.regs[x.r.toNat].fdiv (2 ^ min (IntKind.i64.wrap (8 * (m : Int))).toNat IntKind.u64.bits))] h3
      obtain ⟨hcl, hone⟩ := h3.single
      simp (config := {decide := true, maxSteps := 2000000}) only [↓bpre, bpost, ↓reduceIte, Nat.reduceEqDiff, aargs, aparts, targs, alit, loadOk, not_false_eq_true, Wone, cond_true, cond_false, dstOk, true_and, and_true, and_self, if_true, if_false, reduceCtorEq, Option.map_some, Option.map_none, Option.map_id', ares, aret, Nat.reduceAdd, Nat.reduceLT, Nat.reduceMul, Nat.zero_add, lenOf, alen, vcBuiltin, Option.isNone_none, Option.isNone_some, Option.isSome_none, Option.isSome_some, aun, aconv, padd, Nat.mul_one, ne_eq, not_false_eq_true, Option.bind_some, List.cons_append, List.nil_append, List.append_nil, abuild, afill, TP.place, List.set_cons_zero, List.set_cons_succ, List.drop_succ_cons, List.drop_zero, List.take_succ_cons, List.take_zero, List.getElem?_cons_zero, List.getElem?_cons_succ, List.length_cons, List.length_nil, List.length_map, implies_true, true_implies, false_implies, forall_const, decide_true, decide_false, Bool.true_eq_false, Bool.false_eq_true, or_false, or_true, false_or, true_or, List.all_cons, List.all_nil, Bool.and_true, Bool.and_self, tfo_87_1, tsz_3, tel_131, tby_131, und_131, tzr_3, tfo_95_4, tel_92, tsz_70, tfo_87_0, tfo_95_6, tsz_27, tfo_87_5, tfo_95_7, tsz_91, tel_27, tel_91, tsz_4, tfo_87_3, tfo_95_8, tfo_62_1, tsz_59, uis_70, und_5, tel_59, tby_59, und_59, tzr_5, tfo_95_2, und_3, tfo_62_0, rob_one, ↓lv_one_22, ↓lv_one_7, ↓lv_one_9, ↓lv_one_13, ↓lv_one_14, ↓lv_one_12, ↓lv_one_11, ↓lv_one_18, ↓lv_one_17, ↓lv_one_16, ↓lv_one_20, ↓lv_one_21, ↓lv_one_19, ↓lv_one_15, ↓lv_one_10, ↓lv_one_8, ↓lv_one_6, ↓lv_one_5, ↓lv_one_4, ↓lv_one_3, ↓lv_one_2, ↓lv_one_1, ↓lv_one_0, ↓sg_one_22, ↓sg_one_7, ↓sg_one_13, ↓sg_one_12, ↓sg_one_11, ↓sg_one_17, ↓sg_one_16, ↓sg_one_20, ↓sg_one_21, ↓sg_one_19, ↓sg_one_15, ↓sg_one_10, ↓sg_one_8, ↓sg_one_6, ↓sg_one_5, ↓sg_one_3, ↓sg_one_2, ↓sg_one_1, ↓sg_one_0, ↓pl_one_4, ↓wl_one_4, Wreg_of wa_one_4, ↓pl_one_9, ↓wl_one_9, stab_all wa_one_9, Wreg_all wa_one_9, ↓pl_one_14, ↓wl_one_14, stab_all wa_one_14, Wreg_all wa_one_14, ↓pl_one_18, ↓wl_one_18, stab_all wa_one_18, Wreg_all wa_one_18, hm3, hlen', hset, hcl, hone]
      refine ⟨m, by omega, (m : Int) - 1, _, by rw [wrap_i64 (by omega) (by omega)], FrzH.refl _, rfl, by omega, x', _, hv3, ?_, ?_⟩
      · rw [← ho]; simp [putB]
      · simp only [List.length_append, List.length_cons, List.length_nil]; omega
    · obtain rfl : k = 0 := by omega
      simp only [putB, List.append_nil] at ho
      refine gotRes_one ⟨y', ?_, ?_⟩ <;> simp only [oneS, if_pos hreg, if_neg h4, if_neg h8, if_pos h14, hr]
      rw [← ho]; exact hv
  · refine (c_within h (by have := hrg.blen; omega) _ _ (hrg.regs _ (List.getElem_mem hk)).1).ret ?_
    simp (config := {decide := true, maxSteps := 2000000}) only [↓bpre, bpost, ↓reduceIte, Nat.reduceEqDiff, aargs, aparts, targs, alit, loadOk, not_false_eq_true, Wone, cond_true, cond_false, dstOk, true_and, and_true, and_self, if_true, if_false, reduceCtorEq, Option.map_some, Option.map_none, Option.map_id', ares, aret, Nat.reduceAdd, Nat.reduceLT, Nat.reduceMul, Nat.zero_add, lenOf, alen, vcBuiltin, Option.isNone_none, Option.isNone_some, Option.isSome_none, Option.isSome_some, aun, aconv, padd, Nat.mul_one, ne_eq, not_false_eq_true, Option.bind_some, List.cons_append, List.nil_append, List.append_nil, abuild, afill, TP.place, List.set_cons_zero, List.set_cons_succ, List.drop_succ_cons, List.drop_zero, List.take_succ_cons, List.take_zero, List.getElem?_cons_zero, List.getElem?_cons_succ, List.length_cons, List.length_nil, List.length_map, implies_true, true_implies, false_implies, forall_const, decide_true, decide_false, Bool.true_eq_false, Bool.false_eq_true, or_false, or_true, false_or, true_or, List.all_cons, List.all_nil, Bool.and_true, Bool.and_self, tfo_87_1, tsz_3, tel_131, tby_131, und_131, tzr_3, tfo_95_4, tel_92, tsz_70, tfo_87_0, tfo_95_6, tsz_27, tfo_87_5, tfo_95_7, tsz_91, tel_27, tel_91, tsz_4, tfo_87_3, tfo_95_8, tfo_62_1, tsz_59, uis_70, und_5, tel_59, tby_59, und_59, tzr_5, tfo_95_2, und_3, tfo_62_0, rob_one, ↓lv_one_22, ↓lv_one_7, ↓lv_one_9, ↓lv_one_13, ↓lv_one_14, ↓lv_one_12, ↓lv_one_11, ↓lv_one_18, ↓lv_one_17, ↓lv_one_16, ↓lv_one_20, ↓lv_one_21, ↓lv_one_19, ↓lv_one_15, ↓lv_one_10, ↓lv_one_8, ↓lv_one_6, ↓lv_one_5, ↓lv_one_4, ↓lv_one_3, ↓lv_one_2, ↓lv_one_1, ↓lv_one_0, ↓sg_one_22, ↓sg_one_7, ↓sg_one_13, ↓sg_one_12, ↓sg_one_11, ↓sg_one_17, ↓sg_one_16, ↓sg_one_20, ↓sg_one_21, ↓sg_one_19, ↓sg_one_15, ↓sg_one_10, ↓sg_one_8, ↓sg_one_6, ↓sg_one_5, ↓sg_one_3, ↓sg_one_2, ↓sg_one_1, ↓sg_one_0, ↓pl_one_4, ↓wl_one_4, Wreg_of wa_one_4, ↓pl_one_9, ↓wl_one_9, stab_all wa_one_9, Wreg_all wa_one_9, ↓pl_one_14, ↓wl_one_14, stab_all wa_one_14, Wreg_all wa_one_14, ↓pl_one_18, ↓wl_one_18, stab_all wa_one_18, Wreg_all wa_one_18, hm, List.getElem?_drop, Nat.add_zero, hg4, ht3]
    have hrv := hrg.regs _ (List.getElem_mem hk)
    have hbl := hrg.blen
    refine ⟨fun hin => ?_, fun hin => gotRes_one ⟨y, ?_, ?_⟩⟩
    · obtain ⟨hi1, hi2⟩ := hin
      refine vcSlice_lo tel_59 (by simp [u8r]) hrv.1 (by simpa using hi1) ?_
      obtain ⟨σ2, hos, happ⟩ := h.app
      have hset := fun v => mC_setTail (s := s) (x := .sl bs s.slot.length 1 70) (y := .sl bt s.set.length 1 4) (z := y) h.ok 3 v
      simp only [Nat.reduceAdd, List.set_cons_zero, List.set_cons_succ] at hset
      refine AAppend_of tel_59 tby_59 tzr_5 rfl (by decide) σ2 hos (arows_ro _ _) (by intro r hr; obtain ⟨_, _, rfl⟩ := List.mem_map.1 (List.mem_of_mem_drop hr); rfl) (by simp only [List.length_map, List.length_drop]; omega) (by simp only [List.length_map, List.length_drop]; omega) (fun x' σ3 h3 => ?_)
      rw [← List.map_drop] at h3
      obtain ⟨hm3, hv3⟩ := happ σ3 x' _ h3
      obtain ⟨hcl, hone⟩ := h3.single
      simp (config := {decide := true, maxSteps := 2000000}) only [↓bpre, bpost, ↓reduceIte, Nat.reduceEqDiff, aargs, aparts, targs, alit, loadOk, not_false_eq_true, Wone, cond_true, cond_false, dstOk, true_and, and_true, and_self, if_true, if_false, reduceCtorEq, Option.map_some, Option.map_none, Option.map_id', ares, aret, Nat.reduceAdd, Nat.reduceLT, Nat.reduceMul, Nat.zero_add, lenOf, alen, vcBuiltin, Option.isNone_none, Option.isNone_some, Option.isSome_none, Option.isSome_some, aun, aconv, padd, Nat.mul_one, ne_eq, not_false_eq_true, Option.bind_some, List.cons_append, List.nil_append, List.append_nil, abuild, afill, TP.place, List.set_cons_zero, List.set_cons_succ, List.drop_succ_cons, List.drop_zero, List.take_succ_cons, List.take_zero, List.getElem?_cons_zero, List.getElem?_cons_succ, List.length_cons, List.length_nil, List.length_map, implies_true, true_implies, false_implies, forall_const, decide_true, decide_false, Bool.true_eq_false, Bool.false_eq_true, or_false, or_true, false_or, true_or, List.all_cons, List.all_nil, Bool.and_true, Bool.and_self, tfo_87_1, tsz_3, tel_131, tby_131, und_131, tzr_3, tfo_95_4, tel_92, tsz_70, tfo_87_0, tfo_95_6, tsz_27, tfo_87_5, tfo_95_7, tsz_91, tel_27, tel_91, tsz_4, tfo_87_3, tfo_95_8, tfo_62_1, tsz_59, uis_70, und_5, tel_59, tby_59, und_59, tzr_5, tfo_95_2, und_3, tfo_62_0, rob_one, ↓lv_one_22, ↓lv_one_7, ↓lv_one_9, ↓lv_one_13, ↓lv_one_14, ↓lv_one_12, ↓lv_one_11, ↓lv_one_18, ↓lv_one_17, ↓lv_one_16, ↓lv_one_20, ↓lv_one_21, ↓lv_one_19, ↓lv_one_15, ↓lv_one_10, ↓lv_one_8, ↓lv_one_6, ↓lv_one_5, ↓lv_one_4, ↓lv_one_3, ↓lv_one_2, ↓lv_one_1, ↓lv_one_0, ↓sg_one_22, ↓sg_one_7, ↓sg_one_13, ↓sg_one_12, ↓sg_one_11, ↓sg_one_17, ↓sg_one_16, ↓sg_one_20, ↓sg_one_21, ↓sg_one_19, ↓sg_one_15, ↓sg_one_10, ↓sg_one_8, ↓sg_one_6, ↓sg_one_5, ↓sg_one_3, ↓sg_one_2, ↓sg_one_1, ↓sg_one_0, ↓pl_one_4, ↓wl_one_4, Wreg_of wa_one_4, ↓pl_one_9, ↓wl_one_9, stab_all wa_one_9, Wreg_all wa_one_9, ↓pl_one_14, ↓wl_one_14, stab_all wa_one_14, Wreg_all wa_one_14, ↓pl_one_18, ↓wl_one_18, stab_all wa_one_18, Wreg_all wa_one_18, hm3, hlen, hset, hcl, hone]
      refine gotRes_one ⟨x', ?_, ?_⟩ <;> simp only [oneS, if_pos hreg, if_neg h4, if_neg h8, if_neg h14, if_pos h15, hr, if_pos (show withinF s.b s.regs[x.r.toNat] 0 from ⟨hi1, hi2⟩)]
      exact hv3
    · simp only [oneS, if_pos hreg, if_neg h4, if_neg h8, if_neg h14, if_pos h15, hr, if_neg hin]
    · simp only [oneS, if_pos hreg, if_neg h4, if_neg h8, if_neg h14, if_pos h15, hr, if_neg hin]; exact h
  · have hset := fun v => mC_setTail (s := s) (x := .sl bs s.slot.length 1 70) (y := .sl bt s.set.length 1 4) (z := y) h.ok 2 v
    simp only [Nat.reduceAdd, List.set_cons_zero, List.set_cons_succ] at hset
    simp (config := {decide := true, maxSteps := 2000000}) only [↓bpre, bpost, ↓reduceIte, Nat.reduceEqDiff, aargs, aparts, targs, alit, loadOk, not_false_eq_true, Wone, cond_true, cond_false, dstOk, true_and, and_true, and_self, if_true, if_false, reduceCtorEq, Option.map_some, Option.map_none, Option.map_id', ares, aret, Nat.reduceAdd, Nat.reduceLT, Nat.reduceMul, Nat.zero_add, lenOf, alen, vcBuiltin, Option.isNone_none, Option.isNone_some, Option.isSome_none, Option.isSome_some, aun, aconv, padd, Nat.mul_one, ne_eq, not_false_eq_true, Option.bind_some, List.cons_append, List.nil_append, List.append_nil, abuild, afill, TP.place, List.set_cons_zero, List.set_cons_succ, List.drop_succ_cons, List.drop_zero, List.take_succ_cons, List.take_zero, List.getElem?_cons_zero, List.getElem?_cons_succ, List.length_cons, List.length_nil, List.length_map, implies_true, true_implies, false_implies, forall_const, decide_true, decide_false, Bool.true_eq_false, Bool.false_eq_true, or_false, or_true, false_or, true_or, List.all_cons, List.all_nil, Bool.and_true, Bool.and_self, tfo_87_1, tsz_3, tel_131, tby_131, und_131, tzr_3, tfo_95_4, tel_92, tsz_70, tfo_87_0, tfo_95_6, tsz_27, tfo_87_5, tfo_95_7, tsz_91, tel_27, tel_91, tsz_4, tfo_87_3, tfo_95_8, tfo_62_1, tsz_59, uis_70, und_5, tel_59, tby_59, und_59, tzr_5, tfo_95_2, und_3, tfo_62_0, rob_one, ↓lv_one_22, ↓lv_one_7, ↓lv_one_9, ↓lv_one_13, ↓lv_one_14, ↓lv_one_12, ↓lv_one_11, ↓lv_one_18, ↓lv_one_17, ↓lv_one_16, ↓lv_one_20, ↓lv_one_21, ↓lv_one_19, ↓lv_one_15, ↓lv_one_10, ↓lv_one_8, ↓lv_one_6, ↓lv_one_5, ↓lv_one_4, ↓lv_one_3, ↓lv_one_2, ↓lv_one_1, ↓lv_one_0, ↓sg_one_22, ↓sg_one_7, ↓sg_one_13, ↓sg_one_12, ↓sg_one_11, ↓sg_one_17, ↓sg_one_16, ↓sg_one_20, ↓sg_one_21, ↓sg_one_19, ↓sg_one_15, ↓sg_one_10, ↓sg_one_8, ↓sg_one_6, ↓sg_one_5, ↓sg_one_3, ↓sg_one_2, ↓sg_one_1, ↓sg_one_0, ↓pl_one_4, ↓wl_one_4, Wreg_of wa_one_4, ↓pl_one_9, ↓wl_one_9, stab_all wa_one_9, Wreg_all wa_one_9, ↓pl_one_14, ↓wl_one_14, stab_all wa_one_14, Wreg_all wa_one_14, ↓pl_one_18, ↓wl_one_18, stab_all wa_one_18, Wreg_all wa_one_18, hlen, hset]
    refine gotRes_one ⟨y, ?_, ?_⟩ <;> simp only [oneS, if_pos hreg, if_neg h4, if_neg h8, if_neg h14, if_neg h15, if_pos h16, hr]
    exact h.upd (s' := { s with oport := _ }) rfl rfl rfl h.ok
  · refine ⟨fun _ => gotRes_one ⟨y, ?_, ?_⟩, fun _ => gotRes_one ⟨y, ?_, ?_⟩⟩ <;> simp only [oneS, if_pos hreg, if_neg h4, if_neg h8, if_neg h14, if_neg h15, if_neg h16]
    · exact h
    · exact h
end Y
