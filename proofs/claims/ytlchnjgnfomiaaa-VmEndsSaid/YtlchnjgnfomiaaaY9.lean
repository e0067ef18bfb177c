/- A part of the proof: Y9. -/
import Derived.Test.YtlchnjgnfomiaaaY8
set_option linter.unusedSimpArgs false
set_option linter.unusedVariables false
open Go Go.Ag Go.Proofs
namespace Y
theorem check_ok {p : Prog} (h : (checkF p).1 = 0) : (0 ≤ p.slots ∧ p.slots ≤ 96) ∧ p.tabs.length ≤ 5 ∧ (0 < p.code.length ∧ p.code.length ≤ 60000) ∧
    (∀ i x, p.code[i]? = some x → insF p.slots p.tabs p.code.length i x = none) ∧ (∃ x, p.code[p.code.length - 1]? = some x ∧ (x.op = 16 ∨ x.op = 17)) ∧ checkF p = (0, 0) := by
  unfold checkF at h ⊢
  split at h
  · simp at h
  rename_i h1
  split at h
  · simp at h
  rename_i h2
  rw [if_neg h1, if_neg h2]
  have hs := fstAt_spec (f := shapeF) (l := p.tabs) (i := 0)
  have hi := fstAt_spec (f := insF p.slots p.tabs p.code.length) (l := p.code) (i := 0)
  split at h
  · simp at h
  rename_i h3
  split at h
  · rename_i i c h4
    rw [h4] at hi
    obtain ⟨k, x, _, _, h5, _⟩ := hi
    unfold insF at h5
    split at h5
    · cases h5; simp at h
    · split at h5
      · cases h5; simp at h
      · cases h5
  rename_i h4
  rw [h4] at hi
  have hl : 0 < p.code.length := by omega
  obtain ⟨x, hx⟩ : ∃ x, p.code[p.code.length - 1]? = some x := ⟨_, List.getElem?_eq_getElem (by omega)⟩
  rw [hx] at h
  simp only at h
  split at h
  · rename_i ho
    refine ⟨by omega, by omega, by omega, fun i x hx => by have := hi i x hx; rwa [Nat.zero_add] at this, ⟨x, hx, ho⟩, ?_⟩
    rw [hx]; simp only [ho, if_true]
  · simp at h
theorem ins_ok {slots : Int} {tabs : List Shape} {len i : Nat} {x : Ins} (h : insF slots tabs len i x = none) : fitsF slots tabs x = true ∧ (withF (hasF x.op) 116 = true → x.to < (len : Int) - i - 1) := by
  unfold insF at h
  split at h
  · cases h
  rename_i h1
  split at h
  · cases h
  rename_i h2
  exact ⟨by simpa using h1, fun h3 => by
    rcases Int.lt_or_le x.to ((len : Int) - i - 1) with h4 | h4
    · exact h4
    · exact absurd ⟨h3, h4⟩ h2⟩
/-- What a form allows. -/
theorem fits_ok {slots : Int} {tabs : List Shape} {x : Ins} (h : fitsF slots tabs x = true) (hs : 0 ≤ slots ∧ slots ≤ 96) (hn : 0 ≤ x.n ∧ x.n < 18446744073709551616) : InsOk slots x ∧ 0 ≤ x.to := by
  unfold fitsF at h
  simp only [Bool.and_eq_true, decide_eq_true_eq] at h
  obtain ⟨⟨h1, h2⟩, h3⟩ := h
  obtain ⟨h4, h5, h6⟩ := h2
  refine ⟨⟨h4, fun h => h5.resolve_left h, hn, fun h => ?_, fun h => ?_, fun h => ?_⟩, h6⟩
  · simp [bodyF, h] at h3; omega
  · simp [bodyF, h] at h3; omega
  · have hw : IntKind.u64.wrap slots = slots := wrap_u64 (by omega) (by omega)
    rcases h with h | h <;> simp [bodyF, h, hw] at h3 <;> omega
theorem fits_13 {slots : Int} {x : Ins} (h : fitsF slots [] x = true) : x.op ≠ 13 := by
  intro h13
  unfold fitsF at h
  simp [bodyF, h13] at h
theorem leads_op {s : VS} {x : Ins} (h : (leadsS s x).1 = true) : withF (hasF x.op) 116 = true := by
  unfold leadsS at h
  simp only at h
  split at h
  · rename_i h1; rw [h1]; decide
  split at h
  · rename_i h1; rw [h1]; decide
  split at h
  · rename_i h1; rw [h1]; decide
  split at h
  · rename_i h1; rw [h1]; decide
  cases h
theorem wrap_u64_rng (n : Int) : 0 ≤ IntKind.u64.wrap n ∧ IntKind.u64.wrap n < 18446744073709551616 := by rw [wrap_u64_mod]; omega
theorem wrap_u8_rng (n : Int) : 0 ≤ IntKind.u8.wrap n ∧ IntKind.u8.wrap n < 256 := by rw [wrap_u8_mod]; omega
theorem fdiv_rng {a : Int} (h : 0 ≤ a ∧ a < 18446744073709551616) (k : Nat) : 0 ≤ a.fdiv (2 ^ k) ∧ a.fdiv (2 ^ k) < 18446744073709551616 := by
  have h2 : (0 : Int) < 2 ^ k := Int.pow_pos (by decide)
  rw [Int.fdiv_eq_ediv_of_nonneg _ (Int.le_of_lt h2)]
  exact ⟨Int.ediv_nonneg h.1 (Int.le_of_lt h2), Int.lt_of_le_of_lt (Int.ediv_le_self _ h.1) h.2⟩
theorem applyF_rng {k a b : Int} (ha : 0 ≤ a ∧ a < 18446744073709551616) : 0 ≤ applyF k a b ∧ applyF k a b < 18446744073709551616 := by
  unfold applyF andF
  repeat' split
  all_goals first
    | exact wrap_u64_rng _
    | exact fdiv_rng ha _
    | decide
theorem loadF_rng (b : List Int) : ∀ (n at_ : Nat) (v : Int), (0 ≤ v ∧ v < 18446744073709551616) → 0 ≤ loadF b at_ n v ∧ loadF b at_ n v < 18446744073709551616
  | 0, _, _, h => h
  | n + 1, _, _, _ => loadF_rng b n _ _ (wrap_u64_rng _)
/-- What stays true of a machine. -/
structure VS.inv (p : Prog) (b : List Int) (port : Int) (n : Nat) (s : VS) : Prop where
  rg : s.rg
  slot : (s.slot.length : Int) = p.slots
  b : s.b = b
  port : s.port = port
  prog : s.p = p
  ok : s.ok
  out : s.out.length ≤ 1000 * n
  bytes : ∀ r ∈ s.out, 0 ≤ r ∧ r < 256
theorem putS_inv {p : Prog} {b : List Int} {port : Int} {n : Nat} {s : VS} (h : s.inv p b port n) (r v : Int) (hv : 0 ≤ v ∧ v < 18446744073709551616) : (putS s r v).inv p b port (n + 1) := by
  obtain ⟨⟨h1, h2, h3, h4, h5⟩, h6, h7, h8, h9, h10, h11, h12⟩ := h
  refine ⟨⟨fun q hq => ?_, h2, h3, h4, h5⟩, h6, h7, h8, h9, ⟨by simp [putS, h10.1], by simp [putS, h10.2.1], h10.2.2⟩, by simp only [putS]; omega, h12⟩
  rcases List.mem_or_eq_of_mem_set hq with hq | rfl
  · exact h1 _ hq
  · exact hv
theorem inv_succ {p : Prog} {b : List Int} {port : Int} {n : Nat} {s : VS} (h : s.inv p b port n) : s.inv p b port (n + 1) :=
  ⟨h.rg, h.slot, h.b, h.port, h.prog, h.ok, by have := h.out; omega, h.bytes⟩
theorem putB_rng (v : Int) : ∀ k, ∀ r ∈ putB v k, 0 ≤ r ∧ r < 256
  | 0, r, h => by cases h
  | k + 1, r, h => by
    rcases List.mem_cons.1 h with rfl | h
    · exact wrap_u8_rng _
    · exact putB_rng v k r h
theorem putB_len (v : Int) : ∀ k, (putB v k).length = k
  | 0 => rfl
  | k + 1 => by simp [putB, putB_len v k]
theorem oneS_inv {p : Prog} {b : List Int} {port : Int} {n : Nat} {s : VS} (h : s.inv p b port n) (hb : b.length ≤ 600) {x : Ins} (hx : InsOk p.slots x) : (oneS s x).2.inv p b port (n + 1) := by
  have hreg : ∀ r : Nat, 0 ≤ s.regs.getD r 0 ∧ s.regs.getD r 0 < 18446744073709551616 := fun r => by
    rw [List.getD_eq_getElem?_getD]
    cases hr : s.regs[r]? with
    | none => decide
    | some v => exact h.rg.regs v (List.mem_of_getElem? hr)
  unfold oneS
  simp only
  split
  · split
    · exact putS_inv h _ _ (wrap_u64_rng _)
    · split
      · obtain ⟨⟨h1, h2, h3, h4, h5⟩, h6, h7, h8, h9, h10, h11, h12⟩ := h
        refine ⟨⟨h1, fun q hq => ?_, h3, h4, h5⟩, by simpa using h6, h7, h8, h9, ⟨h10.1, h10.2.1, by simpa using h10.2.2⟩, by simp only; omega, h12⟩
        rcases List.mem_or_eq_of_mem_set hq with hq | rfl
        · exact h2 _ hq
        · exact hreg _
      · split
        · rename_i h14
          have hk := hx.k14 h14
          obtain ⟨⟨h1, h2, h3, h4, h5⟩, h6, h7, h8, h9, h10, h11, h12⟩ := h
          refine ⟨⟨h1, h2, h3, h4, h5⟩, h6, h7, h8, h9, h10, by simp only [List.length_append, putB_len]; omega, fun q hq => ?_⟩
          rcases List.mem_append.1 hq with hq | hq
          · exact h12 q hq
          · exact putB_rng _ _ q hq
        · split
          · split
            · obtain ⟨⟨h1, h2, h3, h4, h5⟩, h6, h7, h8, h9, h10, h11, h12⟩ := h
              refine ⟨⟨h1, h2, h3, h4, h5⟩, h6, h7, h8, h9, h10, by simp only [List.length_append, List.length_drop]; rw [h7]; omega, fun q hq => ?_⟩
              rcases List.mem_append.1 hq with hq | hq
              · exact h12 q hq
              · exact h3 q (List.mem_of_mem_drop hq)
            · exact inv_succ h
          · split
            · obtain ⟨h0, h6, h7, h8, h9, h10, h11, h12⟩ := inv_succ h
              exact ⟨⟨h0.regs, h0.slot, h0.bytes, h0.blen, h0.port⟩, h6, h7, h8, h9, h10, h11, h12⟩
            · exact inv_succ h
  · exact inv_succ h
theorem leads_inv {p : Prog} {b : List Int} {port : Int} {n : Nat} {s : VS} (h : s.inv p b port n) (hb : b.length ≤ 600) {x : Ins} (hx : InsOk p.slots x) : (leadsS s x).2.2.inv p b port (n + 1) := by
  have hreg : ∀ r : Nat, 0 ≤ s.regs.getD r 0 ∧ s.regs.getD r 0 < 18446744073709551616 := fun r => by
    rw [List.getD_eq_getElem?_getD]
    cases hr : s.regs[r]? with
    | none => decide
    | some v => exact h.rg.regs v (List.mem_of_getElem? hr)
  have hslot : ∀ r : Nat, 0 ≤ s.slot.getD r 0 ∧ s.slot.getD r 0 < 18446744073709551616 := fun r => by
    rw [List.getD_eq_getElem?_getD]
    cases hr : s.slot[r]? with
    | none => decide
    | some v => exact h.rg.slot v (List.mem_of_getElem? hr)
  unfold leadsS
  simp only
  split
  · exact inv_succ h
  split
  · exact inv_succ h
  split
  · exact inv_succ h
  split
  · exact inv_succ h
  unfold plainS
  split
  · exact putS_inv h _ _ hx.n
  split
  · exact putS_inv h _ _ (by have := h.rg.port; omega)
  split
  · split
    · exact putS_inv h _ _ (hslot _)
    · exact inv_succ h
  split
  · split
    · split
      · unfold loadS
        simp only
        split
        · exact putS_inv h _ _ (loadF_rng _ _ _ _ (by decide))
        · exact inv_succ h
      · exact putS_inv h _ _ (hreg _)
    · exact inv_succ h
  split
  · split
    · split
      · exact putS_inv h _ _ (wrap_u64_rng _)
      · exact putS_inv h _ _ (applyF_rng (hreg _))
    · exact inv_succ h
  exact oneS_inv h hb hx
end Y
