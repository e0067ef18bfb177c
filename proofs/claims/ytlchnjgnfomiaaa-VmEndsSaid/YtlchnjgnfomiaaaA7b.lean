/- A part of the proof: A7b. -/
import Derived.Test.YtlchnjgnfomiaaaA6
set_option linter.unusedSimpArgs false
set_option linter.unusedVariables false
namespace Go.Ag
open Go

/-- What was owned may be read-only from now on. -/
inductive Frz (σ σ' : H) : AV → AV → Prop
  | refl (x : AV) : Frz σ σ' x x
  | nil : Frz σ σ' (.v (.slice none 0 0)) (.ro [])
  | mt : Frz σ σ' .mt (.ro [])
  | sl (b n sz : Nat) (e e' : TypeId) (xs ys : List (List AV)) (hb : σ b = some (.rows e' sz xs)) (hb' : σ' b = none) (hn : n = ys.length)
      (hl : ∀ (i : Nat) (r : List AV), ys[i]? = some r → ∃ r0, xs[i]? = some r0 ∧ r0.length = r.length)
      (h : ∀ (i : Nat) (r0 r : List AV) (j : Nat) (c d : AV), xs[i]? = some r0 → ys[i]? = some r → r0[j]? = some c → r[j]? = some d → Frz σ σ' c d) :
      Frz σ σ' (.sl b n sz e) (.ro ys)
  | agg (cs ds : List AV) (hl : cs.length = ds.length) (h : ∀ (i : Nat) (c d : AV), cs[i]? = some c → ds[i]? = some d → Frz σ σ' c d) : Frz σ σ' (.agg cs) (.agg ds)
  | tup (cs ds : List AV) (hl : cs.length = ds.length) (h : ∀ (i : Nat) (c d : AV), cs[i]? = some c → ds[i]? = some d → Frz σ σ' c d) : Frz σ σ' (.tup cs) (.tup ds)

section
variable {σ σ' : H} {w : World}
theorem Frz.one {c d : AV} (h : Frz σ σ' c d) (h1 : c.one = true) : d.one = true := by
  cases h <;> first | exact h1 | rfl | cases h1

theorem Frz.sound (hR : HR σ w) (hsub : ∀ b, dom σ' b → dom σ b) {c d : AV} (h : Frz σ σ' c d) : ∀ {v : Value}, VR w (dom σ) c v → VR w (dom σ') d v := by
  have mono : ∀ {c : AV} {v : Value}, VR w (dom σ) c v → VR w (dom σ') c v := fun hv => hv.mono (Le.refl _ _) (fun b _ hb => hsub b hb)
  induction h with
  | refl x => exact fun hv => mono hv
  | nil => intro v hv; cases hv; exact .ro [] none 0 0 (fun _ _ => undef) (by simp) (fun h => absurd rfl h) (by simp) (Nat.zero_le _) (Nat.le_refl _)
  | mt => intro v hv; cases hv; exact .ro [] _ 0 0 (fun _ _ => undef) (by simp) (fun h => absurd rfl h) (by simp) (Nat.zero_le _) (Nat.le_refl _)
  | sl b n sz e e' xs ys hb hb' hn hl h ih =>
    intro v hv
    subst hn
    cases hv with
    | sl _ _ _ _ cap cur hbw hc hlc hcm =>
    obtain ⟨cur0, e0, h1, h2⟩ := hR b _ hb
    rw [h1] at hbw
    simp only [Option.some.injEq, Obj.cells.injEq] at hbw
    obtain ⟨rfl, rfl, _⟩ := hbw
    cases h2 with
    | rows _ _ _ _ hl0 hlen0 hone0 hv0 =>
    have cell : ∀ (i : Nat) (r0 : List AV) (j : Nat), xs[i]? = some r0 → j < r0.length → i * sz + j < cur0.size := by
      intro i r0 j hi hj
      have hr := (hone0 i r0 hi).1
      have hil : i < xs.length := (List.getElem?_eq_some_iff.1 hi).1
      have : (i + 1) * sz ≤ xs.length * sz := Nat.mul_le_mul_right _ hil
      rw [Nat.add_mul, Nat.one_mul] at this
      omega
    refine .ro ys (some ⟨b, 0, none⟩) cap sz (fun i j => cur0.getD (i * sz + j) undef) (fun i r hi => ?_) (fun _ => ⟨b, 0, rfl, ?_, lt_of_heap h1, fun i r j hi hj => ?_⟩) (fun i r j c hi hj => ?_) (by omega) hlc
    · obtain ⟨r0, hr0, hrl⟩ := hl i r hi
      refine ⟨by rw [← hrl]; exact (hone0 i r0 hr0).1, fun c hc' => ?_⟩
      obtain ⟨j, hj⟩ := List.mem_iff_getElem?.1 hc'
      have hjl : j < r0.length := by rw [hrl]; exact (List.getElem?_eq_some_iff.1 hj).1
      exact (h i r0 r j _ c hr0 hi (List.getElem?_eq_getElem hjl) hj).one ((hone0 i r0 hr0).2 _ (List.getElem_mem hjl))
    · intro hd
      unfold dom at hd
      rw [hb'] at hd
      cases hd
    · obtain ⟨r0, hr0, hrl⟩ := hl i r hi
      have hlt := cell i r0 j hr0 (by omega)
      rw [Nat.zero_add, cell_of_heap h1]
      simp [hlt]
    · obtain ⟨r0, hr0, hrl⟩ := hl i r hi
      have hjl : j < r0.length := by rw [hrl]; exact (List.getElem?_eq_some_iff.1 hj).1
      have hlt := cell i r0 j hr0 hjl
      exact ih i r0 r j _ c hr0 hi (List.getElem?_eq_getElem hjl) hj (hv0 i r0 j _ _ hr0 (List.getElem?_eq_getElem hjl) (by simp [hlt]))
  | agg cs ds hl h ih =>
    intro v hv
    cases hv with
    | agg _ vs hl' hone hv' =>
    refine .agg ds vs (by omega) (fun d hd => ?_) (fun i d x hd hx => ?_)
    · obtain ⟨i, hi⟩ := List.mem_iff_getElem?.1 hd
      have hil : i < cs.length := by rw [hl]; exact (List.getElem?_eq_some_iff.1 hi).1
      exact (h i _ d (List.getElem?_eq_getElem hil) hi).one (hone _ (List.getElem_mem hil))
    · have hil : i < cs.length := by rw [hl]; exact (List.getElem?_eq_some_iff.1 hd).1
      exact ih i _ d (List.getElem?_eq_getElem hil) hd (hv' i _ x (List.getElem?_eq_getElem hil) hx)
  | tup cs ds hl h ih =>
    intro v hv
    cases hv with
    | tup _ vs hl' hv' =>
    refine .tup ds vs (by omega) (fun i d x hd hx => ?_)
    have hil : i < cs.length := by rw [hl]; exact (List.getElem?_eq_some_iff.1 hd).1
    exact ih i _ d (List.getElem?_eq_getElem hil) hd (hv' i _ x (List.getElem?_eq_getElem hil) hx)

inductive FrzO (σ σ' : H) : AObj → AObj → Prop
  | refl (o : AObj) : FrzO σ σ' o o
  | st (cs ds : List AV) (hl : cs.length = ds.length) (h : ∀ (i : Nat) (c d : AV), cs[i]? = some c → ds[i]? = some d → Frz σ σ' c d) : FrzO σ σ' (.st cs) (.st ds)
  | rows (e : TypeId) (sz : Nat) (xs ys : List (List AV)) (hx : xs.length = ys.length)
      (hl : ∀ (i : Nat) (r0 r : List AV), xs[i]? = some r0 → ys[i]? = some r → r0.length = r.length)
      (h : ∀ (i : Nat) (r0 r : List AV) (j : Nat) (c d : AV), xs[i]? = some r0 → ys[i]? = some r → r0[j]? = some c → r[j]? = some d → Frz σ σ' c d) : FrzO σ σ' (.rows e sz xs) (.rows e sz ys)

/-- From a heap to one that says less: blocks are let go, what they held read-only. -/
def FrzH (σ σ' : H) : Prop := ∀ b o', σ' b = some o' → ∃ o, σ b = some o ∧ FrzO σ σ' o o'

theorem FrzH.sub (h : FrzH σ σ') : ∀ b, dom σ' b → dom σ b := by
  intro b hb
  unfold dom at hb
  cases h1 : σ' b with
  | none => rw [h1] at hb; cases hb
  | some o => obtain ⟨o', h2, _⟩ := h b o h1; exact dom_of h2
theorem FrzH.sound (hR : HR σ w) (h : FrzH σ σ') : HR σ' w := by
  intro b o' hb
  obtain ⟨o, ho, hf⟩ := h b o' hb
  obtain ⟨cur, e, h1, h2⟩ := hR b o ho
  refine ⟨cur, e, h1, ?_⟩
  cases hf with
  | refl => exact h2.mono (Le.refl _ _) (fun b _ hb => h.sub b hb)
  | st cs ds hl hf =>
    cases h2 with
    | st _ _ _ hl2 hone hv =>
    refine .st ds cur e (by omega) (fun d hd => ?_) (fun i d x hd hx => ?_)
    · obtain ⟨i, hi⟩ := List.mem_iff_getElem?.1 hd
      have hil : i < cs.length := by rw [hl]; exact (List.getElem?_eq_some_iff.1 hi).1
      exact (hf i _ d (List.getElem?_eq_getElem hil) hi).one (hone _ (List.getElem_mem hil))
    · have hil : i < cs.length := by rw [hl]; exact (List.getElem?_eq_some_iff.1 hd).1
      exact (hf i _ d (List.getElem?_eq_getElem hil) hd).sound hR h.sub (hv i _ x (List.getElem?_eq_getElem hil) hx)
  | rows e' sz xs ys hxy hl hf =>
    cases h2 with
    | rows _ _ _ _ hl2 hlen hone hv =>
    have old : ∀ (i : Nat) (r : List AV), ys[i]? = some r → ∃ r0, xs[i]? = some r0 ∧ r0.length = r.length := by
      intro i r hi
      have hil : i < xs.length := by rw [hxy]; exact (List.getElem?_eq_some_iff.1 hi).1
      exact ⟨_, List.getElem?_eq_getElem hil, hl i _ r (List.getElem?_eq_getElem hil) hi⟩
    refine .rows _ sz ys cur (by rw [← hxy]; exact hl2) (by omega) (fun i r hi => ?_) (fun i r j d x hi hj hx => ?_)
    · obtain ⟨r0, hr0, hrl⟩ := old i r hi
      refine ⟨by rw [← hrl]; exact (hone i r0 hr0).1, fun d hd => ?_⟩
      obtain ⟨j, hj⟩ := List.mem_iff_getElem?.1 hd
      have hjl : j < r0.length := by rw [hrl]; exact (List.getElem?_eq_some_iff.1 hj).1
      exact (hf i r0 r j _ d hr0 hi (List.getElem?_eq_getElem hjl) hj).one ((hone i r0 hr0).2 _ (List.getElem_mem hjl))
    · obtain ⟨r0, hr0, hrl⟩ := old i r hi
      have hjl : j < r0.length := by rw [hrl]; exact (List.getElem?_eq_some_iff.1 hj).1
      exact (hf i r0 r j _ d hr0 hi (List.getElem?_eq_getElem hjl) hj).sound hR h.sub (hv i r0 j _ x hr0 (List.getElem?_eq_getElem hjl) hx)

/-- Blocks are let go. -/
theorem FrzH.of_sub (h : ∀ b o, σ' b = some o → σ b = some o) : FrzH σ σ' := fun b o hb => ⟨o, h b o hb, .refl o⟩
/-- A list that was built up is read-only from now on. -/
theorem OS.frz {e : TypeId} {sz : Nat} {σ0 : H} {y : AV} {xs : List (List AV)} (h : OS e sz σ0 σ y xs) : FrzH σ σ0 ∧ Frz σ σ0 y (.ro xs) := by
  rcases h with ⟨rfl, rfl, rfl⟩ | ⟨b, hb, rfl, rfl⟩
  · exact ⟨.of_sub fun _ _ h => h, .nil⟩
  · refine ⟨.of_sub fun c o hc => ?_, .sl b _ sz e e xs xs (upd_same _ _ _) hb rfl (fun i r hi => ⟨r, hi, rfl⟩) (fun i r0 r j c d h1 h2 h3 h4 => ?_)⟩
    · rw [upd_ne]; exact hc
      rintro rfl; rw [hb] at hc; cases hc
    · rw [h1] at h2; cases h2; rw [h3] at h4; cases h4; exact .refl _
end

end Go.Ag
