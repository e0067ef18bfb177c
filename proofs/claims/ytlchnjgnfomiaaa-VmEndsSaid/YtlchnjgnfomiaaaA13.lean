/- A part of the proof: A13. -/
import Derived.Test.YtlchnjgnfomiaaaA10
import Derived.Test.YtlchnjgnfomiaaaA12
set_option linter.unusedSimpArgs false
set_option linter.unusedVariables false
namespace Go.Ag
open Go
section
variable {P : Program} {rob : Nat → Bool} {σ : H} {n : Nat}

theorem one_mono {t : T} {x : Operand} {K K' : AV → Prop} (hk : ∀ y, K y → K' y) (h : one t x K) : one t x K' := by
  unfold one at h ⊢
  split at h
  · exact hk _ h
  · exact h.elim
theorem oneO_mono {x : Option AV} {K K' : AV → Prop} (hk : ∀ y, K y → K' y) (h : oneO x K) : oneO x K' := by
  unfold oneO at h ⊢
  split at h
  · exact hk _ h
  · exact h.elim

theorem pickK_mono {q : Bool} {x y : Option AV} {K K' : AV → Prop} (hk : ∀ y, K y → K' y) (h : pickK q x y K) : pickK q x y K' := by
  obtain ⟨z, h1, h2⟩ := pickK_det h
  exact h2 _ (hk _ h1)
theorem vcSlice_mono {ty : TypeId} {y : AV} {d : Option TypeDesc} {lo hi : Option (Option AV)} {K K' : AV → Prop} (hk : ∀ y, K y → K' y) (h : vcSlice P ty y d lo hi K) : vcSlice P ty y d lo hi K' := by
  obtain ⟨z, h1, h2⟩ := vcSlice_det h
  exact h2 _ (hk _ h1)
theorem aindex_mono {ty : TypeId} {x : AV} {k : Nat} {K K' : AV → Prop} (hk : ∀ y, K y → K' y) (h : aindex P ty x k K) : aindex P ty x k K' := by
  obtain ⟨z, h1, h2⟩ := aindex_det h
  exact h2 _ (hk _ h1)
theorem AMake_mono {ty : TypeId} {x c : Int} {K K' : AV → H → Prop} (hk : ∀ y σ, K y σ → K' y σ) (h : AMake P ty σ x c K) : AMake P ty σ x c K' := by
  unfold AMake at h ⊢
  split at h <;> try (exact h.elim)
  split at h <;> try (exact h.elim)
  exact ⟨h.1, h.2.1, h.2.2.1, h.2.2.2.1, h.2.2.2.2.1, fun b hb => hk _ _ (h.2.2.2.2.2 b hb)⟩
theorem AAppend_mono {ty : TypeId} {x y : AV} {K K' : AV → H → Prop} (hk : ∀ y σ, K y σ → K' y σ) (h : AAppend P ty σ x y K) : AAppend P ty σ x y K' := by
  obtain ⟨σ0, xs, rs, h⟩ := h
  refine ⟨σ0, xs, rs, ?_⟩
  split at h <;> try (exact h.elim)
  split at h <;> try (exact h.elim)
  obtain ⟨h1, h2, h3, h4, h5, h6, h7, h8⟩ := h
  exact ⟨h1, h2, h3, h4, h5, h6, h7, h8.imp (fun h x' σ' ho => hk _ _ (h x' σ' ho)) (hk _ _)⟩
theorem vcCall_mono {c : Call} {t : T} {K K' : AV → H → Prop} {Kp Kp' : Value → H → Prop} (hk : ∀ y σ, K y σ → K' y σ) (hp : ∀ v σ, Kp v σ → Kp' v σ) (h : vcCall P c t σ K Kp) : vcCall P c t σ K' Kp' := by
  have he : ∀ e σ, endK K Kp e σ → endK K' Kp' e σ := by
    intro e σ h
    cases e
    · exact hk _ _ h
    · exact hp _ _ h
  unfold vcCall at h ⊢
  split at h <;> try (exact h.elim)
  split at h
  · unfold vcBuiltin at h ⊢
    split at h <;> try (exact h.elim)
    · split at h <;> first | exact hk _ _ h | exact h.elim
    · exact ⟨h.1, AAppend_mono hk h.2⟩
    · exact hk _ _ h
    · exact hk _ _ h
  · refine one_mono (fun y hy => ?_) h
    split at hy
    · exact hy.mono he
    · exact hy.elim
  · refine one_mono (fun y hy => ?_) h
    split at hy
    · obtain ⟨f, x', h1, h2⟩ := hy; exact ⟨f, x', h1, h2.mono he⟩
    · exact hy.elim

theorem vcOp_mono {o : Oper} {t : T} {K K' : AV → H → Prop} {Kp Kp' : Value → H → Prop} (hk : ∀ y σ, K y σ → K' y σ) (hp : ∀ v σ, Kp v σ → Kp' v σ) (h : vcOp P rob o t σ K Kp) : vcOp P rob o t σ K' Kp' := by
  obtain ⟨dst, op, type, pos, after, guard⟩ := o
  have hk' : ∀ y, K y σ → K' y σ := fun y => hk y σ
  cases op <;> simp only [vcOp] at h ⊢ <;> try (exact h.elim)
  case move x => exact one_mono hk' h
  case assign x => exact one_mono hk' h
  case pick c a b =>
    refine one_mono (fun y hy => ?_) h
    split at hy
    · exact pickK_mono hk' hy
    · exact hy.elim
  case load ty x =>
    refine one_mono (fun y hy => ?_) h
    split at hy <;> first | exact hk _ _ hy | exact hy.elim
  case store ty x y =>
    refine one_mono (fun p hp => one_mono (fun z hz => ?_) hp) h
    split at hz
    · exact ⟨hz.1, hz.2.1, hk _ _ hz.2.2⟩
    · exact hz.elim
  case box ty x =>
    refine one_mono (fun y hy => ⟨hy.1, ?_⟩) h
    have h2 := hy.2
    split at h2
    · rename_i hr; rw [if_pos hr]; exact hk _ _ h2
    · rename_i hr; rw [if_neg hr]; exact fun b hb => hk _ _ (h2 b hb)
  case alloc ty =>
    split at h <;> try (exact h.elim)
    split at h
    · rename_i hr; rw [if_pos hr]; exact hk _ _ h
    · rename_i hr; rw [if_neg hr]; exact fun b hb => hk _ _ (h b hb)
  case build ty ps =>
    split at h <;> try (exact h.elim)
    split at h <;> first | exact hk _ _ h | exact h.elim
  case buildSlice ty len ps =>
    split at h <;> try (exact h.elim)
    split at h <;> try (exact h.elim)
    obtain ⟨h1, h2, h3, h4, h5⟩ := h
    refine ⟨h1, h2, h3, h4, ?_⟩
    split at h5
    · rename_i hr; rw [if_pos hr]; exact hk _ _ h5
    · rename_i hr; rw [if_neg hr]; exact fun b hb => hk _ _ (h5 b hb)
  case nilCheck x =>
    refine one_mono (fun y hy => ?_) h
    split at hy <;> first | exact hk _ _ hy | exact hy.elim
  case binOp op ty x y ty' =>
    refine one_mono (fun p hp => one_mono (fun z hz => ?_) hp) h
    split at hz
    · exact ⟨hz.1, hk _ _ hz.2⟩
    · exact hz.elim
  case unOp op ty x =>
    refine one_mono (fun y hy => ?_) h
    split at hy <;> first | exact hk _ _ hy | exact hy.elim
  case convert s d x =>
    refine one_mono (fun y hy => ?_) h
    split at hy
    · exact ⟨hy.1, hk _ _ hy.2⟩
    · exact hy.elim
  case makeInterface ty x =>
    refine one_mono (fun y hy => ?_) h
    split at hy
    · split at hy <;> first | exact hk _ _ hy | exact hy.elim
    · exact hy.elim
  case makeFunc fn f c =>
    split at h <;> try (exact h.elim)
    split at h <;> first | exact hk _ _ h | exact h.elim
  case makeSlice ty x y =>
    refine one_mono (fun p hp => one_mono (fun z hz => ?_) hp) h
    split at hz
    · exact AMake_mono hk hz
    · exact hz.elim
  case slice ty x lo hi mx =>
    cases mx with
    | some m => exact h.elim
    | none =>
      simp only [vcOp] at h ⊢
      exact one_mono (fun y hy => vcSlice_mono hk' hy) h
  case fieldAddr s x f =>
    refine one_mono (fun y hy => ?_) h
    split at hy <;> try (exact hy.elim)
    split at hy <;> first | exact hk _ _ hy | exact hy.elim
  case field s x f =>
    refine one_mono (fun y hy => ?_) h
    split at hy <;> first | exact hk _ _ hy | exact hy.elim
  case indexAddr ty x i =>
    refine one_mono (fun p hp => one_mono (fun z hz => ?_) hp) h
    split at hz
    · exact ⟨hz.1, aindex_mono hk' hz.2⟩
    · exact hz.elim
  case index ty x i =>
    refine one_mono (fun p hp => one_mono (fun z hz => ?_) hp) h
    split at hz
    · exact ⟨hz.1, hk _ _ hz.2⟩
    · exact hz.elim
  case extract x i =>
    refine one_mono (fun y hy => ?_) h
    split at hy <;> try (exact hy.elim)
    split at hy <;> first | exact hk _ _ hy | exact hy.elim
  case panic x =>
    refine one_mono (fun y hy => ?_) h
    split at hy
    · exact hp _ _ hy
    · exact hy.elim
  case call c => exact vcCall_mono hk hp h

theorem vcG_mono {ops : Array Oper} {o : Oper} {t : T} {K K' : AV → H → Prop} {Kp Kp' : Value → H → Prop} (hk : ∀ y σ, K y σ → K' y σ) (hp : ∀ v σ, Kp v σ → Kp' v σ) (h : vcG P rob ops o t σ K Kp) : vcG P rob ops o t σ K' Kp' := by
  unfold vcG at h ⊢
  split at h
  · exact vcOp_mono hk hp h
  · split at h <;> try (exact h.elim)
    split at h <;> try (exact h.elim)
    · exact ⟨fun hq => vcOp_mono hk hp (h.1 hq), fun hq => hk _ _ (h.2 hq)⟩
    · exact hk _ _ h

def wOf (W : Nat → Prop) (o : Oper) (b : Nat) : Prop := noEffect o.op = false ∧ W b
def QN (Q : AQ) (t : T) (σ : H) : Prop := ∃ t' : T, (∀ i x, t'.get i = some x → t.get i = some x) ∧ Q .normal t' σ

def awpAny (P : Program) (n : Nat) (rob : Nat → Bool) (W : Nat → Prop) (ops : Array Oper) (Q : AQ) : Nat → Array Bool → T → H → Prop
  | 0, listed, t, σ => Region.ready .any ops listed = [] ∧ QN Q t σ
  | f + 1, listed, t, σ => (Region.ready .any ops listed = [] → QN Q t σ) ∧
      ∀ i ∈ Region.ready .any ops listed, ∃ o, ops[i]? = some o ∧ dstOk n o.dst = true ∧
        vcG P rob ops o t σ (fun y σ' => Stab (wOf W o) σ σ' ∧ awpAny P n rob W ops Q f (listed.setIfInBounds i true) (t.put o.dst y) σ') (fun v σ' => Q (.pan v) [] σ')

theorem wpOp_mono2 {ops : Array Oper} {Q Q' : Exit → Act → World → Prop} {i : Nat} {a : Act} {w : World} {K K' : Act → World → Prop} (h : ∀ a w, K a w → K' a w) (hq : ∀ e a w, Q e a w → Q' e a w)
    (hh : wpOp P ops Q i K a w) : wpOp P ops Q' i K' a w := by
  unfold wpOp at *
  split
  · exact h _ _ (by simpa [*] using hh)
  · rename_i o ho
    simp only [ho] at hh
    split
    · rename_i hw
      simp only [hw, if_true] at hh
      rcases hh with hh | ⟨h1, a1, w1, h2⟩
      · exact .inl (Oper.wp_mono2 h hq hh)
      · exact .inr ⟨h1, a1, w1, hq _ _ _ h2⟩
    · rename_i hw; simp only [hw] at hh; exact h _ _ hh

theorem wpAny_mono {ops : Array Oper} {Q Q' : Exit → Act → World → Prop} (hq : ∀ e a w, Q e a w → Q' e a w) : ∀ (f : Nat) (listed : Array Bool) (a : Act) (w : World), wpAny P .any ops Q f listed a w → wpAny P .any ops Q' f listed a w
  | 0, _, _, _, h => ⟨h.1, hq _ _ _ h.2⟩
  | f + 1, _, _, _, h => ⟨fun h0 => hq _ _ _ (h.1 h0), fun i hi => wpOp_mono2 (wpAny_mono hq f _) hq (h.2 i hi)⟩

theorem QN.good {Q : AQ} {t : T} {a : Act} {w : World} (h : QN Q t σ) (hT : TR t a.tmps w (dom σ)) (hR : HR σ w) (hd : a.defers = []) (hs : a.tmps.size = n) : γ n Q σ w .normal a w := by
  obtain ⟨t', h1, h2⟩ := h
  exact ⟨hd, hs, t', σ, h2, fun i x hx => hT i x (h1 i x hx), hR, Le.refl _ _, DomOk.refl _ _⟩

theorem awpAny_sound {W : Nat → Prop} {ops : Array Oper} {Q : AQ} : ∀ (f : Nat) (listed : Array Bool) (t : T) (σ : H) (a : Act) (w : World), awpAny P n rob W ops Q f listed t σ → TR t a.tmps w (dom σ) → HR σ w → a.defers = [] → a.tmps.size = n →
    wpAny P .any ops (γ n Q σ w) f listed a w
  | 0, listed, t, σ, a, w, h, hT, hR, hd, hs => ⟨h.1, h.2.good hT hR hd hs⟩
  | f + 1, listed, t, σ, a, w, h, hT, hR, hd, hs => by
    refine ⟨fun h0 => (h.1 h0).good hT hR hd hs, fun i hi => ?_⟩
    obtain ⟨o, ho, hdst, hv⟩ := h.2 i hi
    have cont : vcOp P rob o t σ (fun y σ' => Stab (wOf W o) σ σ' ∧ awpAny P n rob W ops Q f (listed.setIfInBounds i true) (t.put o.dst y) σ') (fun v σ' => Q (.pan v) [] σ') →
        o.wp P a w (wpAny P .any ops (γ n Q σ w) f (listed.setIfInBounds i true)) (γ n Q σ w) := by
      intro h'
      refine vcOp_sound h' hT hR (fun y u σ' w' hk hv hR' hle hdo => ?_) (fun v σ' w' hp hR' hle hdo => ?_)
      · have := awpAny_sound f _ (t.put o.dst y) σ' (a.put o.dst u) w' hk.2 ((hT.mono hle hdo).put hs hdst hv) hR' (by rw [put_defers]; exact hd) (by rw [put_size]; exact hs)
        exact wpAny_mono (fun e a'' w'' hq => hq.trans hle hdo) f _ _ _ this
      · exact ⟨v, rfl, hd, hs, [], σ', hp, (fun i x hx => by cases hx), hR', hle, hdo⟩
    have skip : Stab (wOf W o) σ σ ∧ awpAny P n rob W ops Q f (listed.setIfInBounds i true) (t.put o.dst (.v undef)) σ → wpAny P .any ops (γ n Q σ w) f (listed.setIfInBounds i true) (a.put o.dst undef) w := by
      intro h'
      exact awpAny_sound f _ _ σ _ w h'.2 (hT.put hs hdst (.v _)) hR (by rw [put_defers]; exact hd) (by rw [put_size]; exact hs)
    unfold wpOp
    simp only [ho]
    unfold vcG at hv
    split at hv
    · rename_i hg
      rw [if_pos (by simp [Region.wanted, hg])]
      exact .inl (cont hv)
    · rename_i j want hg
      split at hv <;> try (exact hv.elim)
      rename_i d hd'
      have hy : ∀ v, a.tmps[d]? = some v → yielded ops a.tmps j = (match v with | .bool b => some b | _ => none) := by
        intro v hv
        unfold yielded
        rw [hd']
        simp only [Option.bind_some, hv]
        split <;> simp_all
      split at hv <;> try (exact hv.elim)
      · rename_i q hq
        obtain ⟨v, hv1, hv2⟩ := hT d _ hq
        cases hv2
        by_cases hqw : q = want
        · rw [if_pos (by simp [Region.wanted, hg, hy _ hv1, hqw])]
          exact .inl (cont (hv.1 hqw))
        · have hqn : q = !want := by cases q <;> cases want <;> simp_all
          rw [if_neg (by simp [Region.wanted, hg, hy _ hv1, hqw])]
          exact skip (hv.2 hqn)
      · rename_i vs hq
        obtain ⟨v, hv1, hv2⟩ := hT d _ hq
        cases hv2
        rw [if_neg (by simp [Region.wanted, hg, hy _ hv1])]
        exact skip hv

theorem QN.congr {Q : AQ} {t t' : T} (h : QN Q t σ) (ht : ∀ d, t.get d = t'.get d) : QN Q t' σ := by
  obtain ⟨t1, h1, h2⟩ := h
  exact ⟨t1, fun i x hx => by rw [← ht i]; exact h1 i x hx, h2⟩
theorem put_get_congr {t t' : T} (ht : ∀ d, t.get d = t'.get d) (dst : Option Tmp) (y : AV) : ∀ d, (t.put dst y).get d = (t'.put dst y).get d := by
  intro d
  cases dst with
  | none => exact ht d
  | some k => simp only [T.put, T.get]; rw [ht d]
theorem awpAny_congr {W : Nat → Prop} {ops : Array Oper} {Q : AQ} : ∀ (f : Nat) (listed : Array Bool) (t t' : T) (σ : H), (∀ d, t.get d = t'.get d) → awpAny P n rob W ops Q f listed t σ → awpAny P n rob W ops Q f listed t' σ
  | 0, listed, t, t', σ, ht, h => ⟨h.1, h.2.congr ht⟩
  | f + 1, listed, t, t', σ, ht, h => by
    refine ⟨fun h0 => (h.1 h0).congr ht, fun i hi => ?_⟩
    obtain ⟨o, ho, hdst, hv⟩ := h.2 i hi
    refine ⟨o, ho, hdst, ?_⟩
    rw [vcG_congr (t' := t) (fun d _ => (ht d).symm)]
    exact vcG_mono (fun y σ' hk => ⟨hk.1, awpAny_congr f _ _ _ σ' (put_get_congr ht o.dst y) hk.2⟩) (fun _ _ h => h) hv

theorem put_get_ne {t : T} {dst : Option Tmp} {y : AV} {d : Nat} (h : dst ≠ some d) : (t.put dst y).get d = t.get d := by
  cases dst with
  | none => rfl
  | some k =>
    simp only [T.put, T.get]
    rw [if_neg (fun he => h (by rw [he]))]
theorem put_get_self {t : T} {k : Nat} {y : AV} : (t.put (some k) y).get k = some y := by simp [T.put, T.get]
theorem put_comm {t : T} {x y : Option Tmp} {u v : AV} (h : ∀ d, x = some d → y ≠ some d) : ∀ d, ((t.put x u).put y v).get d = ((t.put y v).put x u).get d := by
  intro d
  by_cases hx : x = some d
  · subst hx
    rw [put_get_ne (h d rfl), put_get_self, put_get_self]
  · by_cases hy : y = some d
    · subst hy
      rw [put_get_self, put_get_ne hx, put_get_self]
    · rw [put_get_ne hy, put_get_ne hx, put_get_ne hx, put_get_ne hy]

theorem YG.shift {W : Nat → Prop} {ops : Array Oper} {o : Oper} {y : AV} {t t' : T} {σ' : H} (h : YG P rob W ops o y t σ) (ha : Agree ops o t' t) (hs : Stab W σ σ') : YG P rob W ops o y t' σ' :=
  fun t2 σ2 h2 hs2 K Kp hk => h t2 σ2 (fun d hd => (h2 d hd).trans (ha d hd)) (hs.trans hs2) K Kp hk

/-- **A pure operation that may come up now may be taken first.** -/
theorem awpAny_first {W Wi : Nat → Prop} {ops : Array Oper} {Q : AQ} {i : Nat} {oi : Oper} {y : AV} {S : List Nat} (hi : ops[i]? = some oi) (hdst : dstOk n oi.dst = true)
    (hS : ∀ j ∈ S, ∃ oj, ops[j]? = some oj ∧ ∃ e ∈ oj.after, Region.binds .any e = true ∧ (e.on = i ∨ e.on ∈ S)) :
    ∀ (f : Nat) (listed : Array Bool) (t : T) (σ : H),
      (∀ j oj, ops[j]? = some oj → j ≠ i → listed.getD j true = false → (∀ e ∈ oj.after, Region.binds .any e = true → e.on ≠ i) → oi.apart ops oj = true) →
      (∀ j oj, ops[j]? = some oj → j ≠ i → listed.getD j true = false → j ∉ S → ∀ b, wOf W oj b → Wi b) →
      (∀ j ∈ S, listed.getD j false = false) →
      i ∈ Region.ready .any ops listed → YG P rob Wi ops oi y t σ →
      awpAny P n rob W ops Q f (listed.setIfInBounds i true) (t.put oi.dst y) σ → awpAny P n rob W ops Q (f + 1) listed t σ := by
  intro f
  induction f with
  | zero =>
    intro listed t σ _ _ _ hr hy H
    refine ⟨fun h => (by rw [h] at hr; cases hr), fun j hj => ?_⟩
    by_cases hji : j = i
    · subst hji
      exact ⟨oi, hi, hdst, hy t σ (fun _ _ => rfl) (Stab.refl _ _) _ _ ⟨Stab.refl _ _, H⟩⟩
    · have := ready_mono hj hji
      rw [H.1] at this
      cases this
  | succ f ih =>
    intro listed t σ hfree hstab hcl hr hy H
    refine ⟨fun h => (by rw [h] at hr; cases hr), fun j hj => ?_⟩
    by_cases hji : j = i
    · subst hji
      exact ⟨oi, hi, hdst, hy t σ (fun _ _ => rfl) (Stab.refl _ _) _ _ ⟨Stab.refl _ _, H⟩⟩
    · obtain ⟨oj, hoj, hdj, hv⟩ := H.2 j (ready_mono hj hji)
      obtain ⟨hjun, oj', hoj', hall⟩ := mem_ready.1 hj
      rw [hoj] at hoj'
      cases hoj'
      have hiun := (mem_ready.1 hr).1
      have getF : ∀ k, listed.getD k true = false → listed.getD k false = false := by
        intro k hk
        rcases Nat.lt_or_ge k listed.size with h' | h'
        · simp [h'] at hk ⊢; exact hk
        · simp [Array.getElem?_eq_none h'] at hk
      have hnot : ∀ e ∈ oj.after, Region.binds .any e = true → e.on ≠ i := fun e he hb heq => by
        have h1 := hall e he hb
        rw [heq, getF i hiun] at h1
        cases h1
      have hjS : j ∉ S := by
        intro hjs
        obtain ⟨ok, hok, e, he, hb, hor⟩ := hS j hjs
        rw [hoj] at hok
        cases hok
        have h1 := hall e he hb
        rcases hor with h2 | h2
        · rw [h2, getF i hiun] at h1; cases h1
        · rw [hcl _ h2] at h1; cases h1
      have hap := hfree j oj hoj hji hjun hnot
      obtain ⟨ha1, ha2, ha3⟩ := Oper.apart_spec hap
      have agj : Agree ops oj t (t.put oi.dst y) := fun d hd => (put_get_ne (fun he => ha1 d he hd)).symm
      refine ⟨oj, hoj, hdj, ?_⟩
      rw [vcG_congr agj]
      refine vcG_mono (fun z σ' hk => ⟨hk.1, ?_⟩) (fun _ _ h => h) hv
      have agi : Agree ops oi (t.put oj.dst z) t := fun d hd => put_get_ne (fun he => ha3 d he hd)
      refine ih (listed.setIfInBounds j true) (t.put oj.dst z) σ' ?_ ?_ ?_ (ready_mono hr (Ne.symm hji)) (hy.shift agi (hk.1.mono (hstab j oj hoj hji hjun hjS))) ?_
      · intro k ok hk' hki hun hno
        refine hfree k ok hk' hki ?_ hno
        by_cases hjk : j = k
        · subst hjk; exact hjun
        · rw [getD_set_ne true hjk] at hun; exact hun
      · intro k ok hk' hki hun hkS
        refine hstab k ok hk' hki ?_ hkS
        by_cases hjk : j = k
        · subst hjk; exact hjun
        · rw [getD_set_ne true hjk] at hun; exact hun
      · intro k hk'
        have hjk : j ≠ k := fun he => hjS (he ▸ hk')
        rw [getD_set_ne false hjk]; exact hcl k hk'
      · rw [Array.setIfInBounds_comm _ _ hji]
        exact awpAny_congr f _ _ _ σ' (put_comm ha2) hk.2
end
end Go.Ag
