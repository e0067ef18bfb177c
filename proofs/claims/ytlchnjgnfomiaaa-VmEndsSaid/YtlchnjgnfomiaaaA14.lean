/- A part of the proof: A14. -/
import Derived.Test.YtlchnjgnfomiaaaA13
set_option linter.unusedSimpArgs false
set_option linter.unusedVariables false
namespace Go.Ag
open Go

/-- How a region that draws is gone through: a pure operation first (S: what waits for it; flag: something that writes may come up beside it); all that may come up. -/
inductive Plan where
  | done
  | stop
  | first (i : Nat) (S : List Nat) (flag : Bool) (p : Plan)
  | alt (i : Nat) (p rest : Plan)

/-- The blocks to which temporaries lead. -/
def Wof (t : T) (wl : List Tmp) (b : Nat) : Prop :=
  ∃ i ∈ wl, match t.get i with
    | some (.v (.pointer (some a))) => b = a.block
    | some (.at c _ _ _) => b = c
    | some (.sl c _ _ _) => b = c
    | some (.win c _ _ _) => b = c
    | _ => False

def Wif (flag : Bool) (W : Nat → Prop) (b : Nat) : Prop := flag = true ∧ W b

def vcPlan (P : Program) (n : Nat) (rob : Nat → Bool) (W : Nat → Prop) (ops : Array Oper) (Q : AQ) : Plan → T → H → Prop
  | .done, t, σ => Q .normal t σ
  | .stop, _, _ => True
  | .first i _ flag p, t, σ => match ops[i]? with
    | some o => dstOk n o.dst = true ∧ vpG P rob (Wif flag W) ops o t σ (fun y => vcPlan P n rob W ops Q p (t.put o.dst y) σ)
    | none => False
  | .alt i p rest, t, σ => (match ops[i]? with
    | some o => dstOk n o.dst = true ∧ vcG P rob ops o t σ (fun y σ' => (noEffect o.op = false → Stab W σ σ') ∧ vcPlan P n rob W ops Q p (t.put o.dst y) σ') (fun v σ' => Q (.pan v) [] σ')
    | none => False) ∧ vcPlan P n rob W ops Q rest t σ

def okS (ops : Array Oper) (i : Nat) (S : List Nat) : Bool :=
  S.all fun j => match ops[j]? with
    | some oj => oj.after.any fun e => Region.binds .any e && (e.on == i || S.contains e.on)
    | none => false
/-- need: in a chain of alternatives, those that are still to come. -/
def okPlan (ops : Array Oper) : Plan → Option (List Nat) → Nat → Array Bool → Bool
  | .done, none, _, listed => (Region.ready .any ops listed).isEmpty
  | .first i S flag p, none, f + 1, listed => (Region.ready .any ops listed).contains i && Region.free .any ops listed i && okS ops i S && S.all (fun j => !listed.getD j false) &&
      (flag || (List.range ops.size).all fun j => j == i || listed.getD j true || S.contains j || ((ops[j]?).map fun o => noEffect o.op).getD true) && okPlan ops p none f (listed.setIfInBounds i true)
  | .alt i p rest, none, f + 1, listed => (match Region.ready .any ops listed with
    | k :: l => k == i && okPlan ops p none f (listed.setIfInBounds i true) && okPlan ops rest (some l) (f + 1) listed
    | [] => false)
  | .alt i p rest, some (k :: l), f + 1, listed => k == i && okPlan ops p none f (listed.setIfInBounds i true) && okPlan ops rest (some l) (f + 1) listed
  | .stop, some [], _, _ => true
  | _, _, _, _ => false

section
variable {P : Program} {rob : Nat → Bool} {σ : H} {n : Nat}

theorem notIn_false (x : AV) : notIn (fun _ => False) x := by
  unfold notIn; split <;> first | exact fun h => h | trivial
theorem stab_upd {b : Nat} {o : AObj} {W : Nat → Prop} (hb : σ b = none) : Stab W σ (σ.upd b o) := by
  intro c o' hc _
  rw [upd_ne]; exact hc
  rintro rfl; rw [hb] at hc; cases hc

theorem vcOp_pure {o : Oper} {t : T} {K K' : AV → H → Prop} {Kp Kp' : Value → H → Prop} (hp : isPure o.op = true) (hk : ∀ y, K y σ → K' y σ) (h : vcOp P rob o t σ K Kp) : vcOp P rob o t σ K' Kp' := by
  obtain ⟨dst, op, type, pos, after, guard⟩ := o
  cases op <;> simp only [isPure] at hp <;> try (cases hp; done)
  all_goals simp only [vcOp] at h ⊢
  case move x => exact one_mono hk h
  case assign x => exact one_mono hk h
  case pick c a b =>
    refine one_mono (fun y hy => ?_) h
    split at hy
    · exact pickK_mono hk hy
    · exact hy.elim
  case load ty x =>
    refine one_mono (fun y hy => ?_) h
    split at hy <;> first | exact hk _ hy | exact hy.elim
  case build ty ps =>
    split at h <;> try (exact h.elim)
    split at h <;> first | exact hk _ h | exact h.elim
  case nilCheck x =>
    refine one_mono (fun y hy => ?_) h
    split at hy <;> first | exact hk _ hy | exact hy.elim
  case binOp op ty x y ty' =>
    refine one_mono (fun p hp => one_mono (fun z hz => ?_) hp) h
    split at hz
    · exact ⟨hz.1, hk _ hz.2⟩
    · exact hz.elim
  case unOp op ty x =>
    refine one_mono (fun y hy => ?_) h
    split at hy <;> first | exact hk _ hy | exact hy.elim
  case convert s d x =>
    refine one_mono (fun y hy => ?_) h
    split at hy
    · exact ⟨hy.1, hk _ hy.2⟩
    · exact hy.elim
  case makeInterface ty x =>
    refine one_mono (fun y hy => ?_) h
    split at hy
    · split at hy <;> first | exact hk _ hy | exact hy.elim
    · exact hy.elim
  case makeFunc fn f c =>
    split at h <;> try (exact h.elim)
    split at h <;> first | exact hk _ h | exact h.elim
  case slice ty x lo hi mx =>
    cases mx with
    | some m => exact h.elim
    | none =>
      simp only [vcOp] at h ⊢
      exact one_mono (fun y hy => vcSlice_mono hk hy) h
  case fieldAddr s x f =>
    refine one_mono (fun y hy => ?_) h
    split at hy <;> try (exact hy.elim)
    split at hy <;> first | exact hk _ hy | exact hy.elim
  case field s x f =>
    refine one_mono (fun y hy => ?_) h
    split at hy <;> first | exact hk _ hy | exact hy.elim
  case indexAddr ty x i =>
    refine one_mono (fun p hp => one_mono (fun z hz => ?_) hp) h
    split at hz
    · exact ⟨hz.1, aindex_mono hk hz.2⟩
    · exact hz.elim
  case index ty x i =>
    refine one_mono (fun p hp => one_mono (fun z hz => ?_) hp) h
    split at hz
    · exact ⟨hz.1, hk _ hz.2⟩
    · exact hz.elim
  case extract x i =>
    refine one_mono (fun y hy => ?_) h
    split at hy <;> try (exact hy.elim)
    split at hy <;> first | exact hk _ hy | exact hy.elim
  case call c =>
    unfold vcCall at h ⊢
    split at h <;> try (exact h.elim)
    obtain ⟨callee, args, tys⟩ := c
    cases callee with
    | value f => cases hp
    | invoke r m => cases hp
    | builtin b =>
    dsimp only at h hp ⊢
    unfold vcBuiltin at h ⊢
    split at h <;> try (exact h.elim)
    · split at h <;> first | exact hk _ h | exact h.elim
    · cases hp
    · exact hk _ h
    · exact hk _ h

theorem vcOp_stab {o : Oper} {t : T} {K : AV → H → Prop} {Kp : Value → H → Prop} (hn : noEffect o.op = true) (h : vcOp P rob o t σ K Kp) : vcOp P rob o t σ (fun y σ' => Stab (fun _ => False) σ σ' ∧ K y σ') Kp := by
  by_cases hp : isPure o.op = true
  · have h1 : vp P rob (fun _ => False) o t σ (fun y => K y σ) := by
      refine ⟨hp, ?_, ?_⟩
      · split
        · rename_i ty x hx
          have : vcOp P rob o t σ K Kp := h
          unfold vcOp at this
          rw [hx] at this
          obtain ⟨y, hy, _⟩ := one_elim this
          exact one_intro hy (notIn_false y)
        · trivial
      · -- a pure operation leaves the heap
        exact vcOp_pure hp (fun y hy => hy) h
    obtain ⟨y, h2, h3⟩ := vp_yields h1
    exact h3 t σ (fun _ _ => rfl) (Stab.refl _ _) _ _ ⟨Stab.refl _ _, h2⟩
  · obtain ⟨dst, op, type, pos, after, guard⟩ := o
    cases op <;> simp only [noEffect] at hn <;> try (exact absurd hn hp)
    case box ty x =>
      simp only [vcOp] at h ⊢
      refine one_mono (fun y hy => ⟨hy.1, ?_⟩) h
      have h2 := hy.2
      split at h2
      · rename_i hr; rw [if_pos hr]; exact ⟨Stab.refl _ _, h2⟩
      · rename_i hr; rw [if_neg hr]; exact fun b hb => ⟨stab_upd hb, h2 b hb⟩
    case alloc ty =>
      simp only [vcOp] at h ⊢
      split at h <;> try (exact h.elim)
      split at h
      · rename_i hr; rw [if_pos hr]; exact ⟨Stab.refl _ _, h⟩
      · rename_i hr; rw [if_neg hr]; exact fun b hb => ⟨stab_upd hb, h b hb⟩
    case buildSlice ty len ps =>
      simp only [vcOp] at h ⊢
      split at h <;> try (exact h.elim)
      split at h <;> try (exact h.elim)
      obtain ⟨h1, h2, h3, h4, h5⟩ := h
      refine ⟨h1, h2, h3, h4, ?_⟩
      split at h5
      · rename_i hr; rw [if_pos hr]; exact ⟨Stab.refl _ _, h5⟩
      · rename_i hr; rw [if_neg hr]; exact fun b hb => ⟨stab_upd hb, h5 b hb⟩
    case makeSlice ty x y =>
      simp only [vcOp] at h ⊢
      refine one_mono (fun p hp => one_mono (fun z hz => ?_) hp) h
      split at hz
      · unfold AMake at hz ⊢
        split at hz <;> try (exact hz.elim)
        split at hz <;> try (exact hz.elim)
        exact ⟨hz.1, hz.2.1, hz.2.2.1, hz.2.2.2.1, hz.2.2.2.2.1, fun b hb => ⟨stab_upd hb, hz.2.2.2.2.2 b hb⟩⟩
      · exact hz.elim

theorem vcG_stab {ops : Array Oper} {o : Oper} {t : T} {W : Nat → Prop} {K : AV → H → Prop} {Kp : Value → H → Prop} (h : vcG P rob ops o t σ (fun y σ' => (noEffect o.op = false → Stab W σ σ') ∧ K y σ') Kp) :
    vcG P rob ops o t σ (fun y σ' => Stab (wOf W o) σ σ' ∧ K y σ') Kp := by
  cases hn : noEffect o.op with
  | false =>
    refine vcG_mono (fun y σ' hk => ⟨(hk.1 hn).mono (fun b hb => ⟨hn, hb⟩), hk.2⟩) (fun _ _ h => h) h
  | true =>
    unfold vcG at h ⊢
    have st : ∀ {K : AV → H → Prop}, vcOp P rob o t σ (fun y σ' => (noEffect o.op = false → Stab W σ σ') ∧ K y σ') Kp → vcOp P rob o t σ (fun y σ' => Stab (wOf W o) σ σ' ∧ K y σ') Kp := fun h =>
      vcOp_mono (fun y σ' hk => ⟨hk.1.mono (fun b hb => hb.elim), hk.2.2⟩) (fun _ _ h => h) (vcOp_stab hn h)
    split at h
    · exact st h
    · split at h <;> try (exact h.elim)
      split at h <;> try (exact h.elim)
      · exact ⟨fun hq => st (h.1 hq), fun hq => ⟨Stab.refl _ _, (h.2 hq).2⟩⟩
      · exact ⟨Stab.refl _ _, h.2⟩

theorem vcPlan_both {W : Nat → Prop} {ops : Array Oper} {Q : AQ} : ∀ (p : Plan) (listed : Array Bool) (f : Nat) (t : T) (σ : H), vcPlan P n rob W ops Q p t σ →
    (okPlan ops p none f listed = true → awpAny P n rob W ops Q f listed t σ) ∧
    ∀ l f', okPlan ops p (some l) (f' + 1) listed = true → ∀ i ∈ l, ∃ o, ops[i]? = some o ∧ dstOk n o.dst = true ∧
        vcG P rob ops o t σ (fun y σ' => Stab (wOf W o) σ σ' ∧ awpAny P n rob W ops Q f' (listed.setIfInBounds i true) (t.put o.dst y) σ') (fun v σ' => Q (.pan v) [] σ') := by
  intro p
  induction p with
  | done =>
    intro listed f t σ h
    refine ⟨fun hok => ?_, fun l f' hok => by simp [okPlan] at hok⟩
    simp only [okPlan, List.isEmpty_iff] at hok
    have hq : QN Q t σ := ⟨t, fun _ _ h => h, h⟩
    cases f with
    | zero => exact ⟨hok, hq⟩
    | succ f => exact ⟨fun _ => hq, fun i hi => by rw [hok] at hi; cases hi⟩
  | stop =>
    intro listed f t σ h
    refine ⟨fun hok => by simp [okPlan] at hok, fun l f' hok i hi => ?_⟩
    cases l with
    | nil => cases hi
    | cons k l => simp [okPlan] at hok
  | first i S flag p ih =>
    intro listed f t σ h
    refine ⟨fun hok => ?_, fun l f' hok => by simp [okPlan] at hok⟩
    cases f with
    | zero => simp [okPlan] at hok
    | succ f =>
    simp only [okPlan, Bool.and_eq_true] at hok
    obtain ⟨⟨⟨⟨⟨hr, hf⟩, hS⟩, hun⟩, hfl⟩, hp⟩ := hok
    simp only [vcPlan] at h
    split at h <;> try (exact h.elim)
    rename_i oi hoi
    obtain ⟨hd, h⟩ := h
    obtain ⟨y, hk, hy⟩ := vpG_yields h
    have hunl : ∀ j ∈ S, listed.getD j false = false := fun j hj => by
      have := List.all_eq_true.1 hun j hj; simpa using this
    refine awpAny_first (Wi := Wif flag W) (S := S) hoi hd (fun j hj => ?_) f listed t σ (fun j oj hj hne hu hno => Region.free_spec hoi hf j oj hj hne hu hno) (fun j oj hj hne hu hjS b hb => ?_) hunl (by simpa using hr) hy ((ih _ f _ σ hk).1 hp)
    · have h1 := List.all_eq_true.1 hS j hj
      split at h1 <;> try (cases h1; done)
      rename_i oj hoj
      obtain ⟨e, he, hb⟩ := Array.any_eq_true'.1 h1
      simp only [Bool.and_eq_true, Bool.or_eq_true, beq_iff_eq, List.contains_iff_mem] at hb
      exact ⟨oj, hoj, e, he, hb.1, hb.2⟩
    · simp only [Bool.or_eq_true] at hfl
      rcases hfl with hfl | hfl
      · exact ⟨hfl, hb.2⟩
      · have hjl : j < ops.size := (Array.getElem?_eq_some_iff.1 hj).1
        have h1 := List.all_eq_true.1 hfl j (List.mem_range.2 hjl)
        simp only [Bool.or_eq_true, beq_iff_eq, hu, hj, Option.map_some, Option.getD_some, List.contains_iff_mem] at h1
        rcases h1 with ((h1 | h1) | h1) | h1
        · exact absurd h1 hne
        · cases h1
        · exact absurd h1 hjS
        · have := hb.1; rw [h1] at this; cases this
  | alt i p rest ih1 ih2 =>
    intro listed f t σ h
    simp only [vcPlan] at h
    obtain ⟨h1, h2⟩ := h
    have step : ∀ f', okPlan ops p none f' (listed.setIfInBounds i true) = true → ∃ o, ops[i]? = some o ∧ dstOk n o.dst = true ∧
        vcG P rob ops o t σ (fun y σ' => Stab (wOf W o) σ σ' ∧ awpAny P n rob W ops Q f' (listed.setIfInBounds i true) (t.put o.dst y) σ') (fun v σ' => Q (.pan v) [] σ') := by
      intro f' hok
      split at h1 <;> try (exact h1.elim)
      rename_i o ho
      exact ⟨o, ho, h1.1, vcG_stab (vcG_mono (fun y σ' hk => ⟨hk.1, (ih1 _ f' _ σ' hk.2).1 hok⟩) (fun _ _ h => h) h1.2)⟩
    have chain : ∀ l f', okPlan ops (.alt i p rest) (some l) (f' + 1) listed = true → ∀ j ∈ l, ∃ o, ops[j]? = some o ∧ dstOk n o.dst = true ∧
        vcG P rob ops o t σ (fun y σ' => Stab (wOf W o) σ σ' ∧ awpAny P n rob W ops Q f' (listed.setIfInBounds j true) (t.put o.dst y) σ') (fun v σ' => Q (.pan v) [] σ') := by
      intro l f' hok j hj
      cases l with
      | nil => cases hj
      | cons k l =>
        simp only [okPlan, Bool.and_eq_true, beq_iff_eq] at hok
        obtain ⟨⟨rfl, hp⟩, hrest⟩ := hok
        rcases List.mem_cons.1 hj with rfl | hj
        · exact step f' hp
        · exact (ih2 listed 0 t σ h2).2 l f' hrest j hj
    refine ⟨fun hok => ?_, chain⟩
    cases f with
    | zero => simp [okPlan] at hok
    | succ f =>
      have hok' : okPlan ops (.alt i p rest) (some (Region.ready .any ops listed)) (f + 1) listed = true := by
        simp only [okPlan] at hok
        split at hok
        · rename_i k l hkl
          rw [hkl]
          simpa only [okPlan] using hok
        · cases hok
      refine ⟨fun h0 => ?_, fun j hj => chain _ f hok' j hj⟩
      rw [h0] at hok'
      simp [okPlan] at hok'

theorem vcPlan_sound {W : Nat → Prop} {ops : Array Oper} {Q : AQ} (p : Plan) (listed : Array Bool) (f : Nat) (t : T) (σ : H) (hok : okPlan ops p none f listed = true) (h : vcPlan P n rob W ops Q p t σ) : awpAny P n rob W ops Q f listed t σ :=
  (vcPlan_both p listed f t σ h).1 hok
end
end Go.Ag
