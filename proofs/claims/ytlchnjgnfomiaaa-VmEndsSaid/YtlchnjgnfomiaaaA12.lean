/- A part of the proof: A12. -/
import Derived.Test.YtlchnjgnfomiaaaA9
set_option linter.unusedSimpArgs false
set_option linter.unusedVariables false
namespace Go.Ag
open Go

/-! ### Regions that draw their order -/
def Stab (W : Nat → Prop) (σ σ' : H) : Prop := ∀ b o, σ b = some o → ¬ W b → σ' b = some o
theorem Stab.refl (W : Nat → Prop) (σ : H) : Stab W σ σ := fun _ _ h _ => h
theorem Stab.trans {W : Nat → Prop} {σ σ' σ'' : H} (h : Stab W σ σ') (h' : Stab W σ' σ'') : Stab W σ σ'' := fun b o hb hw => h' b o (h b o hb hw) hw
theorem Stab.mono {W W' : Nat → Prop} {σ σ' : H} (h : Stab W σ σ') (hw : ∀ b, W b → W' b) : Stab W' σ σ' := fun b o hb hn => h b o hb fun hc => hn (hw b hc)

def notIn (W : Nat → Prop) : AV → Prop
  | .v (.pointer (some a)) => ¬ W a.block
  | .at b _ _ _ => ¬ W b
  | _ => True

/-- Operations whose value hangs on their operands alone, and loads. -/
def isPure : Op → Bool
  | .move _ | .assign _ | .pick .. | .build .. | .nilCheck _ | .binOp .. | .unOp .. | .convert .. | .makeInterface .. | .makeFunc .. | .fieldAddr .. | .field .. | .extract ..
  | .indexAddr .. | .index .. | .slice .. | .load .. => true
  | .call c => match c.callee with
    | .builtin .len => true
    | .builtin .min => true
    | .builtin .max => true
    | _ => false
  | _ => false
/-- Operations that change nothing that is there. -/
def noEffect : Op → Bool
  | .box .. | .alloc _ | .buildSlice .. | .makeSlice .. => true
  | o => isPure o

section
variable {P : Program} {rob : Nat → Bool} {σ : H}

theorem one_congr {t t' : T} {x : Operand} {K : AV → Prop} (h : aeval t x = aeval t' x) : one t x K = one t' x K := by
  unfold one; rw [h]
theorem aargs_congr {t t' : T} : ∀ {l : List Operand}, (∀ x ∈ l, aeval t x = aeval t' x) → aargs t l = aargs t' l
  | [], _ => rfl
  | x :: r, h => by simp only [aargs]; rw [h x List.mem_cons_self, aargs_congr (fun y hy => h y (List.mem_cons_of_mem _ hy))]
theorem aparts_congr {t t' : T} : ∀ {l : List (Nat × Operand)}, (∀ x ∈ l.map (·.2), aeval t x = aeval t' x) → aparts t l = aparts t' l
  | [], _ => rfl
  | (i, x) :: r, h => by simp only [aparts]; rw [h x (by simp), aparts_congr (fun y hy => h y (by simp at hy ⊢; exact .inr hy))]

theorem vcOp_congr {o : Oper} {t t' : T} {K : AV → H → Prop} {Kp : Value → H → Prop} (h : ∀ x ∈ o.op.operands, aeval t x = aeval t' x) : vcOp P rob o t σ K Kp = vcOp P rob o t' σ K Kp := by
  obtain ⟨dst, op, type, pos, after, guard⟩ := o
  cases op <;> simp only [Op.operands] at h <;> simp only [vcOp]
  case move x => exact one_congr (h x (by simp))
  case assign x => exact one_congr (h x (by simp))
  case pick c a b =>
    unfold one
    rw [h c (by simp), h a (by simp), h b (by simp)]
  case load ty x => exact one_congr (h x (by simp))
  case store ty x y => unfold one; rw [h x (by simp), h y (by simp)]
  case box ty x => exact one_congr (h x (by simp))
  case build ty ps => rw [aparts_congr (t' := t') (fun x hx => h x (by simpa using hx))]
  case buildSlice ty n ps => rw [aparts_congr (t' := t') (fun x hx => h x (by simpa using hx))]
  case nilCheck x => exact one_congr (h x (by simp))
  case binOp op ty x y ty' => unfold one; rw [h x (by simp), h y (by simp)]
  case unOp op ty x => exact one_congr (h x (by simp))
  case convert s d x => exact one_congr (h x (by simp))
  case makeInterface ty x => exact one_congr (h x (by simp))
  case makeFunc fn f c =>
    rw [aargs_congr (t' := t') (l := f.toList) (fun x hx => h x (by simp at hx ⊢; exact .inl hx)), aargs_congr (t' := t') (l := c.toList) (fun x hx => h x (by simp at hx ⊢; exact .inr hx))]
  case makeSlice ty x y => unfold one; rw [h x (by simp), h y (by simp)]
  case slice ty x lo hi mx =>
    cases mx with
    | some m => rfl
    | none =>
      have hx := h x (by simp)
      have hlo : lo.map (aeval t) = lo.map (aeval t') := by cases lo with
        | none => rfl
        | some l => simp only [Option.map_some]; rw [h l (by simp)]
      have hhi : hi.map (aeval t) = hi.map (aeval t') := by cases hi with
        | none => rfl
        | some l => simp only [Option.map_some]; rw [h l (by simp)]
      simp only [vcOp]
      unfold one
      rw [hx, hlo, hhi]
  case fieldAddr s x f => exact one_congr (h x (by simp))
  case field s x f => exact one_congr (h x (by simp))
  case indexAddr ty x i => unfold one; rw [h x (by simp), h i (by simp)]
  case index ty x i => unfold one; rw [h x (by simp), h i (by simp)]
  case extract x i => exact one_congr (h x (by simp))
  case panic x => exact one_congr (h x (by simp))
  case call c =>
    unfold vcCall
    have ha : aargs t c.args.toList = aargs t' c.args.toList := aargs_congr (fun x hx => h x (by simp [Call.operands]; exact .inr (by simpa using hx)))
    rw [ha]
    cases hc : c.callee with
    | builtin b => rfl
    | value f =>
      have := h f (by simp [Call.operands, hc])
      simp only [one, this]
    | invoke r m =>
      have := h r (by simp [Call.operands, hc])
      simp only [one, this]

/-- The value y, whatever is done beside it. -/
def YS (P : Program) (rob : Nat → Bool) (W : Nat → Prop) (o : Oper) (y : AV) (t : T) (σ : H) : Prop :=
  ∀ t' σ', (∀ x ∈ o.op.operands, aeval t' x = aeval t x) → Stab W σ σ' → ∀ (K : AV → H → Prop) (Kp : Value → H → Prop), K y σ' → vcOp P rob o t' σ' K Kp

theorem acells_stab {W : Nat → Prop} {σ σ' : H} {p : AV} {cs : List AV} (h : acells σ p = some cs) (hn : notIn W p) (hs : Stab W σ σ') : acells σ' p = some cs := by
  unfold acells at h ⊢
  split at h
  · rename_i b o
    split at h <;> try (cases h; done)
    rename_i cs' hb
    rw [hs b _ hb hn]; exact h
  · rename_i b i j sz
    split at h <;> try (cases h; done)
    rename_i e sz' xs hb
    rw [hs b _ hb hn]; exact h
  · exact h
  · cases h

theorem one_elim {t : T} {x : Operand} {K : AV → Prop} (h : one t x K) : ∃ y, aeval t x = some y ∧ K y := by
  unfold one at h
  split at h
  · exact ⟨_, by assumption, h⟩
  · exact h.elim
theorem one_intro {t : T} {x : Operand} {K : AV → Prop} {y : AV} (h : aeval t x = some y) (hk : K y) : one t x K := by
  unfold one; rw [h]; exact hk

theorem aindex_det {ty : TypeId} {x : AV} {k : Nat} {K : AV → Prop} (h : aindex P ty x k K) : ∃ y, K y ∧ ∀ K' : AV → Prop, K' y → aindex P ty x k K' := by
  unfold aindex at h ⊢
  split at h
  · split at h
    · obtain ⟨h1, h2⟩ := h
      have hr := List.getElem?_eq_getElem h1
      refine ⟨_, (h2 _ hr).2, fun K' hk => ⟨h1, fun r hr' => ?_⟩⟩
      rw [hr] at hr'; cases hr'
      exact ⟨(h2 _ hr).1, hk⟩
    · exact ⟨_, h.2.2, fun K' hk => ⟨h.1, h.2.1, hk⟩⟩
    · exact ⟨_, h.2.2, fun K' hk => ⟨h.1, h.2.1, hk⟩⟩
    · exact h.elim
  · split at h
    · exact ⟨_, h.2, fun K' hk => ⟨h.1, hk⟩⟩
    · exact h.elim
  · exact h.elim

theorem ASlice_det {ty : TypeId} {x : AV} {l n : Nat} {K : AV → Prop} (h : ASlice P ty x l n K) : ∃ y, K y ∧ ∀ K' : AV → Prop, K' y → ASlice P ty x l n K' := by
  unfold ASlice at h ⊢
  split at h <;> try (exact h.elim)
  split at h <;> try (exact h.elim)
  · exact ⟨_, h.2.2.2, fun K' hk => ⟨h.1, h.2.1, h.2.2.1, hk⟩⟩
  · exact ⟨_, h.2.2.2, fun K' hk => ⟨h.1, h.2.1, h.2.2.1, hk⟩⟩
  · exact ⟨_, h.2.2.2, fun K' hk => ⟨h.1, h.2.1, h.2.2.1, hk⟩⟩
  · exact ⟨_, h.2.2, fun K' hk => ⟨h.1, h.2.1, hk⟩⟩

theorem oneO_det {x : Option AV} {K : AV → Prop} (h : oneO x K) : ∃ y, K y ∧ ∀ K' : AV → Prop, K' y → oneO x K' := by
  unfold oneO at h ⊢
  split at h
  · exact ⟨_, h, fun _ hk => hk⟩
  · exact h.elim
theorem pickK_other {q : Bool} {x y : Option AV} {K : AV → Prop} (hno : ∀ a b, x = some (.v (.bool a)) → y = some (.v (.bool b)) → False) : pickK q x y K = ((q = true → oneO x K) ∧ (q = false → oneO y K)) := by
  unfold pickK
  split
  · exact (hno _ _ rfl rfl).elim
  · rfl
theorem pickK_det {q : Bool} {x y : Option AV} {K : AV → Prop} (h : pickK q x y K) : ∃ z, K z ∧ ∀ K' : AV → Prop, K' z → pickK q x y K' := by
  by_cases hb : ∃ a b, x = some (.v (.bool a)) ∧ y = some (.v (.bool b))
  · obtain ⟨a, b, rfl, rfl⟩ := hb
    exact ⟨_, h, fun _ hk => hk⟩
  · have hno : ∀ a b, x = some (.v (.bool a)) → y = some (.v (.bool b)) → False := fun a b h1 h2 => hb ⟨a, b, h1, h2⟩
    rw [pickK_other hno] at h
    cases q with
    | true =>
      obtain ⟨z, h1, h2⟩ := oneO_det (h.1 rfl)
      exact ⟨z, h1, fun K' hk => by rw [pickK_other hno]; exact ⟨fun _ => h2 _ hk, fun h => by cases h⟩⟩
    | false =>
      obtain ⟨z, h1, h2⟩ := oneO_det (h.2 rfl)
      exact ⟨z, h1, fun K' hk => by rw [pickK_other hno]; exact ⟨fun h => (by cases h), fun _ => h2 _ hk⟩⟩
theorem vcSlice_det {ty : TypeId} {y : AV} {d : Option TypeDesc} {lo hi : Option (Option AV)} {K : AV → Prop} (h : vcSlice P ty y d lo hi K) : ∃ z, K z ∧ ∀ K' : AV → Prop, K' z → vcSlice P ty y d lo hi K' := by
  unfold vcSlice at h ⊢
  split at h <;> try (exact h.elim)
  · exact ⟨_, h.2.2, fun _ hk => ⟨h.1, h.2.1, hk⟩⟩
  · exact ⟨_, h.2.2, fun _ hk => ⟨h.1, h.2.1, hk⟩⟩
  · exact ⟨_, h.2.2.2, fun _ hk => ⟨h.1, h.2.1, h.2.2.1, hk⟩⟩
  · obtain ⟨z, h1, h2⟩ := ASlice_det h.2
    exact ⟨z, h1, fun _ hk => ⟨h.1, h2 _ hk⟩⟩
  · split at h <;> try (exact h.elim)
    rename_i n hn
    obtain ⟨z, h1, h2⟩ := ASlice_det h.2.2
    exact ⟨z, h1, fun _ hk => ⟨h.1, h.2.1, h2 _ hk⟩⟩
  · obtain ⟨z, h1, h2⟩ := ASlice_det h.2.2
    exact ⟨z, h1, fun _ hk => ⟨h.1, h.2.1, h2 _ hk⟩⟩

theorem builtin_det {b : Builtin} {tl : List TypeId} {as : List AV} {K : AV → Prop} (hb : b = .len ∨ b = .min ∨ b = .max) (h : vcBuiltin P b tl as σ (fun y _ => K y)) :
    ∃ y, K y ∧ ∀ σ' (K' : AV → H → Prop), K' y σ' → vcBuiltin P b tl as σ' K' := by
  unfold vcBuiltin at h ⊢
  split at h <;> try (exact h.elim)
  · split at h <;> try (exact h.elim)
    rename_i n hn
    exact ⟨_, h, fun σ' K' hk => hk⟩
  · rcases hb with hb | hb | hb <;> cases hb
  · exact ⟨_, h, fun σ' K' hk => hk⟩
  · exact ⟨_, h, fun σ' K' hk => hk⟩

/-- A pure operation's step. -/
def vp (P : Program) (rob : Nat → Bool) (W : Nat → Prop) (o : Oper) (t : T) (σ : H) (K : AV → Prop) : Prop :=
  isPure o.op = true ∧ (match o.op with | .load _ x => one t x (notIn W) | _ => True) ∧ vcOp P rob o t σ (fun y _ => K y) (fun _ _ => False)

theorem vp_yields {W : Nat → Prop} {o : Oper} {t : T} {K : AV → Prop} (h : vp P rob W o t σ K) : ∃ y, K y ∧ YS P rob W o y t σ := by
  obtain ⟨hp, hl, h⟩ := h
  suffices hh : ∃ y, K y ∧ ∀ σ', Stab W σ σ' → ∀ (K : AV → H → Prop) (Kp : Value → H → Prop), K y σ' → vcOp P rob o t σ' K Kp by
    obtain ⟨y, h1, h2⟩ := hh
    exact ⟨y, h1, fun t' σ' ht hs K Kp hk => by rw [vcOp_congr (t' := t) ht]; exact h2 σ' hs K Kp hk⟩
  obtain ⟨dst, op, type, pos, after, guard⟩ := o
  cases op <;> simp only [isPure] at hp <;> try (cases hp; done)
  all_goals simp only [vcOp] at h ⊢
  case move x => obtain ⟨y, hy, hk⟩ := one_elim h; exact ⟨y, hk, fun σ' _ K Kp hk' => one_intro hy hk'⟩
  case assign x => obtain ⟨y, hy, hk⟩ := one_elim h; exact ⟨y, hk, fun σ' _ K Kp hk' => one_intro hy hk'⟩
  case pick c a b =>
    obtain ⟨q, hq, hk⟩ := one_elim h
    split at hk <;> try (exact hk.elim)
    rename_i q
    obtain ⟨y, h1, h2⟩ := pickK_det hk
    exact ⟨y, h1, fun σ' _ K Kp hk' => one_intro hq (h2 _ hk')⟩
  case load ty x =>
    obtain ⟨p, hpv, hn⟩ := one_elim hl
    obtain ⟨y, hy, hk⟩ := one_elim h
    rw [hpv] at hy
    cases hy
    split at hk <;> try (exact hk.elim)
    rename_i z hz
    refine ⟨z, hk, fun σ' hs K Kp hk' => one_intro hpv ?_⟩
    have : aload P σ' ty p = some z := by
      unfold aload at hz ⊢
      split at hz <;> try (cases hz; done)
      obtain ⟨cs, hcs, hz'⟩ := Option.bind_eq_some_iff.1 hz
      rw [acells_stab hcs hn hs]
      exact hz'
    rw [this]
    exact hk'
  case build ty ps =>
    split at h <;> try (exact h.elim)
    split at h <;> try (exact h.elim)
    exact ⟨_, h, fun σ' _ K Kp hk' => hk'⟩
  case nilCheck x =>
    obtain ⟨y, hy, hk⟩ := one_elim h
    refine ⟨y, ?_, fun σ' _ K Kp hk' => one_intro hy ?_⟩
    · split at hk <;> first | exact hk | exact hk.elim
    · split at hk <;> first | exact hk' | exact hk.elim
  case binOp op ty x y ty' =>
    obtain ⟨p, hpv, h⟩ := one_elim h
    obtain ⟨q, hqv, h⟩ := one_elim h
    split at h <;> try (exact h.elim)
    rename_i c z hz
    exact ⟨z, h.2, fun σ' _ K Kp hk' => one_intro hpv (one_intro hqv (by simp only [hz]; exact ⟨h.1, hk'⟩))⟩
  case unOp op ty x =>
    obtain ⟨p, hpv, h⟩ := one_elim h
    split at h <;> try (exact h.elim)
    rename_i z hz
    exact ⟨z, h, fun σ' _ K Kp hk' => one_intro hpv (by simp only [hz]; exact hk')⟩
  case convert s d x =>
    obtain ⟨p, hpv, h⟩ := one_elim h
    split at h <;> try (exact h.elim)
    rename_i z hz
    exact ⟨z, h.2, fun σ' _ K Kp hk' => one_intro hpv (by simp only [hz]; exact ⟨h.1, hk'⟩)⟩
  case makeInterface ty x =>
    obtain ⟨p, hpv, h⟩ := one_elim h
    split at h <;> try (exact h.elim)
    rename_i v d hv hd
    refine ⟨.v (.iface ty v), ?_, fun σ' _ K Kp hk' => one_intro hpv ?_⟩
    · cases d <;> first | exact h | exact h.elim
    · simp only [hv, hd]
      cases d <;> first | exact hk' | exact h.elim
  case makeFunc fn f c =>
    split at h <;> try (exact h.elim)
    rename_i h1 h2
    split at h <;> try (exact h.elim)
    exact ⟨_, h, fun σ' _ K Kp hk' => hk'⟩
  case slice ty x lo hi mx =>
    cases mx with
    | some m => exact h.elim
    | none =>
    simp only [vcOp] at h ⊢
    obtain ⟨y, hy, h⟩ := one_elim h
    obtain ⟨z, h1, h2⟩ := vcSlice_det h
    exact ⟨z, h1, fun σ' _ K Kp hk' => one_intro hy (h2 _ hk')⟩
  case fieldAddr s x f =>
    obtain ⟨p, hpv, h⟩ := one_elim h
    split at h <;> try (exact h.elim)
    rename_i n hn
    split at h <;> try (exact h.elim)
    rename_i z hz
    exact ⟨z, h, fun σ' _ K Kp hk' => one_intro hpv (by simp only [hn, hz]; exact hk')⟩
  case field s x f =>
    obtain ⟨p, hpv, h⟩ := one_elim h
    split at h <;> try (exact h.elim)
    rename_i z hz
    exact ⟨z, h, fun σ' _ K Kp hk' => one_intro hpv (by simp only [hz]; exact hk')⟩
  case indexAddr ty x i =>
    obtain ⟨p, hpv, h⟩ := one_elim h
    obtain ⟨q, hqv, h⟩ := one_elim h
    split at h <;> try (exact h.elim)
    obtain ⟨y, h1, h2⟩ := aindex_det h.2
    exact ⟨y, h1, fun σ' _ K Kp hk' => one_intro hpv (one_intro hqv ⟨h.1, h2 _ hk'⟩)⟩
  case index ty x i =>
    obtain ⟨p, hpv, h⟩ := one_elim h
    obtain ⟨q, hqv, h⟩ := one_elim h
    split at h <;> try (exact h.elim)
    rename_i c z hz
    exact ⟨z, h.2, fun σ' _ K Kp hk' => one_intro hpv (one_intro hqv (by simp only [hz]; exact ⟨h.1, hk'⟩))⟩
  case extract x i =>
    obtain ⟨p, hpv, h⟩ := one_elim h
    split at h <;> try (exact h.elim)
    rename_i vs
    split at h <;> try (exact h.elim)
    rename_i z hz
    exact ⟨z, h, fun σ' _ K Kp hk' => one_intro hpv (by simp only [hz]; exact hk')⟩
  case call c =>
    obtain ⟨callee, args, tys⟩ := c
    unfold vcCall at h ⊢
    dsimp only at h hp ⊢
    split at h <;> try (exact h.elim)
    rename_i as has
    cases callee with
    | value f => cases hp
    | invoke r m => cases hp
    | builtin b =>
    dsimp only at h hp ⊢
    obtain ⟨y, h1, h2⟩ := builtin_det (by
      cases b <;> first | (cases hp; done) | simp) h
    exact ⟨y, h1, fun σ' _ K Kp hk' => h2 σ' K hk'⟩

/-! ### Any order -/
/-- An operation with its guard. -/
def vpG (P : Program) (rob : Nat → Bool) (W : Nat → Prop) (ops : Array Oper) (o : Oper) (t : T) (σ : H) (K : AV → Prop) : Prop :=
  match o.guard with
  | none => vp P rob W o t σ K
  | some (j, want) => (match (ops[j]?).bind (·.dst) with
    | some d => (match t.get d with
      | some (.v (.bool q)) => (q = want → vp P rob W o t σ K) ∧ (q = !want → K (.v undef))
      | some (.v (.tuple _)) => K (.v undef)
      | _ => False)
    | none => False)
def vcG (P : Program) (rob : Nat → Bool) (ops : Array Oper) (o : Oper) (t : T) (σ : H) (K : AV → H → Prop) (Kp : Value → H → Prop) : Prop :=
  match o.guard with
  | none => vcOp P rob o t σ K Kp
  | some (j, want) => (match (ops[j]?).bind (·.dst) with
    | some d => (match t.get d with
      | some (.v (.bool q)) => (q = want → vcOp P rob o t σ K Kp) ∧ (q = !want → K (.v undef) σ)
      | some (.v (.tuple _)) => K (.v undef) σ
      | _ => False)
    | none => False)

/-- Frames that agree on what an operation looks at. -/
def Agree (ops : Array Oper) (o : Oper) (t t' : T) : Prop := ∀ d ∈ o.looksAt ops, t.get d = t'.get d
theorem Agree.eval {ops : Array Oper} {o : Oper} {t t' : T} (h : Agree ops o t t') : ∀ x ∈ o.op.operands, aeval t x = aeval t' x := by
  intro x hx
  cases x with
  | tmp d => exact h d (List.mem_append_left _ (List.mem_filterMap.2 ⟨.tmp d, by simpa using hx, rfl⟩))
  | const v => rfl
  | global g => rfl
  | func f => rfl
theorem Agree.guard {ops : Array Oper} {o : Oper} {t t' : T} (h : Agree ops o t t') {j : Nat} {want : Bool} (hg : o.guard = some (j, want)) {d : Nat} (hd : (ops[j]?).bind (·.dst) = some d) : t.get d = t'.get d :=
  h d (List.mem_append_right _ (by simp [hg, hd]))

theorem vcG_congr {ops : Array Oper} {o : Oper} {t t' : T} {K : AV → H → Prop} {Kp : Value → H → Prop} (h : Agree ops o t t') : vcG P rob ops o t σ K Kp = vcG P rob ops o t' σ K Kp := by
  unfold vcG
  split
  · exact vcOp_congr h.eval
  · rename_i j want hg
    split
    · rename_i d hd
      rw [h.guard hg hd, vcOp_congr h.eval]
    · rfl

/-- The value y, guard and all, whatever is done beside it. -/
def YG (P : Program) (rob : Nat → Bool) (W : Nat → Prop) (ops : Array Oper) (o : Oper) (y : AV) (t : T) (σ : H) : Prop :=
  ∀ t' σ', Agree ops o t' t → Stab W σ σ' → ∀ (K : AV → H → Prop) (Kp : Value → H → Prop), K y σ' → vcG P rob ops o t' σ' K Kp

theorem vpG_yields {W : Nat → Prop} {ops : Array Oper} {o : Oper} {t : T} {K : AV → Prop} (h : vpG P rob W ops o t σ K) : ∃ y, K y ∧ YG P rob W ops o y t σ := by
  unfold vpG at h
  split at h
  · rename_i hg
    obtain ⟨y, h1, h2⟩ := vp_yields h
    exact ⟨y, h1, fun t' σ' ha hs K Kp hk => by unfold vcG; rw [hg]; exact h2 t' σ' ha.eval hs K Kp hk⟩
  · rename_i j want hg
    split at h <;> try (exact h.elim)
    rename_i d hd
    have key : ∀ (t' : T), Agree ops o t' t → t'.get d = t.get d := fun t' ha => ha.guard hg hd
    split at h <;> try (exact h.elim)
    · rename_i q hq
      by_cases hqw : q = want
      · obtain ⟨y, h1, h2⟩ := vp_yields (h.1 hqw)
        refine ⟨y, h1, fun t' σ' ha hs K Kp hk => ?_⟩
        unfold vcG
        rw [hg]
        simp only [hd, key t' ha, hq]
        exact ⟨fun _ => h2 t' σ' ha.eval hs K Kp hk, fun hn => absurd (hqw.symm.trans hn) (by cases want <;> simp)⟩
      · have hqn : q = !want := by cases q <;> cases want <;> simp_all
        refine ⟨_, h.2 hqn, fun t' σ' ha hs K Kp hk => ?_⟩
        unfold vcG
        rw [hg]
        simp only [hd, key t' ha, hq]
        exact ⟨fun hh => absurd hh hqw, fun _ => hk⟩
    · rename_i vs hq
      refine ⟨_, h, fun t' σ' ha hs K Kp hk => ?_⟩
      unfold vcG
      rw [hg]
      simp only [hd, key t' ha, hq]
      exact hk
end
end Go.Ag
