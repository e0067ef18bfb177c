/- A part of the proof: A10. -/
import Derived.Test.YtlchnjgnfomiaaaA9
import Derived.Deep.LoopGhost
set_option linter.unusedSimpArgs false
set_option linter.unusedVariables false
namespace Go.Ag
open Go

inductive AExit where
  | normal
  | exit (id : Nat)
  | ret
  | pan (v : Value)

def T.put (t : T) (dst : Option Tmp) (y : AV) : T :=
  match dst with
  | some d => (d, y) :: t
  | none => t
def Sub : T → T → Prop
  | [], _ => True
  | (i, x) :: r, t => t.get i = some x ∧ Sub r t

abbrev AQ := AExit → T → H → Prop
def thenQ (K : T → H → Prop) (Q : AQ) : AQ
  | .normal, t, σ => K t σ
  | .exit id, t, σ => Q (.exit id) t σ
  | .ret, t, σ => Q .ret t σ
  | .pan v, t, σ => Q (.pan v) t σ
def blockQ (id : Nat) (Q : AQ) : AQ
  | .normal, t, σ => Q .normal t σ
  | .exit id', t, σ => if id' = id then Q .normal t σ else Q (.exit id') t σ
  | .ret, t, σ => Q .ret t σ
  | .pan v, t, σ => Q (.pan v) t σ
def dstOk (n : Nat) : Option Tmp → Bool
  | some d => d < n
  | none => true

/-- An operation whose guard is known. -/
def vcOps (P : Program) (n : Nat) (rob : Nat → Bool) (all : List Oper) (Q : AQ) : List Oper → T → H → Prop
  | [], t, σ => Q .normal t σ
  | o :: r, t, σ => dstOk n o.dst = true ∧
    match o.guard with
    | none => vcOp P rob o t σ (fun y σ' => vcOps P n rob all Q r (t.put o.dst y) σ') (fun v σ' => Q (.pan v) t σ')
    | some (j, want) => (match (all[j]?).bind (·.dst) with
      | some d => (match t.get d with
        | some (.v (.bool q)) =>
          (q = want → vcOp P rob o ((d, .v (.bool want)) :: t) σ (fun y σ' => vcOps P n rob all Q r (T.put ((d, .v (.bool want)) :: t) o.dst y) σ') (fun v σ' => Q (.pan v) t σ')) ∧
          (q = !want → vcOps P n rob all Q r (T.put ((d, .v (.bool !want)) :: t) o.dst (.v undef)) σ)
        | some (.v (.tuple _)) => vcOps P n rob all Q r (t.put o.dst (.v undef)) σ
        | _ => False)
      | none => False)

/-- The relation at a point of the code. -/
structure Good (n : Nat) (σ0 : H) (w0 : World) (R : T → H → Prop) (a : Act) (w : World) : Prop where
  defers : a.defers = []
  size : a.tmps.size = n
  ex : ∃ t σ, R t σ ∧ TR t a.tmps w (dom σ) ∧ HR σ w ∧ Le (dom σ0) w0 w ∧ DomOk w0 (dom σ0) (dom σ)

def γ (n : Nat) (Q : AQ) (σ0 : H) (w0 : World) : Exit → Act → World → Prop
  | .normal, a, w => Good n σ0 w0 (Q .normal) a w
  | .exit id, a, w => Good n σ0 w0 (Q (.exit id)) a w
  | .ret, a, w => Good n σ0 w0 (Q .ret) a w
  | .panic ch, a, w => ∃ v, ch = [{ v := v, recovered := false }] ∧ Good n σ0 w0 (Q (.pan v)) a w
  | _, _, _ => False

theorem Good.mono {n : Nat} {σ0 : H} {w0 : World} {R R' : T → H → Prop} {a : Act} {w : World} (h : Good n σ0 w0 R a w) (hr : ∀ t σ, R t σ → R' t σ) : Good n σ0 w0 R' a w :=
  ⟨h.defers, h.size, let ⟨t, σ, h1, h2⟩ := h.ex; ⟨t, σ, hr _ _ h1, h2⟩⟩
theorem Good.trans {n : Nat} {σ0 σ1 : H} {w0 w1 : World} {R : T → H → Prop} {a : Act} {w : World} (hle : Le (dom σ0) w0 w1) (hd : DomOk w0 (dom σ0) (dom σ1)) (h : Good n σ1 w1 R a w) : Good n σ0 w0 R a w :=
  ⟨h.defers, h.size, let ⟨t, σ, h1, h2, h3, h4, h5⟩ := h.ex; ⟨t, σ, h1, h2, h3, hle.trans h4 hd, hd.trans h5 hle.size⟩⟩
theorem γ.trans {n : Nat} {Q : AQ} {σ0 σ1 : H} {w0 w1 : World} {e : Exit} {a : Act} {w : World} (hle : Le (dom σ0) w0 w1) (hd : DomOk w0 (dom σ0) (dom σ1)) (h : γ n Q σ1 w1 e a w) : γ n Q σ0 w0 e a w := by
  cases e <;> simp only [γ] at h ⊢
  case normal => exact h.trans hle hd
  case exit id => exact h.trans hle hd
  case ret => exact h.trans hle hd
  case panic ch => obtain ⟨v, h1, h2⟩ := h; exact ⟨v, h1, h2.trans hle hd⟩

section
variable {P : Program} {n : Nat} {rob : Nat → Bool}

theorem TR.put {t : T} {a : Act} {w : World} {D : Nat → Prop} {dst : Option Tmp} {y : AV} {u : Value} (hT : TR t a.tmps w D) (hs : a.tmps.size = n) (hd : dstOk n dst = true) (hy : VR w D y u) : TR (t.put dst y) (a.put dst u).tmps w D := by
  cases dst with
  | none => exact hT
  | some d =>
    simp only [dstOk, decide_eq_true_eq] at hd
    intro i x hx
    simp only [T.put, T.get] at hx
    simp only [Act.put]
    split at hx
    · rename_i hdi
      subst hdi
      cases hx
      exact ⟨u, by rw [Array.getElem?_setIfInBounds_self_of_lt (Nat.lt_of_lt_of_le hd (Nat.le_of_eq hs.symm))], hy⟩
    · rename_i hdi
      obtain ⟨v, h1, h2⟩ := hT i x hx
      exact ⟨v, by rw [Array.getElem?_setIfInBounds_ne hdi]; exact h1, h2⟩
theorem put_size (a : Act) (dst : Option Tmp) (u : Value) : (a.put dst u).tmps.size = a.tmps.size := by
  cases dst <;> simp [Act.put]
theorem put_defers (a : Act) (dst : Option Tmp) (u : Value) : (a.put dst u).defers = a.defers := by
  cases dst <;> rfl
theorem Sub.tr {t' t : T} {tmps : Array Value} {w : World} {D : Nat → Prop} (h : Sub t' t) (hT : TR t tmps w D) : TR t' tmps w D := by
  induction t' with
  | nil => intro i x hx; cases hx
  | cons p r ih =>
    obtain ⟨j, y⟩ := p
    obtain ⟨h1, h2⟩ := h
    intro i x hx
    simp only [T.get] at hx
    split at hx
    · rename_i hji; subst hji; cases hx; exact hT _ _ h1
    · exact ih h2 i x hx

theorem TR.known {t : T} {tmps : Array Value} {w : World} {D : Nat → Prop} {d : Nat} {x y : AV} (hT : TR t tmps w D) (hd : t.get d = some x) (he : x = y) : TR ((d, y) :: t) tmps w D := by
  subst he
  intro i z hz
  simp only [T.get] at hz
  split at hz
  · rename_i h; subst h; cases hz; exact hT _ _ hd
  · exact hT i z hz

theorem Oper.wp_mono2 {o : Oper} {a : Act} {w : World} {K K' : Act → World → Prop} {Q Q' : Exit → Act → World → Prop} (h : ∀ a w, K a w → K' a w) (hq : ∀ e a w, Q e a w → Q' e a w)
    (hh : o.wp P a w K Q) : o.wp P a w K' Q' := by
  unfold Oper.wp at *
  generalize (execOp a.eval o).run P w = r at *
  cases r with
  | ok n w' =>
    cases n <;> simp only [Oper.upon] at hh ⊢ <;>
      first
        | exact h _ _ hh
        | exact Calls.mono hh (fun e w'' he => by
            cases e
            · exact h _ _ he
            · exact hq _ _ _ he
            · obtain ⟨a1, w1, h1⟩ := he; exact ⟨a1, w1, hq _ _ _ h1⟩)
        | exact Rows.mono hh (fun _ _ he => h _ _ he)
  | halt x w' => cases x <;> simp only [Oper.upon] at hh ⊢ <;> first | exact hq _ _ _ hh | exact hh

theorem wpList_mono {ops : Array Oper} {Q Q' : Exit → Act → World → Prop} (hq : ∀ e a w, Q e a w → Q' e a w) : ∀ (l : List Oper) (a : Act) (w : World), wpList P ops Q l a w → wpList P ops Q' l a w
  | [], a, w, h => hq _ _ _ h
  | o :: r, a, w, h => by
    unfold wpList at h ⊢
    split
    · rename_i hw
      rw [if_pos hw] at h
      rcases h with h | ⟨h1, a1, w1, h2⟩
      · exact .inl (Oper.wp_mono2 (wpList_mono hq r) hq h)
      · exact .inr ⟨h1, a1, w1, hq _ _ _ h2⟩
    · rename_i hw
      rw [if_neg hw] at h
      exact wpList_mono hq r _ _ h

theorem vcOps_sound {all : List Oper} {Q : AQ} : ∀ (ops : List Oper) (t : T) (σ : H) (a : Act) (w : World), vcOps P n rob all Q ops t σ → TR t a.tmps w (dom σ) → HR σ w → a.defers = [] → a.tmps.size = n →
    wpList P all.toArray (γ n Q σ w) ops a w
  | [], t, σ, a, w, h, hT, hR, hd, hs => ⟨hd, hs, t, σ, h, hT, hR, Le.refl _ _, DomOk.refl _ _⟩
  | o :: r, t, σ, a, w, h, hT, hR, hd, hs => by
    simp only [vcOps] at h
    obtain ⟨hdst, h⟩ := h
    have cont : ∀ (t' : T), TR t' a.tmps w (dom σ) → vcOp P rob o t' σ (fun y σ' => vcOps P n rob all Q r (t'.put o.dst y) σ') (fun v σ' => Q (.pan v) t σ') →
        o.wp P a w (wpList P all.toArray (γ n Q σ w) r) (γ n Q σ w) := by
      intro t' hT' h'
      refine vcOp_sound h' hT' hR (fun y u σ' w' hk hv hR' hle hdo => ?_) (fun v σ' w' hp hR' hle hdo => ?_)
      · have := vcOps_sound r (t'.put o.dst y) σ' (a.put o.dst u) w' hk ((hT'.mono hle hdo).put hs hdst hv) hR' (by rw [put_defers]; exact hd) (by rw [put_size]; exact hs)
        exact wpList_mono (fun e a'' w'' hq => hq.trans hle hdo) r _ _ this
      · exact ⟨v, rfl, hd, hs, t, σ', hp, hT.mono hle hdo, hR', hle, hdo⟩
    have skip : ∀ (t' : T), TR t' a.tmps w (dom σ) → vcOps P n rob all Q r (t'.put o.dst (.v undef)) σ → wpList P all.toArray (γ n Q σ w) r (a.put o.dst undef) w := by
      intro t' hT' h'
      exact vcOps_sound r _ σ _ w h' (hT'.put hs hdst (.v _)) hR (by rw [put_defers]; exact hd) (by rw [put_size]; exact hs)
    split at h
    · rename_i hg
      unfold wpList
      rw [if_pos (by simp [Region.wanted, hg])]
      exact .inl (cont t hT h)
    · rename_i j want hg
      split at h <;> try (exact h.elim)
      rename_i d hd'
      have hy : ∀ v, a.tmps[d]? = some v → yielded all.toArray a.tmps j = (match v with | .bool b => some b | _ => none) := by
        intro v hv
        unfold yielded
        have : ((all.toArray[j]?).bind (·.dst)) = some d := by simpa using hd'
        rw [this]
        simp only [Option.bind_some, hv]
        split <;> simp_all
      split at h <;> try (exact h.elim)
      · rename_i q hq
        obtain ⟨v, hv1, hv2⟩ := hT d _ hq
        cases hv2
        unfold wpList
        by_cases hqw : q = want
        · rw [if_pos (by simp [Region.wanted, hg, hy _ hv1, hqw])]
          exact .inl (cont _ (hT.known hq (by rw [hqw])) (h.1 hqw))
        · have hqn : q = !want := by cases q <;> cases want <;> simp_all
          rw [if_neg (by simp [Region.wanted, hg, hy _ hv1, hqw])]
          exact skip _ (hT.known hq (by rw [hqn])) (h.2 hqn)
      · rename_i vs hq
        obtain ⟨v, hv1, hv2⟩ := hT d _ hq
        cases hv2
        unfold wpList
        rw [if_neg (by simp [Region.wanted, hg, hy _ hv1])]
        exact skip t hT h

/-! ### Regions in parts -/
theorem Oper.wp_mono3 {o : Oper} {a : Act} {w : World} {K K' : Act → World → Prop} {Q Q' : Exit → Act → World → Prop} (h : ∀ a w, K a w → K' a w) (hq : ∀ e a w, e ≠ .normal → Q e a w → Q' e a w)
    (hh : o.wp P a w K Q) : o.wp P a w K' Q' := by
  unfold Oper.wp at *
  generalize (execOp a.eval o).run P w = r at *
  cases r with
  | ok n w' =>
    cases n <;> simp only [Oper.upon] at hh ⊢ <;>
      first
        | exact h _ _ hh
        | exact Calls.mono hh (fun e w'' he => by
            cases e
            · exact h _ _ he
            · exact hq _ _ _ (by simp) he
            · obtain ⟨a1, w1, h1⟩ := he; exact ⟨a1, w1, hq _ _ _ (by simp) h1⟩)
        | exact Rows.mono hh (fun _ _ he => h _ _ he)
  | halt x w' => cases x <;> simp only [Oper.upon] at hh ⊢ <;> first | exact hq _ _ _ (by simp) hh | exact hh

theorem wpList_append {ops : Array Oper} {Q : Exit → Act → World → Prop} {l2 : List Oper} : ∀ (l1 : List Oper) (a : Act) (w : World),
    wpList P ops (fun e a w => (e = .normal → wpList P ops Q l2 a w) ∧ (e ≠ .normal → Q e a w)) l1 a w → wpList P ops Q (l1 ++ l2) a w
  | [], a, w, h => h.1 rfl
  | o :: r, a, w, h => by
    simp only [List.cons_append]
    unfold wpList at h ⊢
    split
    · rename_i hw
      rw [if_pos hw] at h
      rcases h with h | ⟨h1, a1, w1, h2⟩
      · exact .inl (Oper.wp_mono3 (wpList_append r) (fun e a w he hq => hq.2 he) h)
      · exact .inr ⟨h1, a1, w1, h2.2 (by simp)⟩
    · rename_i hw
      rw [if_neg hw] at h
      exact wpList_append r _ _ h

def T.keep (t : T) : List Nat → T
  | [] => []
  | i :: l => match t.get i with
    | some x => (i, x) :: t.keep l
    | none => t.keep l
theorem sub_keep (t : T) : ∀ l : List Nat, Sub (t.keep l) t
  | [] => trivial
  | i :: l => by
    unfold T.keep
    split
    · rename_i x hx; exact ⟨hx, sub_keep t l⟩
    · exact sub_keep t l

/-- A part of a region: so many operations; where d is given, they come to one value, that of d, and nothing else changes. -/
structure Seg where
  len : Nat
  d : Option Tmp := none
  live : List Tmp := []
def joinQ (d : Tmp) (y : AV) (lv : List Tmp) (t0 : T) (σ0 : H) (Q : AQ) : AQ
  | .normal, t, σ => t.get d = some y ∧ Sub (t0.keep lv) t ∧ σ = σ0
  | .pan v, t, σ => Q (.pan v) t σ
  | _, _, _ => False
def vcSegs (P : Program) (n : Nat) (rob : Nat → Bool) (all : List Oper) (Q : AQ) : List Seg → List Oper → T → H → Prop
  | [], l, t, σ => vcOps P n rob all Q l t σ
  | s :: r, l, t, σ => match s.d with
    | none => vcOps P n rob all (thenQ (vcSegs P n rob all Q r (l.drop s.len)) Q) (l.take s.len) t σ
    | some d => ∃ b : Bool, vcOps P n rob all (joinQ d (.v (.bool b)) s.live t σ Q) (l.take s.len) t σ ∧ vcSegs P n rob all Q r (l.drop s.len) ((d, .v (.bool b)) :: t.keep s.live) σ

theorem vcSegs_sound {all : List Oper} {Q : AQ} : ∀ (segs : List Seg) (ops : List Oper) (t : T) (σ : H) (a : Act) (w : World), vcSegs P n rob all Q segs ops t σ → TR t a.tmps w (dom σ) → HR σ w → a.defers = [] → a.tmps.size = n →
    wpList P all.toArray (γ n Q σ w) ops a w
  | [], ops, t, σ, a, w, h, hT, hR, hd, hs => vcOps_sound ops t σ a w h hT hR hd hs
  | s :: r, ops, t, σ, a, w, h, hT, hR, hd, hs => by
    rw [← List.take_append_drop s.len ops]
    refine wpList_append _ _ _ ?_
    unfold vcSegs at h
    split at h
    · refine wpList_mono (fun e a' w' hq => ?_) _ _ _ (vcOps_sound (ops.take s.len) t σ a w h hT hR hd hs)
      constructor
      · rintro rfl
        obtain ⟨h1, h2, t', σ', h3, h4, h5, h6, h7⟩ := hq
        exact wpList_mono (fun e a'' w'' hq' => hq'.trans h6 h7) _ _ _ (vcSegs_sound r _ t' σ' a' w' h3 h4 h5 h1 h2)
      · intro he
        cases e <;> first | exact absurd rfl he | exact hq
    · rename_i d hd'
      obtain ⟨b, h, hr⟩ := h
      refine wpList_mono (fun e a' w' hq => ?_) _ _ _ (vcOps_sound (ops.take s.len) t σ a w h hT hR hd hs)
      constructor
      · rintro rfl
        obtain ⟨h1, h2, t', σ', ⟨h3, h3', rfl⟩, h4, h5, h6, h7⟩ := hq
        have hT' : TR ((d, .v (.bool b)) :: t.keep s.live) a'.tmps w' (dom σ') := Sub.tr (t := t') ⟨h3, h3'⟩ h4
        exact wpList_mono (fun e a'' w'' hq' => hq'.trans h6 h7) _ _ _ (vcSegs_sound r _ _ _ a' w' hr hT' h5 h1 h2)
      · intro he
        cases e
        case normal => exact absurd rfl he
        case panic ch => exact hq
        case ret => obtain ⟨_, _, _, _, h3, _⟩ := hq; exact h3.elim
        case exit id => obtain ⟨_, _, _, _, h3, _⟩ := hq; exact h3.elim
        all_goals exact hq

/-- What is kept of the frame. -/
def keepQ (lv : Option (List Tmp)) (Q : AQ) : AQ
  | .normal, t, σ => Q .normal (match lv with | some l => t.keep l | none => t) σ
  | e, t, σ => Q e t σ
theorem keepQ_sound {lv : Option (List Tmp)} {Q : AQ} {σ : H} {w : World} {e : Exit} {a' : Act} {w' : World} (h : γ n (keepQ lv Q) σ w e a' w') : γ n Q σ w e a' w' := by
  cases e
  case normal =>
    obtain ⟨h1, h2, t', σ', h3, h4, h5⟩ := h
    cases lv with
    | none => exact ⟨h1, h2, t', σ', h3, h4, h5⟩
    | some l => exact ⟨h1, h2, t'.keep l, σ', h3, (sub_keep t' l).tr h4, h5⟩
  all_goals exact h
end
end Go.Ag
